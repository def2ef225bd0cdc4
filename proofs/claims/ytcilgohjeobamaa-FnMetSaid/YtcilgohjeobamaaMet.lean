/- The law on demands that are met, plain; a list of demands drawn off a code. -/
import Derived.Test.YtcilgohjeobamaaDM
import Derived.Test.YtcilgohjeobamaaDec
set_option linter.unusedSimpArgs false
set_option linter.unusedVariables false
namespace Go.Proofs.Ytcilgohjeobamaa
open Go.RowKit

theorem met_law {F : Nat → Int} {nF : Nat} {o : Int} {n k : Nat} {xs ys : Nat → Int} (h : miV F nF o n xs = true) (hk : k < n) (hy : ys k = -xs k) : fokB n xs = true ∧ miV F nF o n ys = false := by
  unfold miV at h ⊢
  simp only [Bool.and_eq_true] at h
  have hf := dmB_f h.1.2
  refine ⟨hf, ?_⟩
  have hm := metB_t h.2 k hk
  have hr := fokB_rng hf hk
  have hno : metE F (ys k) = false := by
    rw [hy]
    unfold metE at hm ⊢
    rcases hr with ⟨h1, h2⟩ | ⟨h1, h2⟩
    · rw [if_pos (by omega)] at hm
      rw [if_neg (by omega), if_pos (by omega), Int.neg_neg]
      rw [beq_iff_eq] at hm
      rw [hm]
      rfl
    · rw [if_neg (by omega), if_pos (by omega)] at hm
      rw [if_pos (by omega)]
      rw [beq_iff_eq] at hm
      rw [hm]
      rfl
  rw [metB_no hk hno]
  simp
def zsN (n : Nat) (xs : Nat → Int) : List Int := (List.range n).map xs
theorem zsN_len (n : Nat) (xs : Nat → Int) : (zsN n xs).length = n := by unfold zsN; simp
theorem zsN_get (n : Nat) (xs : Nat → Int) (j : Nat) (h : j < n) : (zsN n xs).getD j 0 = xs j := by
  unfold zsN
  rw [List.getD_eq_getElem?_getD, List.getElem?_map, List.getElem?_range h]
  rfl
def DrewN (D : List (List Int × Int)) (w w' : World) (e : Ending) : Prop :=
  ∃ (AD : Option Addr) (cd : Nat) (fa : Nat → Option Addr) (fc : Nat → Nat), e = .returned (.slice AD D.length cd) ∧ D.length ≤ 4 ∧ Dems w' w'.heap.size AD D.length fa (lenD D) fc (facD D) (outD D) ∧ Below w.heap.size w w'
theorem drawIsDemands_ex (m : Nat) (bs : Nat → Int) (hm : m ≤ 100000) (hb : ∀ j, 0 ≤ bs j ∧ bs j ≤ 255) : ∃ (D : List (List Int × Int)),
    ∀ (A : Option Addr) (c : Nat) (w : World), Nums .u8 w w.heap.size A m bs → Calls Try.prog 19 #[.slice A m c] w fun e w' => DrewN D w w' e := by
  obtain ⟨Q, hQ⟩ : ∃ Q, drawDm m bs (0, fromV bs (min m 64)) = Q := ⟨_, rfl⟩
  refine ⟨Q.1, ?_⟩
  intro A c w hc
  go_enter Try.func19, Try.ntmps19
  go_wp2_with fail
  refine (from_any _ _ _ _ _ _ hc (Nat.le_refl _) hm hb).mono ?_
  rintro e w1 ⟨rfl, hS1, hb1⟩
  have hz1 := hS1.lt
  have hz1' := hb1.size
  go_wp2_with fail
  refine (l18DrawDemands_any _ _ _ _ _ _ hS1).mono ?_
  rw [hQ]
  rintro e w3 ⟨v3, E, rfl, hE, hE4, hown3, hrows3, hS3, hg3⟩
  obtain ⟨AD, cd, rfl, hnd, hcd⟩ := own_form hown3
  have hl3 : Q.1.length = E.length := by rw [← hE, List.length_map]
  obtain ⟨fa, fc, hDm, -⟩ := dems_of_drew hE hown3 rfl hrows3
  have hB := hb1.trans (below_only hg3 hz1' (fun k e => by injection e with e; omega))
  clear hown3 hrows3 hS1 hS3 hg3 hE
  generalize E.length = kd at *
  subst hl3
  go_wp2
  go_ret
  exact ⟨AD, cd, fa, fc, rfl, hE4, hDm, hB⟩
end Go.Proofs.Ytcilgohjeobamaa
