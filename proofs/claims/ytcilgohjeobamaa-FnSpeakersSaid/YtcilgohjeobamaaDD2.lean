/- The draws of hearings and demands, off a code. -/
import Derived.Test.YtcilgohjeobamaaDD
import Derived.Test.YtcilgohjeobamaaArgsD
import Derived.Test.YtcilgohjeobamaaTurn2
set_option linter.unusedSimpArgs false
set_option linter.unusedVariables false
namespace Go.Proofs.Ytcilgohjeobamaa
open Go.RowKit Go.ChangeShapes Go.WideShapes Go.Deep

def lenD (D : List (List Int × Int)) (i : Nat) : Nat := (D.getD i ([], 0)).1.length
def facD (D : List (List Int × Int)) (i j : Nat) : Int := (D.getD i ([], 0)).1.getD j 0
def outD (D : List (List Int × Int)) (i : Nat) : Int := (D.getD i ([], 0)).2
/-- Demands that were drawn, read as a list. -/
theorem dems_of_drew {w : World} {base n c : Nat} {A : Option Addr} {E : List (Value × List Int × Int)} {D : List (List Int × Int)} (hD : E.map (·.2) = D) (ho : w.ownsRow base 33 2 (.slice A n c) n (flatD E)) (hE : E.length = n) (hr : RowsD w base E) :
    ∃ (fa : Nat → Option Addr) (fc : Nat → Nat), Dems w w.heap.size A n fa (lenD D) fc (facD D) (outD D) ∧ ∀ i, i < n → ∀ p, fa i = some p → base ≤ p.block := by
  subst hD
  have hget : ∀ i (hi : i < n), E[i]? = some (E[i]'(by omega)) := fun i hi => List.getElem?_eq_getElem (by omega)
  have hDi : ∀ i (hi : i < n), (E.map (·.2)).getD i ([], 0) = (E[i]'(by omega)).2 := fun i hi => by
    rw [List.getD_eq_getElem?_getD, List.getElem?_map, hget i hi]; rfl
  have key : ∀ i, i < n → ∃ v : Option Addr × Nat, (∀ hi : i < n, (E[i]'(by omega)).1 = .slice v.1 (lenD (E.map (·.2)) i) v.2) ∧ lenD (E.map (·.2)) i ≤ v.2 ∧ v.2 ≤ maxLen ∧ Ints w w.heap.size v.1 (lenD (E.map (·.2)) i) (facD (E.map (·.2)) i) ∧ ∀ p, v.1 = some p → base ≤ p.block := by
    intro i hi
    have h1 := hr _ (List.getElem_mem (by omega : i < E.length))
    obtain ⟨A1, c1, e1, h2, h3⟩ := own_form h1
    have hl : lenD (E.map (·.2)) i = (E[i]'(by omega)).2.1.length := by unfold lenD; rw [hDi i hi]
    rw [e1] at h1
    refine ⟨(A1, c1), fun _ => by rw [hl]; exact e1, by rw [hl]; exact h2, h3, ?_, fun p hp => by
      have hp : A1 = some p := hp
      subst hp
      exact (h1.lt p.block rfl).1⟩
    rw [hl]
    have hf : facD (E.map (·.2)) i = fun j => (E[i]'(by omega)).2.1.getD j 0 := by funext j; unfold facD; rw [hDi i hi]
    rw [hf]
    exact Ints.of_own h1 (Nat.le_refl _) (by simp) (fun j hj => (cells_of h1).2 j (by omega))
  obtain ⟨V, hV⟩ := choose_lt (α := Option Addr × Nat) key
  refine ⟨fun i => (V i).1, fun i => (V i).2, ⟨fun hn => ?_, fun i hi => ?_⟩, fun i hi => (hV i hi).2.2.2.2⟩
  · obtain ⟨g, cap, cur, hv, hb, hW, _, _, _, hcur⟩ := own_open ho hn
    injection hv with hA _ _
    subst hA
    refine ⟨g, 0, rfl, hW.lt, fun i hi => ?_⟩
    obtain ⟨h1, h2⟩ := flatD_get E i
    rw [hget i hi] at h1 h2
    rw [Nat.zero_add, hW.cell, hW.cell]
    refine ⟨?_, ?_⟩
    · rw [hcur _ _ h1]
      exact congrArg some ((hV i hi).1 hi)
    · rw [hcur _ _ h2]
      unfold outD
      rw [hDi i hi]
  · obtain ⟨_, h2, h3, h4, _⟩ := hV i hi
    exact ⟨h4, h2, by omega⟩
def DrewJ (pb pa : Int) (n : Nat) (xs : Nat → Int) (D : List (List Int × Int)) (w w' : World) (e : Ending) : Prop :=
  ∃ (A AD : Option Addr) (c cd : Nat) (fa : Nat → Option Addr) (fc : Nat → Nat), e = .returned (.tuple #[.int .i64 pb, .int .i64 pa, .slice A n c, .slice AD D.length cd]) ∧ n ≤ 13 ∧ n ≤ c ∧ c ≤ maxLen ∧ Ints w' w'.heap.size A (n * 3) xs ∧ D.length ≤ 4 ∧ D.length ≤ cd ∧ cd ≤ maxLen ∧ Dems w' w'.heap.size AD D.length fa (lenD D) fc (facD D) (outD D) ∧ Below w.heap.size w w'
def jointly (m : Nat) (bs : Nat → Int) : Int × Int × List Int × List (List Int × Int) :=
  let P := drawF m bs (0, fromV bs (min m 64))
  (P.1, P.2.1, P.2.2.1, (drawDm m bs P.2.2.2).1)
theorem drawDecideHearing_ex (m : Nat) (bs : Nat → Int) (hm : m ≤ 100000) (hb : ∀ j, 0 ≤ bs j ∧ bs j ≤ 255) : ∃ (pb pa : Int) (n : Nat) (xs : Nat → Int) (D : List (List Int × Int)),
    ∀ (A : Option Addr) (c : Nat) (w : World), Nums .u8 w w.heap.size A m bs → Calls Try.prog 36 #[.slice A m c] w fun e w' => DrewJ pb pa n xs D w w' e := by
  obtain ⟨P, hP⟩ : ∃ P, drawF m bs (0, fromV bs (min m 64)) = P := ⟨_, rfl⟩
  obtain ⟨pb, pa, zs, s0⟩ := P
  obtain ⟨n0, hn0⟩ : ∃ n0, zs.length / 3 = n0 := ⟨_, rfl⟩
  obtain ⟨Q, hQ⟩ : ∃ Q, drawDm m bs s0 = Q := ⟨_, rfl⟩
  refine ⟨pb, pa, n0, xsOf zs, Q.1, ?_⟩
  intro A c w hc
  go_enter Try.func36, Try.ntmps36
  go_wp2_with fail
  refine (from_any _ _ _ _ _ _ hc (Nat.le_refl _) hm hb).mono ?_
  rintro e w1 ⟨rfl, hS1, hb1⟩
  have hz1 := hS1.lt
  have hz1' := hb1.size
  go_wp2_with fail
  refine (l18Draw_any _ _ _ _ _ _ hS1).mono ?_
  rw [hP]
  rintro e w2 ⟨v, n, rfl, hl, hn, hown, hS2, hg2⟩
  dsimp only at hl hown hS2
  have hz2 := hg2.size
  obtain ⟨A', c', rfl, hnc, hcm⟩ := own_form hown
  obtain rfl : n0 = n := by omega
  dsimp only
  go_wp2_with fail
  refine (l18DrawDemands_any _ _ _ _ _ _ hS2).mono ?_
  rw [hQ]
  rintro e w3 ⟨v3, E, rfl, hE, hE4, hown3, hrows3, hS3, hg3⟩
  obtain ⟨AD, cd, rfl, hnd, hcd⟩ := own_form hown3
  have hl3 : Q.1.length = E.length := by rw [← hE, List.length_map]
  obtain ⟨fa, fc, hDm, -⟩ := dems_of_drew hE hown3 rfl hrows3
  have hown2 := own_only hown hg3 (fun k e => by injection e with e; omega)
  have hI : Ints w3 w3.heap.size A' (n0 * 3) (xsOf zs) := Ints.of_own hown2 (Nat.le_refl _) (by simp; omega) (fun j hj => (cells_of hown2).2 j (by omega))
  have hB := hb1.trans (below_only (only_trans hg2 hg3) hz1' (fun k e => by injection e with e; omega))
  clear hown hown2 hown3 hrows3 hS1 hS2 hS3 hg2 hg3 hE
  generalize E.length = kd at *
  subst hl3
  go_wp2
  refine bodyPost_ret (results_four rfl ..) rfl ?_
  exact ⟨A', AD, c', cd, fa, fc, rfl, hn, hnc, hcm, hI, by omega, hnd, hcd, hDm, hB⟩
end Go.Proofs.Ytcilgohjeobamaa
