/- Plain laws on outcomes; the draw of a history off a code. -/
import Derived.Test.YteacjoemlobmoaaDH
import Derived.Test.YteacjoemlobmoaaApp6
set_option linter.unusedSimpArgs false
set_option linter.unusedVariables false
namespace Go.Proofs.Yteacjoemlobmoaa
open Go.RowKit

theorem his_last {n : Nat} {xs : Nat → Int} (h : hisB (n + 1) xs = true) : hisB n xs = true ∧ okR xs (runS xs n).1 n = true ∧ runS xs (n + 1) = (aftS (runS xs n).1 (xs (n * 3)) (xs (n * 3 + 1)), true) := by
  have hle := hisB_le h
  unfold hisB at h
  simp only [Bool.and_eq_true, decide_eq_true_eq] at h
  have h1 : (runS xs n).2 = true := by
    cases hb : (runS xs n).2 with
    | true => rfl
    | false =>
      have := run_stop hb 1
      rw [this, hb] at h
      exact absurd h.1 (by simp)
  have h2 : okR xs (runS xs n).1 n = true := by
    cases hb : okR xs (runS xs n).1 n with
    | true => rfl
    | false =>
      have := run_no h1 hb (Nat.lt_succ_self n)
      rw [this] at h
      exact absurd h.1 (by simp)
  refine ⟨?_, h2, run_yes h1 h2⟩
  unfold hisB
  rw [h1]
  simp
  omega
def ocM (o : Option Int) : Int × Int := match o with | some r => (r, 0) | none => (0, 4)
theorem ocV_eq {n : Nat} {xs : Nat → Int} (h : hisB n xs = true) : ocV n xs = ocM (ocF xs n) := by
  unfold ocV
  rw [if_pos h]
  cases ocF xs n <;> rfl
/-- What the law on outcomes wants. -/
theorem out_law {n : Nat} {xs : Nat → Int} (h : hisB (n + 1) xs = true) :
    ((xs (n * 3 + 1) = 1 ∨ xs (n * 3 + 1) = 3) ∧ ocV (n + 1) xs = (xs (n * 3 + 2), 0) ∧ openV (n + 1) xs = (false, 0)) ∨
    (xs (n * 3 + 1) ≠ 1 ∧ xs (n * 3 + 1) ≠ 3 ∧ ocV n xs = ocV (n + 1) xs ∧ openV (n + 1) xs = ((xs (n * 3 + 1) == 4) || (xs (n * 3 + 1) == 5), 0)) := by
  obtain ⟨h0, hok, hrun⟩ := his_last h
  have hop : openV (n + 1) xs = (!(runS xs (n + 1)).1.1, 0) := by unfold openV; rw [if_pos h]
  rw [hrun] at hop
  have hoc := ocV_eq h
  have hoc0 := ocV_eq h0
  unfold okR at hok
  generalize hS : (runS xs n).1 = S at hok hop
  obtain ⟨d, a, c, p, q⟩ := S
  have hst : ocF xs (n + 1) = if hitB xs n = true then some (xs (n * 3 + 2)) else ocF xs n := rfl
  have hhit : hitB xs n = ((xs (n * 3 + 1) == 1) || (xs (n * 3 + 1) == 3)) := rfl
  rw [hhit] at hst
  simp only [Bool.and_eq_true] at hok
  have hk : 1 ≤ xs (n * 3 + 1) ∧ xs (n * 3 + 1) ≤ 5 ∧ mayB d a c p q (xs (n * 3 + 1)) (xs (n * 3)) = true :=
    ⟨(rulB_t hok.1.1).2.2.1, (rulB_t hok.1.1).2.2.2, hok.2⟩
  obtain ⟨k0, k1, hm⟩ := hk
  generalize xs (n * 3 + 1) = kd at *
  obtain rfl | rfl | rfl | rfl | rfl : kd = 1 ∨ kd = 2 ∨ kd = 3 ∨ kd = 4 ∨ kd = 5 := by omega
  · left
    refine ⟨.inl rfl, ?_, ?_⟩
    · rw [hoc, hst]; rfl
    · rw [hop]; rfl
  · right
    have hd : d = true := by unfold mayB at hm; simp at hm; exact hm.1.1
    subst hd
    refine ⟨by omega, by omega, ?_, ?_⟩
    · rw [hoc, hst, hoc0]; rfl
    · rw [hop]; rfl
  · left
    have hd : d = true := by unfold mayB at hm; simp at hm; exact hm.1.1
    subst hd
    refine ⟨.inr rfl, ?_, ?_⟩
    · rw [hoc, hst]; rfl
    · rw [hop]; rfl
  · right
    refine ⟨by omega, by omega, ?_, ?_⟩
    · rw [hoc, hst, hoc0]; rfl
    · rw [hop]; rfl
  · right
    refine ⟨by omega, by omega, ?_, ?_⟩
    · rw [hoc, hst, hoc0]; rfl
    · rw [hop]; rfl
def DrewO (n : Nat) (xs : Nat → Int) (w w' : World) (e : Ending) : Prop :=
  ∃ (A : Option Addr) (c : Nat), e = .returned (.slice A n c) ∧ n ≤ 8 ∧ n ≤ c ∧ c ≤ maxLen ∧ Ints w' w'.heap.size A (n * 3) xs ∧ Below w.heap.size w w'
theorem drawOutcomeOf_ex (m : Nat) (bs : Nat → Int) (hm : m ≤ 100000) (hb : ∀ j, 0 ≤ bs j ∧ bs j ≤ 255) : ∃ (n : Nat) (xs : Nat → Int),
    ∀ (A : Option Addr) (c : Nat) (w : World), Nums .u8 w w.heap.size A m bs → Calls Try.prog 32 #[.slice A m c] w fun e w' => DrewO n xs w w' e := by
  obtain ⟨P, hP⟩ : ∃ P, drawH m bs (0, fromV bs (min m 64)) = P := ⟨_, rfl⟩
  obtain ⟨n0, hn0⟩ : ∃ n0, P.1.length / 3 = n0 := ⟨_, rfl⟩
  refine ⟨n0, fun j => P.1.getD j 0, ?_⟩
  intro A c w hc
  go_enter Try.func32, Try.ntmps32
  go_wp2_with fail
  refine (from_any _ _ _ _ _ _ hc (Nat.le_refl _) hm hb).mono ?_
  rintro e w1 ⟨rfl, hS1, hb1⟩
  have hz1 := hS1.lt
  have hz1' := hb1.size
  go_wp2_with fail
  refine (l19Draw_any _ _ _ _ _ _ hS1).mono ?_
  rw [hP]
  rintro e w2 ⟨v, n, rfl, hl, hn, hown, hS2, hg2⟩
  obtain ⟨A', c', rfl, hnc, hcm⟩ := own_form hown
  obtain rfl : n0 = n := by omega
  have hI : Ints w2 w2.heap.size A' (n0 * 3) (fun j => P.1.getD j 0) := Ints.of_own hown (Nat.le_refl _) (by simp; omega) (fun j hj => (cells_of hown).2 j (by omega))
  have hB := hb1.trans (below_only hg2 hz1' (fun k e => by injection e with e; omega))
  clear hown hS1 hS2 hg2
  go_wp2
  go_ret
  exact ⟨_, _, rfl, hn, hnc, hcm, hI, hB⟩
end Go.Proofs.Yteacjoemlobmoaa
