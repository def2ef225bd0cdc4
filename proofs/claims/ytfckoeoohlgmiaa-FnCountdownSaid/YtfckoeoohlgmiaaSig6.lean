/- FirstUnlawful: the program's and the reference's. The two runs go side by side. -/
import Derived.Test.YtfckoeoohlgmiaaSig5
set_option linter.unusedSimpArgs false
set_option linter.unusedVariables false
namespace Go.Proofs.Ytfckoeoohlgmiaa
open Go.RowKit

/-- The program's state and the reference's say the same. -/
def Same (a : Int × Int) (r : Int × Int × Int) : Prop :=
  0 ≤ a.1 ∧ a.1 ≤ 8 ∧ r.1 = a.1 ∧ (1 ≤ a.1 → a.1 ≤ 3 → r.2.1 = a.2) ∧ ((a.1 = 4 ∨ a.1 = 6 ∨ a.1 = 7) → r.2.2 = a.2)
theorem same_step {a : Int × Int} {r : Int × Int × Int} (h : Same a r) {k t : Int} (k0 : 1 ≤ k) (k1 : k ≤ 8) :
    (refV r.1 r.2.1 r.2.2 k t).2 = (stepV a.1 a.2 k t).2 ∧ ((stepV a.1 a.2 k t).2 = true → Same (stepV a.1 a.2 k t).1 (refV r.1 r.2.1 r.2.2 k t).1) := by
  obtain ⟨s, si⟩ := a
  obtain ⟨st, wn, mk⟩ := r
  obtain ⟨h0, h8, h1, h2, h3⟩ := h
  dsimp only at h0 h8 h1 h2 h3 ⊢
  subst h1
  obtain rfl | rfl | rfl | rfl | rfl | rfl | rfl | rfl : k = 1 ∨ k = 2 ∨ k = 3 ∨ k = 4 ∨ k = 5 ∨ k = 6 ∨ k = 7 ∨ k = 8 := by omega
  all_goals (unfold refV stepV; simp only [Same]; refine ⟨?_, ?_⟩)
  all_goals (simp (config := { decide := true }) only [if_true, if_false, Bool.and_eq_true, Bool.or_eq_true, beq_iff_eq, bne_iff_ne, decide_eq_true_eq]; try (rw [Bool.eq_iff_iff]; simp only [Bool.and_eq_true, Bool.or_eq_true, beq_iff_eq, bne_iff_ne, decide_eq_true_eq]))
  all_goals (first | omega | (intro hh; simp; done) | (intro hh; simp; omega))

theorem same_run {xs : Nat → Int} {n : Nat} (h : ∀ i, i < n → okS xs i = true) : ∀ i, i ≤ n → (∀ j, j < i → okA xs j = true) → Same (stA xs i) (stR xs i)
  | 0, _, _ => by simp [stA, stR, Same]
  | i + 1, hi, hj => by
    have ih := same_run h i (by omega) (fun j hj' => hj j (by omega))
    have o := okS_t (h i (by omega))
    exact (same_step ih o.1 o.2.1).2 (hj i (by omega))
theorem same_ok {xs : Nat → Int} {n : Nat} (h : ∀ i, i < n → okS xs i = true) {i : Nat} (hi : i < n) (hj : ∀ j, j < i → okA xs j = true) : okR xs i = okA xs i := by
  have o := okS_t (h i hi)
  exact (same_step (same_run h i (by omega) hj) o.1 o.2.1).1
theorem same_lead {xs : Nat → Int} {n : Nat} (h : ∀ i, i < n → okS xs i = true) : lead (okR xs) n = lead (okA xs) n := by
  have hle := lead_le (okA xs) n
  have hl : ∀ i, i < lead (okA xs) n → okA xs i = true := fun i hi => lead_ok hi
  have hlR : ∀ i, i < lead (okA xs) n → okR xs i = true := fun i hi => (same_ok h (by omega) (fun j hj => hl j (by omega))).trans (hl i hi)
  by_cases e : lead (okA xs) n = n
  · rw [e]; rw [e] at hlR; exact lead_all hlR
  · have hlt : lead (okA xs) n < n := by omega
    exact lead_at hlt hlR ((same_ok h hlt hl).trans (lead_no hlt))

/-- What FirstUnlawful gives. -/
def unl (n : Nat) (xs : Nat → Int) : Int × Int :=
  if isS n xs = true then (if lead (okA xs) n < n then ((lead (okA xs) n : Nat) : Int) else -1, 0) else (0, 1)
theorem runSignals_val (A : Option Addr) (n c B : Nat) (xs : Nat → Int) (w : World) (v : Nat) (S : Int × Int) (hv : lead (okA xs) n = v) (hS : stA xs v = S) (hx : Ints w B A (n * 2) xs) (hB : B ≤ w.heap.size) (hn : n ≤ 40) (hs : ∀ i, i < n → okS xs i = true) :
    Calls Try.prog 38 #[.slice A n c] w fun e w' => e = .returned (.tuple #[.agg #[.int .i64 S.1, .int .i64 S.2], .int .i64 v]) ∧ Below w.heap.size w w' := by
  subst hv; subst hS; exact runSignals_any A n c B xs w hx hB hn hs
theorem l13Run_val (A : Option Addr) (n c B : Nat) (xs : Nat → Int) (w : World) (v : Int) (S : Int × Int × Int) (hv : (if lead (okR xs) n < n then ((lead (okR xs) n : Nat) : Int) else -1) = v) (hS : stR xs (lead (okR xs) n) = S) (hx : Ints w B A (n * 2) xs) (hB : B ≤ w.heap.size) (hn : n ≤ 40) (hs : ∀ i, i < n → okS xs i = true) :
    Calls Try.prog 36 #[.slice A n c] w fun e w' => e = .returned (.tuple #[.agg #[.int .i64 S.1, .int .i64 S.2.1, .int .i64 S.2.2], .int .i64 v]) ∧ Below w.heap.size w w' := by
  subst hv; subst hS; exact l13Run_any A n c B xs w hx hB hn hs
set_option maxHeartbeats 4000000 in
theorem firstUnlawful_any (A : Option Addr) (n c B : Nat) (xs : Nat → Int) (w : World) (hx : Ints w B A (n * 2) xs) (hB : B ≤ w.heap.size) (hn : n ≤ 9223372036854775807) :
    Calls Try.prog 13 #[.slice A n c] w fun e w' => e = .returned (.tuple #[.int .i64 (unl n xs).1, .int .i64 (unl n xs).2]) ∧ Below w.heap.size w w' := by
  replace hx := Lib.hid hx
  cases h1 : isS n xs with
  | false =>
    have hr : unl n xs = (0, 1) := by unfold unl; rw [h1]; simp
    rw [hr]
    go_enter Try.func13, Try.ntmps13
    go_wp2_with fail
    refine (isSignals_any _ _ _ _ _ _ hx.out hB hn).mono ?_
    rintro e w' ⟨rfl, hb⟩
    rw [h1]
    go_wp2
    go_ret2
    exact ⟨rfl, hb⟩
  | true =>
    obtain ⟨hn', hs⟩ := isS_t h1
    replace hs := Lib.hid hs
    have hle := lead_le (okA xs) n
    generalize hv : lead (okA xs) n = v at hle
    by_cases h2 : v < n
    · have hr : unl n xs = ((v : Int), 0) := by unfold unl; rw [h1, if_pos rfl, hv, if_pos h2]
      rw [hr]
      generalize hS : stA xs v = S
      obtain ⟨s1, s2⟩ := S
      replace hv := Lib.hid hv
      replace hS := Lib.hid hS
      clear hr
      have hne : ((v : Int) == (n : Int)) = false := by simp; omega
      go_enter Try.func13, Try.ntmps13
      go_wp2_with fail
      refine (isSignals_any _ _ _ _ _ _ hx.out hB hn).mono ?_
      rintro e w' ⟨rfl, hb⟩
      rw [h1]
      go_wp2_with fail
      refine (runSignals_val _ _ _ _ _ _ v (s1, s2) hv.out hS.out (((hx.out.more hB).below hb).more hb.size) (Nat.le_refl _) hn' hs.out).mono ?_
      rintro e w2 ⟨rfl, hb2⟩
      go_wp2
      go_ret2
      exact ⟨rfl, (hb.trans (hb2.mono hb.size)).alloc (by have := hb.size; have := hb2.size; omega) _⟩
    · have hr : unl n xs = (-1, 0) := by unfold unl; rw [h1, if_pos rfl, hv, if_neg h2]
      obtain rfl : v = n := by omega
      rw [hr]
      generalize hS : stA xs v = S
      obtain ⟨s1, s2⟩ := S
      replace hv := Lib.hid hv
      replace hS := Lib.hid hS
      clear hr
      go_enter Try.func13, Try.ntmps13
      go_wp2_with fail
      refine (isSignals_any _ _ _ _ _ _ hx.out hB hn).mono ?_
      rintro e w' ⟨rfl, hb⟩
      rw [h1]
      go_wp2_with fail
      refine (runSignals_val _ _ _ _ _ _ v (s1, s2) hv.out hS.out (((hx.out.more hB).below hb).more hb.size) (Nat.le_refl _) hn' hs.out).mono ?_
      rintro e w2 ⟨rfl, hb2⟩
      go_wp2
      go_ret2
      exact ⟨rfl, (hb.trans (hb2.mono hb.size)).alloc (by have := hb.size; have := hb2.size; omega) _⟩
set_option maxHeartbeats 4000000 in
theorem sFirstUnlawful_any (A : Option Addr) (n c B : Nat) (xs : Nat → Int) (w : World) (hx : Ints w B A (n * 2) xs) (hB : B ≤ w.heap.size) (hn : n ≤ 9223372036854775807) :
    Calls Try.prog 11 #[.slice A n c] w fun e w' => e = .returned (.tuple #[.int .i64 (unl n xs).1, .int .i64 (unl n xs).2]) ∧ Below w.heap.size w w' := by
  replace hx := Lib.hid hx
  cases h1 : isS n xs with
  | false =>
    have hr : unl n xs = (0, 1) := by unfold unl; rw [h1]; simp
    rw [hr]
    go_enter Try.func11, Try.ntmps11
    go_wp2_with fail
    refine (sIsSignals_any _ _ _ _ _ _ hx.out hB hn).mono ?_
    rintro e w' ⟨rfl, hb⟩
    rw [h1]
    go_wp2
    go_ret2
    exact ⟨rfl, hb⟩
  | true =>
    obtain ⟨hn', hs⟩ := isS_t h1
    have hl := same_lead hs
    replace hs := Lib.hid hs
    have hr : unl n xs = ((if lead (okR xs) n < n then ((lead (okR xs) n : Nat) : Int) else -1), 0) := by unfold unl; rw [h1, if_pos rfl, hl]
    rw [hr]
    clear hr hl
    generalize hv : (if lead (okR xs) n < n then ((lead (okR xs) n : Nat) : Int) else -1) = v
    generalize hS : stR xs (lead (okR xs) n) = S
    obtain ⟨s1, s2, s3⟩ := S
    replace hv := Lib.hid hv
    replace hS := Lib.hid hS
    go_enter Try.func11, Try.ntmps11
    go_wp2_with fail
    refine (sIsSignals_any _ _ _ _ _ _ hx.out hB hn).mono ?_
    rintro e w' ⟨rfl, hb⟩
    rw [h1]
    go_wp2_with fail
    refine (l13Run_val _ _ _ _ _ _ v (s1, s2, s3) hv.out hS.out (((hx.out.more hB).below hb).more hb.size) (Nat.le_refl _) hn' hs.out).mono ?_
    rintro e w2 ⟨rfl, hb2⟩
    go_wp2
    go_ret2
    exact ⟨rfl, (hb.trans (hb2.mono hb.size)).alloc (by have := hb.size; have := hb2.size; omega) _⟩
end Go.Proofs.Ytfckoeoohlgmiaa
