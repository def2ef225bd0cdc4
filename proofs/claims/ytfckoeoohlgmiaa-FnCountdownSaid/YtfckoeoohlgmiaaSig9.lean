/- CountdownAt: a time behind a log; the program's and the reference's. -/
import Derived.Test.YtfckoeoohlgmiaaSig8
set_option linter.unusedSimpArgs false
set_option linter.unusedVariables false
namespace Go.Proofs.Ytfckoeoohlgmiaa
open Go.RowKit

/-- A time is not before the last signal. -/
def laterB (n : Nat) (xs : Nat → Int) (t : Int) : Bool := inB t 0 1000000000 && (decide (n = 0) || decide (xs ((n - 1) * 2 + 1) ≤ t))

set_option maxHeartbeats 4000000 in
theorem l13Later_any (A : Option Addr) (n c B : Nat) (xs : Nat → Int) (t : Int) (w : World) (hx : Ints w B A (n * 2) xs) (hn : n ≤ 40) :
    Calls Try.prog 42 #[.slice A n c, .int .i64 t] w fun e w' => e = .returned (.bool (laterB n xs t)) ∧ w = w' := by
  cases h1 : inB t 0 1000000000 with
  | false =>
    have hr : laterB n xs t = false := by simp [laterB, h1]
    rw [hr]
    go_enter Try.func42, Try.ntmps42
    go_wp2_with (go_at_call 51; refine (l01In_any _ _ _ _).mono ?_; rintro e w' ⟨rfl, rfl⟩)
    go_ret
    exact ⟨rfl, rfl⟩
  | true =>
  by_cases h2 : n = 0
  · subst h2
    have hr : laterB 0 xs t = true := by simp [laterB, h1]
    rw [hr]
    go_enter Try.func42, Try.ntmps42
    go_wp2_with (go_at_call 51; refine (l01In_any _ _ _ _).mono ?_; rintro e w' ⟨rfl, rfl⟩)
    go_ret
    exact ⟨rfl, rfl⟩
  · obtain ⟨m, rfl⟩ : ∃ m, n = m + 1 := ⟨n - 1, by omega⟩
    obtain ⟨b, o, rfl, hadB, hcode⟩ := hx (by omega)
    have g1 : w.cell? ⟨b, o + m * 2 + 1, none⟩ = some (.int .i64 (xs (m * 2 + 1))) := hcode (m * 2 + 1) (by omega)
    clear hcode
    have hne : (((m + 1 : Nat) : Int) == 0) = false := by simp; omega
    by_cases h3 : xs (m * 2 + 1) ≤ t
    · have hr : laterB (m + 1) xs t = true := by simp [laterB, h1, h3]
      rw [hr]
      clear hr h2
      go_enter Try.func42, Try.ntmps42
      go_wp2_with (go_at_call 51; refine (l01In_any _ _ _ _).mono ?_; rintro e w' ⟨rfl, rfl⟩)
      go_ret
      exact ⟨rfl, rfl⟩
    · have hr : laterB (m + 1) xs t = false := by simp [laterB, h1, h3]
      rw [hr]
      clear hr h2
      have hd : decide (xs (m * 2 + 1) ≤ t) = false := by simpa using h3
      go_enter Try.func42, Try.ntmps42
      go_wp2_with (go_at_call 51; refine (l01In_any _ _ _ _).mono ?_; rintro e w' ⟨rfl, rfl⟩)
      go_ret
      exact ⟨rfl, rfl⟩

/-- The code of a time behind a log, and the program's state. -/
def forC (n : Nat) (xs : Nat → Int) (t : Int) : Int := if codeV n xs = 0 then (if laterB n xs t = true then 0 else 2) else codeV n xs
def forS (n : Nat) (xs : Nat → Int) (t : Int) : Int × Int := if forC n xs t = 0 then stA xs n else (0, 0)
set_option maxHeartbeats 4000000 in
theorem stateFor_any (A : Option Addr) (n c B : Nat) (xs : Nat → Int) (t : Int) (w : World) (hx : Ints w B A (n * 2) xs) (hB : B ≤ w.heap.size) (hn : n ≤ 9223372036854775807) :
    Calls Try.prog 43 #[.slice A n c, .int .i64 t] w fun e w' => e = .returned (.tuple #[.agg #[.int .i64 (forS n xs t).1, .int .i64 (forS n xs t).2], .int .i64 (forC n xs t)]) ∧ Below w.heap.size w w' := by
  have hxa : ∀ o, Ints (w.alloc o) w.heap.size A (n * 2) xs := fun o => (hx.more hB).below ((Below.refl _ _).alloc (Nat.le_refl _) _)
  replace hxa := Lib.hid hxa
  by_cases h0 : codeV n xs = 0
  · have hL : lawA n xs = stA xs n := by unfold lawA; rw [if_pos h0]
    generalize hS : stA xs n = S at hL
    obtain ⟨s1, s2⟩ := S
    have hc := Lib.hid h0
    replace hL := Lib.hid hL
    cases h1 : inB t 0 1000000000 with
    | false =>
      have hr : forC n xs t = 2 := by unfold forC; rw [if_pos h0]; simp [laterB, h1]
      have hr2 : forS n xs t = (0, 0) := by unfold forS; rw [hr]; simp
      rw [hr, hr2]
      clear hr hr2 hx h0 hS
      go_enter Try.func43, Try.ntmps43
      go_wp2_with fail
      refine (lawfulState_val _ _ _ _ _ _ 0 (s1, s2) hc.out hL.out (hxa.out _) (by simp) hn).mono ?_
      rintro e w' ⟨rfl, hb⟩
      have hz := hb.size
      simp at hz
      have hzz : w.heap.size < w'.heap.size := by omega
      have hb0 : Below w.heap.size w w' := ((Below.refl _ _).alloc (Nat.le_refl _) _).trans (hb.mono (by simp))
      have rc0 : w'.cell? ⟨w.heap.size, 0, none⟩ = some (.int .i64 0) := (hb.cell (p := ⟨_, _, none⟩) (by simp)).trans (by simp)
      have rf0 : w'.frozen? ⟨w.heap.size, 0, none⟩ = false := (hb.frozen (p := ⟨_, _, none⟩) (by simp)).trans (by simp)
      have rc1 : w'.cell? ⟨w.heap.size, 1, none⟩ = some (.int .i64 0) := (hb.cell (p := ⟨_, _, none⟩) (by simp)).trans (by simp)
      have rf1 : w'.frozen? ⟨w.heap.size, 1, none⟩ = false := (hb.frozen (p := ⟨_, _, none⟩) (by simp)).trans (by simp)
      have e0 := set1 (v := .int .i64 (0)) rc0
      have d0 := set2 (i := 1) (j := 0) (v := .int .i64 (0)) (by decide) e0
      have e1 := set1 (v := .int .i64 (0)) (set2 (i := 0) (j := 1) (v := .int .i64 (0)) (by decide) rc1)
      go_wp2_with (go_at_call 49; refine (isTime_any _ _).mono ?_; rintro e w' ⟨rfl, rfl⟩)
      refine bodyPost_ret (v := .tuple #[.agg #[.int .i64 0, .int .i64 0], .int .i64 2]) (by simp [results, Try.results43, go_sem, *]) rfl ⟨rfl, ?_⟩
      exact ((hb0.setCell (by simp) _).setCell (by simp) _).alloc (by simp; omega) _
    | true =>
    by_cases h2 : n = 0
    · subst h2
      have hr : forC 0 xs t = 0 := by unfold forC; rw [if_pos h0]; simp [laterB, h1]
      have hr2 : forS 0 xs t = (s1, s2) := by unfold forS; rw [hr, if_pos rfl, hS]
      rw [hr, hr2]
      clear hr hr2 hx h0 hS
      go_enter Try.func43, Try.ntmps43
      go_wp2_with fail
      refine (lawfulState_val _ _ _ _ _ _ 0 (s1, s2) hc.out hL.out (hxa.out _) (by simp) hn).mono ?_
      rintro e w' ⟨rfl, hb⟩
      have hz := hb.size
      simp at hz
      have hzz : w.heap.size < w'.heap.size := by omega
      have hb0 : Below w.heap.size w w' := ((Below.refl _ _).alloc (Nat.le_refl _) _).trans (hb.mono (by simp))
      have rc0 : w'.cell? ⟨w.heap.size, 0, none⟩ = some (.int .i64 0) := (hb.cell (p := ⟨_, _, none⟩) (by simp)).trans (by simp)
      have rf0 : w'.frozen? ⟨w.heap.size, 0, none⟩ = false := (hb.frozen (p := ⟨_, _, none⟩) (by simp)).trans (by simp)
      have rc1 : w'.cell? ⟨w.heap.size, 1, none⟩ = some (.int .i64 0) := (hb.cell (p := ⟨_, _, none⟩) (by simp)).trans (by simp)
      have rf1 : w'.frozen? ⟨w.heap.size, 1, none⟩ = false := (hb.frozen (p := ⟨_, _, none⟩) (by simp)).trans (by simp)
      have e0 := set1 (v := .int .i64 (s1)) rc0
      have d0 := set2 (i := 1) (j := 0) (v := .int .i64 (s2)) (by decide) e0
      have e1 := set1 (v := .int .i64 (s2)) (set2 (i := 0) (j := 1) (v := .int .i64 (s1)) (by decide) rc1)
      go_wp2_with (go_at_call 49; refine (isTime_any _ _).mono ?_; rintro e w' ⟨rfl, rfl⟩)
      refine bodyPost_ret (v := .tuple #[.agg #[.int .i64 s1, .int .i64 s2], .int .i64 0]) (by simp [results, Try.results43, go_sem, *]) rfl ⟨rfl, ?_⟩
      exact ((hb0.setCell (by simp) _).setCell (by simp) _).alloc (by simp; omega) _
    · obtain ⟨m, rfl⟩ : ∃ m, n = m + 1 := ⟨n - 1, by omega⟩
      obtain ⟨b, o, rfl, hadB, hcode⟩ := hx (by omega)
      have g0 : w.cell? ⟨b, o + m * 2 + 1, none⟩ = some (.int .i64 (xs (m * 2 + 1))) := hcode (m * 2 + 1) (by omega)
      clear hcode hx
      by_cases h3 : xs (m * 2 + 1) ≤ t
      · have hr : forC (m + 1) xs t = 0 := by unfold forC; rw [if_pos h0]; simp [laterB, h1, h3]
        have hr2 : forS (m + 1) xs t = (s1, s2) := by unfold forS; rw [hr, if_pos rfl, hS]
        rw [hr, hr2]
        have hd : decide (t < xs (m * 2 + 1)) = false := by simpa using h3
        clear hr hr2 h0 hS h2
        go_enter Try.func43, Try.ntmps43
        go_wp2_with fail
        refine (lawfulState_val _ _ _ _ _ _ 0 (s1, s2) hc.out hL.out (hxa.out _) (by simp) hn).mono ?_
        rintro e w' ⟨rfl, hb⟩
        have hz := hb.size
        simp at hz
        have hzz : w.heap.size < w'.heap.size := by omega
        have hb0 : Below w.heap.size w w' := ((Below.refl _ _).alloc (Nat.le_refl _) _).trans (hb.mono (by simp))
        have rc0 : w'.cell? ⟨w.heap.size, 0, none⟩ = some (.int .i64 0) := (hb.cell (p := ⟨_, _, none⟩) (by simp)).trans (by simp)
        have rf0 : w'.frozen? ⟨w.heap.size, 0, none⟩ = false := (hb.frozen (p := ⟨_, _, none⟩) (by simp)).trans (by simp)
        have rc1 : w'.cell? ⟨w.heap.size, 1, none⟩ = some (.int .i64 0) := (hb.cell (p := ⟨_, _, none⟩) (by simp)).trans (by simp)
        have rf1 : w'.frozen? ⟨w.heap.size, 1, none⟩ = false := (hb.frozen (p := ⟨_, _, none⟩) (by simp)).trans (by simp)
        have e0 := set1 (v := .int .i64 (s1)) rc0
        have d0 := set2 (i := 1) (j := 0) (v := .int .i64 (s2)) (by decide) e0
        have e1 := set1 (v := .int .i64 (s2)) (set2 (i := 0) (j := 1) (v := .int .i64 (s1)) (by decide) rc1)
        have hbz : b < w'.heap.size := by omega
        have g1 : w'.cell? ⟨b, o + m * 2 + 1, none⟩ = some (.int .i64 (xs (m * 2 + 1))) := (hb.cell (p := ⟨_, _, none⟩) (by simp; omega)).trans ((past (by omega)).trans g0)
        go_wp2_with (go_at_call 49; refine (isTime_any _ _).mono ?_; rintro e w' ⟨rfl, rfl⟩)
        refine bodyPost_ret (v := .tuple #[.agg #[.int .i64 s1, .int .i64 s2], .int .i64 0]) (by simp [results, Try.results43, go_sem, *]) rfl ⟨rfl, ?_⟩
        exact ((hb0.setCell (by simp) _).setCell (by simp) _).alloc (by simp; omega) _
      · have hr : forC (m + 1) xs t = 2 := by unfold forC; rw [if_pos h0]; simp [laterB, h1, h3]
        have hr2 : forS (m + 1) xs t = (0, 0) := by unfold forS; rw [hr]; simp
        rw [hr, hr2]
        clear hr hr2 h0 hS h2
        go_enter Try.func43, Try.ntmps43
        go_wp2_with fail
        refine (lawfulState_val _ _ _ _ _ _ 0 (s1, s2) hc.out hL.out (hxa.out _) (by simp) hn).mono ?_
        rintro e w' ⟨rfl, hb⟩
        have hz := hb.size
        simp at hz
        have hzz : w.heap.size < w'.heap.size := by omega
        have hb0 : Below w.heap.size w w' := ((Below.refl _ _).alloc (Nat.le_refl _) _).trans (hb.mono (by simp))
        have rc0 : w'.cell? ⟨w.heap.size, 0, none⟩ = some (.int .i64 0) := (hb.cell (p := ⟨_, _, none⟩) (by simp)).trans (by simp)
        have rf0 : w'.frozen? ⟨w.heap.size, 0, none⟩ = false := (hb.frozen (p := ⟨_, _, none⟩) (by simp)).trans (by simp)
        have rc1 : w'.cell? ⟨w.heap.size, 1, none⟩ = some (.int .i64 0) := (hb.cell (p := ⟨_, _, none⟩) (by simp)).trans (by simp)
        have rf1 : w'.frozen? ⟨w.heap.size, 1, none⟩ = false := (hb.frozen (p := ⟨_, _, none⟩) (by simp)).trans (by simp)
        have e0 := set1 (v := .int .i64 (0)) rc0
        have d0 := set2 (i := 1) (j := 0) (v := .int .i64 (0)) (by decide) e0
        have e1 := set1 (v := .int .i64 (0)) (set2 (i := 0) (j := 1) (v := .int .i64 (0)) (by decide) rc1)
        have hbz : b < w'.heap.size := by omega
        have g1 : w'.cell? ⟨b, o + m * 2 + 1, none⟩ = some (.int .i64 (xs (m * 2 + 1))) := (hb.cell (p := ⟨_, _, none⟩) (by simp; omega)).trans ((past (by omega)).trans g0)
        go_wp2_with (go_at_call 49; refine (isTime_any _ _).mono ?_; rintro e w' ⟨rfl, rfl⟩)
        refine bodyPost_ret (v := .tuple #[.agg #[.int .i64 0, .int .i64 0], .int .i64 2]) (by simp [results, Try.results43, go_sem, *]) rfl ⟨rfl, ?_⟩
        exact ((hb0.setCell (by simp) _).setCell (by simp) _).alloc (by simp; omega) _
  · have hr : forC n xs t = codeV n xs := by unfold forC; rw [if_neg h0]
    have hr2 : forS n xs t = (0, 0) := by unfold forS; rw [hr, if_neg h0]
    have hL : lawA n xs = (0, 0) := by unfold lawA; rw [if_neg h0]
    rw [hr, hr2]
    generalize hc : codeV n xs = co at h0
    have hne : (co != 0) = true := by simpa using h0
    replace hc := Lib.hid hc
    replace hL := Lib.hid hL
    clear hr hr2 h0 hx
    go_enter Try.func43, Try.ntmps43
    go_wp2_with fail
    refine (lawfulState_val _ _ _ _ _ _ co (0, 0) hc.out hL.out (hxa.out _) (by simp) hn).mono ?_
    rintro e w' ⟨rfl, hb⟩
    have hz := hb.size
    simp at hz
    have hzz : w.heap.size < w'.heap.size := by omega
    have hb0 : Below w.heap.size w w' := ((Below.refl _ _).alloc (Nat.le_refl _) _).trans (hb.mono (by simp))
    have rc0 : w'.cell? ⟨w.heap.size, 0, none⟩ = some (.int .i64 0) := (hb.cell (p := ⟨_, _, none⟩) (by simp)).trans (by simp)
    have rf0 : w'.frozen? ⟨w.heap.size, 0, none⟩ = false := (hb.frozen (p := ⟨_, _, none⟩) (by simp)).trans (by simp)
    have rc1 : w'.cell? ⟨w.heap.size, 1, none⟩ = some (.int .i64 0) := (hb.cell (p := ⟨_, _, none⟩) (by simp)).trans (by simp)
    have rf1 : w'.frozen? ⟨w.heap.size, 1, none⟩ = false := (hb.frozen (p := ⟨_, _, none⟩) (by simp)).trans (by simp)
    have e0 := set1 (v := .int .i64 (0)) rc0
    have d0 := set2 (i := 1) (j := 0) (v := .int .i64 (0)) (by decide) e0
    have e1 := set1 (v := .int .i64 (0)) (set2 (i := 0) (j := 1) (v := .int .i64 (0)) (by decide) rc1)
    go_wp2_with fail
    refine bodyPost_ret (v := .tuple #[.agg #[.int .i64 0, .int .i64 0], .int .i64 co]) (by simp [results, Try.results43, go_sem, *]) rfl ⟨rfl, ?_⟩
    exact ((hb0.setCell (by simp) _).setCell (by simp) _).alloc (by simp; omega) _
end Go.Proofs.Ytfckoeoohlgmiaa
