/- The state of a lawful log, and its code: the program's and the reference's. -/
import Derived.Test.YtfckoeoohlgmiaaSig6
set_option linter.unusedSimpArgs false
set_option linter.unusedVariables false
namespace Go.Proofs.Ytfckoeoohlgmiaa
open Go.RowKit

/-- A lawful log's code: 1 no log, 5 not lawful, 0. -/
def codeV (n : Nat) (xs : Nat → Int) : Int := if isS n xs = true then (if lead (okA xs) n < n then 5 else 0) else 1
def lawA (n : Nat) (xs : Nat → Int) : Int × Int := if codeV n xs = 0 then stA xs n else (0, 0)
def lawR (n : Nat) (xs : Nat → Int) : Int × Int × Int := if codeV n xs = 0 then stR xs n else (0, 0, 0)
theorem codeV_0 {n : Nat} {xs : Nat → Int} (h : codeV n xs = 0) : isS n xs = true ∧ lead (okA xs) n = n := by
  unfold codeV at h
  have := lead_le (okA xs) n
  split at h
  · split at h
    · omega
    · exact ⟨by assumption, by omega⟩
  · omega

set_option maxHeartbeats 4000000 in
theorem lawfulState_any (A : Option Addr) (n c B : Nat) (xs : Nat → Int) (w : World) (hx : Ints w B A (n * 2) xs) (hB : B ≤ w.heap.size) (hn : n ≤ 9223372036854775807) :
    Calls Try.prog 41 #[.slice A n c] w fun e w' => e = .returned (.tuple #[.agg #[.int .i64 (lawA n xs).1, .int .i64 (lawA n xs).2], .int .i64 (codeV n xs)]) ∧ Below w.heap.size w w' := by
  have hxa : ∀ o, Ints (w.alloc o) w.heap.size A (n * 2) xs := fun o => (hx.more hB).below ((Below.refl _ _).alloc (Nat.le_refl _) _)
  replace hx := Lib.hid hx
  replace hxa := Lib.hid hxa
  cases h1 : isS n xs with
  | false =>
    have hr : codeV n xs = 1 := by unfold codeV; rw [h1]; simp
    have hr2 : lawA n xs = (0, 0) := by unfold lawA; rw [hr]; simp
    rw [hr, hr2]
    clear hr hr2
    go_enter Try.func41, Try.ntmps41
    go_wp2_with fail
    refine (isSignals_any _ _ _ _ _ _ (hxa.out _) (by simp) hn).mono ?_
    rintro e w' ⟨rfl, hb⟩
    rw [h1]
    have hz := hb.size
    simp at hz
    have hb0 : Below w.heap.size w w' := ((Below.refl _ _).alloc (Nat.le_refl _) _).trans (hb.mono (by simp))
    have rc0 : w'.cell? ⟨w.heap.size, 0, none⟩ = some (.int .i64 0) := (hb.cell (p := ⟨_, _, none⟩) (by simp)).trans (by simp)
    have rf0 : w'.frozen? ⟨w.heap.size, 0, none⟩ = false := (hb.frozen (p := ⟨_, _, none⟩) (by simp)).trans (by simp)
    have rc1 : w'.cell? ⟨w.heap.size, 1, none⟩ = some (.int .i64 0) := (hb.cell (p := ⟨_, _, none⟩) (by simp)).trans (by simp)
    have rf1 : w'.frozen? ⟨w.heap.size, 1, none⟩ = false := (hb.frozen (p := ⟨_, _, none⟩) (by simp)).trans (by simp)
    have e0 := set1 (v := .int .i64 (0)) rc0
    have d01 := set2 (i := 1) (j := 0) (v := .int .i64 (0)) (by decide) e0
    have e1 := set1 (v := .int .i64 (0)) (set2 (i := 0) (j := 1) (v := .int .i64 (0)) (by decide) rc1)
    go_wp2
    refine bodyPost_ret (v := .tuple #[.agg #[.int .i64 0, .int .i64 0], .int .i64 1]) (by simp [results, Try.results41, go_sem, *]) rfl ⟨rfl, ?_⟩
    exact ((hb0.setCell (by simp) _).setCell (by simp) _)
  | true =>
    obtain ⟨hn', hs⟩ := isS_t h1
    have hle := lead_le (okA xs) n
    have hsl := same_lead hs
    replace hs := Lib.hid hs
    generalize hv : lead (okA xs) n = v at hle hsl
    by_cases h2 : v < n
    · have hr : codeV n xs = 5 := by unfold codeV; rw [h1, if_pos rfl, hv, if_pos h2]
      have hr2 : lawA n xs = (0, 0) := by unfold lawA; rw [hr]; simp
      have hrv := hv
      generalize hS : stA xs v = S
      obtain ⟨s1, s2⟩ := S
      replace hrv := Lib.hid hrv
      replace hS := Lib.hid hS
      clear hv hsl
      rw [hr, hr2]
      clear hr hr2
      go_enter Try.func41, Try.ntmps41
      go_wp2_with fail
      refine (isSignals_any _ _ _ _ _ _ (hxa.out _) (by simp) hn).mono ?_
      rintro e w' ⟨rfl, hb⟩
      rw [h1]
      have hz := hb.size
      simp at hz
      go_wp2_with fail
      refine (runSignals_val _ _ _ _ _ _ v (s1, s2) hrv.out hS.out (((hxa.out _).below (hb.mono (by simp))).more (by omega)) (Nat.le_refl _) hn' hs.out).mono ?_
      rintro e w2 ⟨rfl, hb2⟩
      have hz2 := hb2.size
      have hb1 : Below (w.heap.size + 1) (w.alloc (Obj.cells #[.int .i64 0, .int .i64 0] 62)) w2 := (hb.mono (by simp)).trans (hb2.mono (by omega))
      have hb0 : Below w.heap.size w w2 := ((Below.refl _ _).alloc (Nat.le_refl _) _).trans (hb1.mono (by simp))
      have rc0 : w2.cell? ⟨w.heap.size, 0, none⟩ = some (.int .i64 0) := (hb1.cell (p := ⟨_, _, none⟩) (by simp)).trans (by simp)
      have rf0 : w2.frozen? ⟨w.heap.size, 0, none⟩ = false := (hb1.frozen (p := ⟨_, _, none⟩) (by simp)).trans (by simp)
      have rc1 : w2.cell? ⟨w.heap.size, 1, none⟩ = some (.int .i64 0) := (hb1.cell (p := ⟨_, _, none⟩) (by simp)).trans (by simp)
      have rf1 : w2.frozen? ⟨w.heap.size, 1, none⟩ = false := (hb1.frozen (p := ⟨_, _, none⟩) (by simp)).trans (by simp)
      have e0 := set1 (v := .int .i64 (0)) rc0
      have d01 := set2 (i := 1) (j := 0) (v := .int .i64 (0)) (by decide) e0
      have e1 := set1 (v := .int .i64 (0)) (set2 (i := 0) (j := 1) (v := .int .i64 (0)) (by decide) rc1)
      have hzz : w.heap.size < w2.heap.size := by omega
      go_wp2
      refine bodyPost_ret (v := .tuple #[.agg #[.int .i64 0, .int .i64 0], .int .i64 5]) (by simp [results, Try.results41, go_sem, *]) rfl ⟨rfl, ?_⟩
      exact ((hb0.setCell (by simp) _).setCell (by simp) _).alloc (by simp; omega) _
    · have hr : codeV n xs = 0 := by unfold codeV; rw [h1, if_pos rfl, hv, if_neg h2]
      obtain rfl : v = n := by omega
      have hr2 : lawA v xs = stA xs v := by unfold lawA; rw [hr]; simp
      rw [hr, hr2]
      clear hr hr2
      have hrv := hv
      generalize hS : stA xs v = S
      obtain ⟨s1, s2⟩ := S
      replace hrv := Lib.hid hrv
      replace hS := Lib.hid hS
      clear hv hsl
      go_enter Try.func41, Try.ntmps41
      go_wp2_with fail
      refine (isSignals_any _ _ _ _ _ _ (hxa.out _) (by simp) hn).mono ?_
      rintro e w' ⟨rfl, hb⟩
      rw [h1]
      have hz := hb.size
      simp at hz
      go_wp2_with fail
      refine (runSignals_val _ _ _ _ _ _ v (s1, s2) hrv.out hS.out (((hxa.out _).below (hb.mono (by simp))).more (by omega)) (Nat.le_refl _) hn' hs.out).mono ?_
      rintro e w2 ⟨rfl, hb2⟩
      have hz2 := hb2.size
      have hb1 : Below (w.heap.size + 1) (w.alloc (Obj.cells #[.int .i64 0, .int .i64 0] 62)) w2 := (hb.mono (by simp)).trans (hb2.mono (by omega))
      have hb0 : Below w.heap.size w w2 := ((Below.refl _ _).alloc (Nat.le_refl _) _).trans (hb1.mono (by simp))
      have rc0 : w2.cell? ⟨w.heap.size, 0, none⟩ = some (.int .i64 0) := (hb1.cell (p := ⟨_, _, none⟩) (by simp)).trans (by simp)
      have rf0 : w2.frozen? ⟨w.heap.size, 0, none⟩ = false := (hb1.frozen (p := ⟨_, _, none⟩) (by simp)).trans (by simp)
      have rc1 : w2.cell? ⟨w.heap.size, 1, none⟩ = some (.int .i64 0) := (hb1.cell (p := ⟨_, _, none⟩) (by simp)).trans (by simp)
      have rf1 : w2.frozen? ⟨w.heap.size, 1, none⟩ = false := (hb1.frozen (p := ⟨_, _, none⟩) (by simp)).trans (by simp)
      have e0 := set1 (v := .int .i64 (s1)) rc0
      have d01 := set2 (i := 1) (j := 0) (v := .int .i64 (s2)) (by decide) e0
      have e1 := set1 (v := .int .i64 (s2)) (set2 (i := 0) (j := 1) (v := .int .i64 (s1)) (by decide) rc1)
      have hzz : w.heap.size < w2.heap.size := by omega
      go_wp2
      refine bodyPost_ret (v := .tuple #[.agg #[.int .i64 s1, .int .i64 s2], .int .i64 0]) (by simp [results, Try.results41, go_sem, *]) rfl ⟨rfl, ?_⟩
      exact ((hb0.setCell (by simp) _).setCell (by simp) _).alloc (by simp; omega) _
set_option maxHeartbeats 4000000 in
theorem l13Code_any (A : Option Addr) (n c B : Nat) (xs : Nat → Int) (w : World) (hx : Ints w B A (n * 2) xs) (hB : B ≤ w.heap.size) (hn : n ≤ 9223372036854775807) :
    Calls Try.prog 40 #[.slice A n c] w fun e w' => e = .returned (.tuple #[.agg #[.int .i64 (lawR n xs).1, .int .i64 (lawR n xs).2.1, .int .i64 (lawR n xs).2.2], .int .i64 (codeV n xs)]) ∧ Below w.heap.size w w' := by
  have hxa : ∀ o, Ints (w.alloc o) w.heap.size A (n * 2) xs := fun o => (hx.more hB).below ((Below.refl _ _).alloc (Nat.le_refl _) _)
  replace hx := Lib.hid hx
  replace hxa := Lib.hid hxa
  cases h1 : isS n xs with
  | false =>
    have hr : codeV n xs = 1 := by unfold codeV; rw [h1]; simp
    have hr2 : lawR n xs = (0, 0, 0) := by unfold lawR; rw [hr]; simp
    rw [hr, hr2]
    clear hr hr2
    go_enter Try.func40, Try.ntmps40
    go_wp2_with fail
    refine (sIsSignals_any _ _ _ _ _ _ (hxa.out _) (by simp) hn).mono ?_
    rintro e w' ⟨rfl, hb⟩
    rw [h1]
    have hz := hb.size
    simp at hz
    have hb0 : Below w.heap.size w w' := ((Below.refl _ _).alloc (Nat.le_refl _) _).trans (hb.mono (by simp))
    have rc0 : w'.cell? ⟨w.heap.size, 0, none⟩ = some (.int .i64 0) := (hb.cell (p := ⟨_, _, none⟩) (by simp)).trans (by simp)
    have rf0 : w'.frozen? ⟨w.heap.size, 0, none⟩ = false := (hb.frozen (p := ⟨_, _, none⟩) (by simp)).trans (by simp)
    have rc1 : w'.cell? ⟨w.heap.size, 1, none⟩ = some (.int .i64 0) := (hb.cell (p := ⟨_, _, none⟩) (by simp)).trans (by simp)
    have rf1 : w'.frozen? ⟨w.heap.size, 1, none⟩ = false := (hb.frozen (p := ⟨_, _, none⟩) (by simp)).trans (by simp)
    have rc2 : w'.cell? ⟨w.heap.size, 2, none⟩ = some (.int .i64 0) := (hb.cell (p := ⟨_, _, none⟩) (by simp)).trans (by simp)
    have rf2 : w'.frozen? ⟨w.heap.size, 2, none⟩ = false := (hb.frozen (p := ⟨_, _, none⟩) (by simp)).trans (by simp)
    have e0 := set1 (v := .int .i64 (0)) rc0
    have d01 := set2 (i := 1) (j := 0) (v := .int .i64 (0)) (by decide) e0
    have d02 := set2 (i := 2) (j := 0) (v := .int .i64 (0)) (by decide) d01
    have e1 := set1 (v := .int .i64 (0)) (set2 (i := 0) (j := 1) (v := .int .i64 (0)) (by decide) rc1)
    have d12 := set2 (i := 2) (j := 1) (v := .int .i64 (0)) (by decide) e1
    have e2 := set1 (v := .int .i64 (0)) (set2 (i := 1) (j := 2) (v := .int .i64 (0)) (by decide) (set2 (i := 0) (j := 2) (v := .int .i64 (0)) (by decide) rc2))
    go_wp2
    refine bodyPost_ret (v := .tuple #[.agg #[.int .i64 0, .int .i64 0, .int .i64 0], .int .i64 1]) (by simp [results, Try.results40, go_sem, *]) rfl ⟨rfl, ?_⟩
    exact (((hb0.setCell (by simp) _).setCell (by simp) _).setCell (by simp) _)
  | true =>
    obtain ⟨hn', hs⟩ := isS_t h1
    have hle := lead_le (okA xs) n
    have hsl := same_lead hs
    replace hs := Lib.hid hs
    generalize hv : lead (okA xs) n = v at hle hsl
    by_cases h2 : v < n
    · have hr : codeV n xs = 5 := by unfold codeV; rw [h1, if_pos rfl, hv, if_pos h2]
      have hr2 : lawR n xs = (0, 0, 0) := by unfold lawR; rw [hr]; simp
      have hrv : (if lead (okR xs) n < n then ((lead (okR xs) n : Nat) : Int) else -1) = (v : Int) := by rw [hsl, if_pos h2]
      generalize hS0 : stR xs v = S
      have hS : stR xs (lead (okR xs) n) = S := by rw [hsl]; exact hS0
      obtain ⟨s1, s2, s3⟩ := S
      replace hrv := Lib.hid hrv
      replace hS := Lib.hid hS
      clear hv hsl hS0
      have hge : (0 : Int) ≤ (v : Int) := by omega
      rw [hr, hr2]
      clear hr hr2
      go_enter Try.func40, Try.ntmps40
      go_wp2_with fail
      refine (sIsSignals_any _ _ _ _ _ _ (hxa.out _) (by simp) hn).mono ?_
      rintro e w' ⟨rfl, hb⟩
      rw [h1]
      have hz := hb.size
      simp at hz
      go_wp2_with fail
      refine (l13Run_val _ _ _ _ _ _ (v : Int) (s1, s2, s3) hrv.out hS.out (((hxa.out _).below (hb.mono (by simp))).more (by omega)) (Nat.le_refl _) hn' hs.out).mono ?_
      rintro e w2 ⟨rfl, hb2⟩
      have hz2 := hb2.size
      have hb1 : Below (w.heap.size + 1) (w.alloc (Obj.cells #[.int .i64 0, .int .i64 0, .int .i64 0] 56)) w2 := (hb.mono (by simp)).trans (hb2.mono (by omega))
      have hb0 : Below w.heap.size w w2 := ((Below.refl _ _).alloc (Nat.le_refl _) _).trans (hb1.mono (by simp))
      have rc0 : w2.cell? ⟨w.heap.size, 0, none⟩ = some (.int .i64 0) := (hb1.cell (p := ⟨_, _, none⟩) (by simp)).trans (by simp)
      have rf0 : w2.frozen? ⟨w.heap.size, 0, none⟩ = false := (hb1.frozen (p := ⟨_, _, none⟩) (by simp)).trans (by simp)
      have rc1 : w2.cell? ⟨w.heap.size, 1, none⟩ = some (.int .i64 0) := (hb1.cell (p := ⟨_, _, none⟩) (by simp)).trans (by simp)
      have rf1 : w2.frozen? ⟨w.heap.size, 1, none⟩ = false := (hb1.frozen (p := ⟨_, _, none⟩) (by simp)).trans (by simp)
      have rc2 : w2.cell? ⟨w.heap.size, 2, none⟩ = some (.int .i64 0) := (hb1.cell (p := ⟨_, _, none⟩) (by simp)).trans (by simp)
      have rf2 : w2.frozen? ⟨w.heap.size, 2, none⟩ = false := (hb1.frozen (p := ⟨_, _, none⟩) (by simp)).trans (by simp)
      have e0 := set1 (v := .int .i64 (0)) rc0
      have d01 := set2 (i := 1) (j := 0) (v := .int .i64 (0)) (by decide) e0
      have d02 := set2 (i := 2) (j := 0) (v := .int .i64 (0)) (by decide) d01
      have e1 := set1 (v := .int .i64 (0)) (set2 (i := 0) (j := 1) (v := .int .i64 (0)) (by decide) rc1)
      have d12 := set2 (i := 2) (j := 1) (v := .int .i64 (0)) (by decide) e1
      have e2 := set1 (v := .int .i64 (0)) (set2 (i := 1) (j := 2) (v := .int .i64 (0)) (by decide) (set2 (i := 0) (j := 2) (v := .int .i64 (0)) (by decide) rc2))
      have hzz : w.heap.size < w2.heap.size := by omega
      go_wp2
      refine bodyPost_ret (v := .tuple #[.agg #[.int .i64 0, .int .i64 0, .int .i64 0], .int .i64 5]) (by simp [results, Try.results40, go_sem, *]) rfl ⟨rfl, ?_⟩
      exact (((hb0.setCell (by simp) _).setCell (by simp) _).setCell (by simp) _).alloc (by simp; omega) _
    · have hr : codeV n xs = 0 := by unfold codeV; rw [h1, if_pos rfl, hv, if_neg h2]
      obtain rfl : v = n := by omega
      have hr2 : lawR v xs = stR xs v := by unfold lawR; rw [hr]; simp
      rw [hr, hr2]
      clear hr hr2
      have hrv : (if lead (okR xs) v < v then ((lead (okR xs) v : Nat) : Int) else -1) = -1 := by rw [hsl, if_neg h2]
      generalize hS0 : stR xs v = S
      have hS : stR xs (lead (okR xs) v) = S := by rw [hsl]; exact hS0
      obtain ⟨s1, s2, s3⟩ := S
      replace hrv := Lib.hid hrv
      replace hS := Lib.hid hS
      clear hv hsl hS0
      go_enter Try.func40, Try.ntmps40
      go_wp2_with fail
      refine (sIsSignals_any _ _ _ _ _ _ (hxa.out _) (by simp) hn).mono ?_
      rintro e w' ⟨rfl, hb⟩
      rw [h1]
      have hz := hb.size
      simp at hz
      go_wp2_with fail
      refine (l13Run_val _ _ _ _ _ _ (-1) (s1, s2, s3) hrv.out hS.out (((hxa.out _).below (hb.mono (by simp))).more (by omega)) (Nat.le_refl _) hn' hs.out).mono ?_
      rintro e w2 ⟨rfl, hb2⟩
      have hz2 := hb2.size
      have hb1 : Below (w.heap.size + 1) (w.alloc (Obj.cells #[.int .i64 0, .int .i64 0, .int .i64 0] 56)) w2 := (hb.mono (by simp)).trans (hb2.mono (by omega))
      have hb0 : Below w.heap.size w w2 := ((Below.refl _ _).alloc (Nat.le_refl _) _).trans (hb1.mono (by simp))
      have rc0 : w2.cell? ⟨w.heap.size, 0, none⟩ = some (.int .i64 0) := (hb1.cell (p := ⟨_, _, none⟩) (by simp)).trans (by simp)
      have rf0 : w2.frozen? ⟨w.heap.size, 0, none⟩ = false := (hb1.frozen (p := ⟨_, _, none⟩) (by simp)).trans (by simp)
      have rc1 : w2.cell? ⟨w.heap.size, 1, none⟩ = some (.int .i64 0) := (hb1.cell (p := ⟨_, _, none⟩) (by simp)).trans (by simp)
      have rf1 : w2.frozen? ⟨w.heap.size, 1, none⟩ = false := (hb1.frozen (p := ⟨_, _, none⟩) (by simp)).trans (by simp)
      have rc2 : w2.cell? ⟨w.heap.size, 2, none⟩ = some (.int .i64 0) := (hb1.cell (p := ⟨_, _, none⟩) (by simp)).trans (by simp)
      have rf2 : w2.frozen? ⟨w.heap.size, 2, none⟩ = false := (hb1.frozen (p := ⟨_, _, none⟩) (by simp)).trans (by simp)
      have e0 := set1 (v := .int .i64 (s1)) rc0
      have d01 := set2 (i := 1) (j := 0) (v := .int .i64 (s2)) (by decide) e0
      have d02 := set2 (i := 2) (j := 0) (v := .int .i64 (s3)) (by decide) d01
      have e1 := set1 (v := .int .i64 (s2)) (set2 (i := 0) (j := 1) (v := .int .i64 (s1)) (by decide) rc1)
      have d12 := set2 (i := 2) (j := 1) (v := .int .i64 (s3)) (by decide) e1
      have e2 := set1 (v := .int .i64 (s3)) (set2 (i := 1) (j := 2) (v := .int .i64 (s2)) (by decide) (set2 (i := 0) (j := 2) (v := .int .i64 (s1)) (by decide) rc2))
      have hzz : w.heap.size < w2.heap.size := by omega
      go_wp2
      refine bodyPost_ret (v := .tuple #[.agg #[.int .i64 s1, .int .i64 s2, .int .i64 s3], .int .i64 0]) (by simp [results, Try.results40, go_sem, *]) rfl ⟨rfl, ?_⟩
      exact (((hb0.setCell (by simp) _).setCell (by simp) _).setCell (by simp) _).alloc (by simp; omega) _
end Go.Proofs.Ytfckoeoohlgmiaa
