/- Appeals: a ruling as described, what is possible, the state behind a ruling: the program's and the reference's. -/
import Derived.Test.YteacjoemlobmoaaDoorBase
import Derived.Test.YteacjoemlobmoaaDoorMem
import Derived.Test.YteacjoemlobmoaaDoorOver
import Derived.RegionTactic
import Derived.BigRegion
import Derived.Handy
set_option linter.unusedSimpArgs false
set_option linter.unusedVariables false
namespace Go.Proofs.YteacjoemlobmoaaDoor
open Go.RowKit

theorem ret_b {a b : Bool} (h : a = b) : Ending.returned (.bool a) = .returned (.bool b) := by rw [h]
/-- A ruling as described: time, kind, outcome. -/
def rulB (t k u : Int) : Bool := inB t 0 1000000000 && inB k 1 5 && (if k = 1 ∨ k = 3 then inB u 0 3 else (u == 0))
/-- What is possible in a state (decided, time of the decision, told, appealed, reopened). -/
def mayB (d : Bool) (a c : Int) (p q : Bool) (k t : Int) : Bool :=
  if k = 1 then !d else if k = 5 then d && !q && decide (t - c ≤ 604800000) else d && !p && decide (t - a ≤ 86400000)
abbrev St := Bool × Int × Int × Bool × Bool
/-- The state behind a ruling. -/
def aftS (s : St) (t k : Int) : St :=
  if k = 1 then (true, t, t, false, s.2.2.2.2)
  else if k = 2 then (s.1, s.2.1, s.2.2.1, true, s.2.2.2.2)
  else if k = 3 then (s.1, s.2.1, t, true, s.2.2.2.2)
  else if k = 4 then (false, s.2.1, s.2.2.1, s.2.2.2.1, s.2.2.2.2)
  else (false, s.2.1, s.2.2.1, s.2.2.2.1, true)
/-- The state's cells: the program's, the reference's. -/
def cellsP (s : St) : Array Value := #[.bool s.1, .int .i64 s.2.1, .int .i64 s.2.2.1, .bool s.2.2.2.1, .bool s.2.2.2.2]
def cellsR (s : St) : Array Value := #[.bool (!s.1), .int .i64 s.2.1, .int .i64 s.2.2.1, .bool s.2.2.2.1, .bool s.2.2.2.2]

theorem isOutcome_any (n : Int) (w : World) :
    Calls Tryd.prog 36 #[.int .i64 n] w fun e w' => e = .returned (.bool (inB n 0 3)) ∧ w = w' := by
  go_enter Tryd.func36, Tryd.ntmps36
  go_wp2_with (go_at_call 35; refine (within_any _ _ _ _).mono ?_; rintro e w' ⟨rfl, rfl⟩)
  go_ret
  exact ⟨rfl, rfl⟩

set_option maxHeartbeats 4000000 in
theorem isRuling_any (t k u : Int) (w : World) :
    Calls Tryd.prog 22 #[.agg #[.int .i64 t, .int .i64 k, .int .i64 u]] w fun e w' => e = .returned (.bool (rulB t k u)) ∧ Below w.heap.size w w' := by
  cases h1 : inB t 0 1000000000 with
  | false =>
    have hv : rulB t k u = false := by simp [rulB, h1]
    rw [hv]
    clear hv
    go_enter Tryd.func22, Tryd.ntmps22
    go_wp2_with (first | (go_at_call 31; refine (isTime_any _ _).mono ?_; rintro e w' ⟨rfl, rfl⟩) | (go_at_call 36; refine (isOutcome_any _ _).mono ?_; rintro e w' ⟨rfl, rfl⟩) | (go_at_call 35; refine (within_any _ _ _ _).mono ?_; rintro e w' ⟨rfl, rfl⟩))
    go_ret
    exact ⟨rfl, (Below.refl _ _).alloc (Nat.le_refl _) _⟩
  | true =>
  cases h2 : inB k 1 5 with
  | false =>
    have hv : rulB t k u = false := by simp [rulB, h1, h2]
    rw [hv]
    clear hv
    go_enter Tryd.func22, Tryd.ntmps22
    go_wp2_with (first | (go_at_call 31; refine (isTime_any _ _).mono ?_; rintro e w' ⟨rfl, rfl⟩) | (go_at_call 36; refine (isOutcome_any _ _).mono ?_; rintro e w' ⟨rfl, rfl⟩) | (go_at_call 35; refine (within_any _ _ _ _).mono ?_; rintro e w' ⟨rfl, rfl⟩))
    go_ret
    exact ⟨rfl, (Below.refl _ _).alloc (Nat.le_refl _) _⟩
  | true =>
  have h3 := inB_t h2
  obtain rfl | rfl | rfl | rfl | rfl : k = 1 ∨ k = 2 ∨ k = 3 ∨ k = 4 ∨ k = 5 := by omega
  · have hv : rulB t 1 u = inB u 0 3 := by simp [rulB, h1, h2]
    rw [hv]
    clear hv h3
    go_enter Tryd.func22, Tryd.ntmps22
    go_wp2_with (first | (go_at_call 31; refine (isTime_any _ _).mono ?_; rintro e w' ⟨rfl, rfl⟩) | (go_at_call 36; refine (isOutcome_any _ _).mono ?_; rintro e w' ⟨rfl, rfl⟩) | (go_at_call 35; refine (within_any _ _ _ _).mono ?_; rintro e w' ⟨rfl, rfl⟩))
    go_ret
    exact ⟨rfl, (Below.refl _ _).alloc (Nat.le_refl _) _⟩
  · have hv : rulB t 2 u = (u == 0) := by simp [rulB, h1, h2]
    rw [hv]
    clear hv h3
    go_enter Tryd.func22, Tryd.ntmps22
    go_wp2_with (first | (go_at_call 31; refine (isTime_any _ _).mono ?_; rintro e w' ⟨rfl, rfl⟩) | (go_at_call 36; refine (isOutcome_any _ _).mono ?_; rintro e w' ⟨rfl, rfl⟩) | (go_at_call 35; refine (within_any _ _ _ _).mono ?_; rintro e w' ⟨rfl, rfl⟩))
    go_ret
    exact ⟨rfl, (Below.refl _ _).alloc (Nat.le_refl _) _⟩
  · have hv : rulB t 3 u = inB u 0 3 := by simp [rulB, h1, h2]
    rw [hv]
    clear hv h3
    go_enter Tryd.func22, Tryd.ntmps22
    go_wp2_with (first | (go_at_call 31; refine (isTime_any _ _).mono ?_; rintro e w' ⟨rfl, rfl⟩) | (go_at_call 36; refine (isOutcome_any _ _).mono ?_; rintro e w' ⟨rfl, rfl⟩) | (go_at_call 35; refine (within_any _ _ _ _).mono ?_; rintro e w' ⟨rfl, rfl⟩))
    go_ret
    exact ⟨rfl, (Below.refl _ _).alloc (Nat.le_refl _) _⟩
  · have hv : rulB t 4 u = (u == 0) := by simp [rulB, h1, h2]
    rw [hv]
    clear hv h3
    go_enter Tryd.func22, Tryd.ntmps22
    go_wp2_with (first | (go_at_call 31; refine (isTime_any _ _).mono ?_; rintro e w' ⟨rfl, rfl⟩) | (go_at_call 36; refine (isOutcome_any _ _).mono ?_; rintro e w' ⟨rfl, rfl⟩) | (go_at_call 35; refine (within_any _ _ _ _).mono ?_; rintro e w' ⟨rfl, rfl⟩))
    go_ret
    exact ⟨rfl, (Below.refl _ _).alloc (Nat.le_refl _) _⟩
  · have hv : rulB t 5 u = (u == 0) := by simp [rulB, h1, h2]
    rw [hv]
    clear hv h3
    go_enter Tryd.func22, Tryd.ntmps22
    go_wp2_with (first | (go_at_call 31; refine (isTime_any _ _).mono ?_; rintro e w' ⟨rfl, rfl⟩) | (go_at_call 36; refine (isOutcome_any _ _).mono ?_; rintro e w' ⟨rfl, rfl⟩) | (go_at_call 35; refine (within_any _ _ _ _).mono ?_; rintro e w' ⟨rfl, rfl⟩))
    go_ret
    exact ⟨rfl, (Below.refl _ _).alloc (Nat.le_refl _) _⟩
theorem isRuling_val (t k u : Int) (v : Bool) (h : rulB t k u = v) (w : World) :
    Calls Tryd.prog 22 #[.agg #[.int .i64 t, .int .i64 k, .int .i64 u]] w fun e w' => e = .returned (.bool v) ∧ Below w.heap.size w w' := by
  rw [← h]; exact isRuling_any t k u w

set_option maxHeartbeats 4000000 in
theorem l19Ruling_any (t k u : Int) (w : World) :
    Calls Tryd.prog 20 #[.agg #[.int .i64 t, .int .i64 k, .int .i64 u]] w fun e w' => e = .returned (.bool (rulB t k u)) ∧ Below w.heap.size w w' := by
  cases h1 : inB t 0 1000000000 with
  | false =>
    have hv : rulB t k u = false := by simp [rulB, h1]
    rw [hv]
    clear hv
    go_enter Tryd.func20, Tryd.ntmps20
    go_wp2_with (go_at_call 33; refine (l01In_any _ _ _ _).mono ?_; rintro e w' ⟨rfl, rfl⟩)
    go_ret
    exact ⟨rfl, (Below.refl _ _).alloc (Nat.le_refl _) _⟩
  | true =>
  cases h2 : inB k 1 5 with
  | false =>
    have hv : rulB t k u = false := by simp [rulB, h1, h2]
    rw [hv]
    clear hv
    go_enter Tryd.func20, Tryd.ntmps20
    go_wp2_with (go_at_call 33; refine (l01In_any _ _ _ _).mono ?_; rintro e w' ⟨rfl, rfl⟩)
    go_ret
    exact ⟨rfl, (Below.refl _ _).alloc (Nat.le_refl _) _⟩
  | true =>
  have h3 := inB_t h2
  obtain rfl | rfl | rfl | rfl | rfl : k = 1 ∨ k = 2 ∨ k = 3 ∨ k = 4 ∨ k = 5 := by omega
  · have hv : rulB t 1 u = inB u 0 3 := by simp [rulB, h1, h2]
    rw [hv]
    clear hv h3
    go_enter Tryd.func20, Tryd.ntmps20
    go_wp2_with (go_at_call 33; refine (l01In_any _ _ _ _).mono ?_; rintro e w' ⟨rfl, rfl⟩)
    go_ret
    exact ⟨rfl, (Below.refl _ _).alloc (Nat.le_refl _) _⟩
  · have hv : rulB t 2 u = (u == 0) := by simp [rulB, h1, h2]
    rw [hv]
    clear hv h3
    go_enter Tryd.func20, Tryd.ntmps20
    go_wp2_with (go_at_call 33; refine (l01In_any _ _ _ _).mono ?_; rintro e w' ⟨rfl, rfl⟩)
    go_ret
    exact ⟨rfl, (Below.refl _ _).alloc (Nat.le_refl _) _⟩
  · have hv : rulB t 3 u = inB u 0 3 := by simp [rulB, h1, h2]
    rw [hv]
    clear hv h3
    go_enter Tryd.func20, Tryd.ntmps20
    go_wp2_with (go_at_call 33; refine (l01In_any _ _ _ _).mono ?_; rintro e w' ⟨rfl, rfl⟩)
    go_ret
    exact ⟨rfl, (Below.refl _ _).alloc (Nat.le_refl _) _⟩
  · have hv : rulB t 4 u = (u == 0) := by simp [rulB, h1, h2]
    rw [hv]
    clear hv h3
    go_enter Tryd.func20, Tryd.ntmps20
    go_wp2_with (go_at_call 33; refine (l01In_any _ _ _ _).mono ?_; rintro e w' ⟨rfl, rfl⟩)
    go_ret
    exact ⟨rfl, (Below.refl _ _).alloc (Nat.le_refl _) _⟩
  · have hv : rulB t 5 u = (u == 0) := by simp [rulB, h1, h2]
    rw [hv]
    clear hv h3
    go_enter Tryd.func20, Tryd.ntmps20
    go_wp2_with (go_at_call 33; refine (l01In_any _ _ _ _).mono ?_; rintro e w' ⟨rfl, rfl⟩)
    go_ret
    exact ⟨rfl, (Below.refl _ _).alloc (Nat.le_refl _) _⟩
theorem l19Ruling_val (t k u : Int) (v : Bool) (h : rulB t k u = v) (w : World) :
    Calls Tryd.prog 20 #[.agg #[.int .i64 t, .int .i64 k, .int .i64 u]] w fun e w' => e = .returned (.bool v) ∧ Below w.heap.size w w' := by
  rw [← h]; exact l19Ruling_any t k u w

set_option maxHeartbeats 4000000 in
theorem may_any (s : St) (k t : Int) (w : World) (t0 : 0 ≤ t) (t1 : t ≤ 1000000000) (a0 : 0 ≤ s.2.1) (a1 : s.2.1 ≤ 1000000000) (c0 : 0 ≤ s.2.2.1) (c1 : s.2.2.1 ≤ 1000000000) :
    Calls Tryd.prog 32 #[.agg (cellsP s), .int .i64 k, .int .i64 t] w fun e w' => e = .returned (.bool (mayB s.1 s.2.1 s.2.2.1 s.2.2.2.1 s.2.2.2.2 k t)) ∧ Below w.heap.size w w' := by
  obtain ⟨d, a, c, p, q⟩ := s
  simp only [cellsP]
  dsimp only at a0 a1 c0 c1
  cases e1 : (k == 1) with
  | true =>
    obtain rfl : k = 1 := by simpa using e1
    clear e1
    have hv : mayB d a c p q 1 t = !d := by simp [mayB]
    rw [hv]
    clear hv
    go_enter Tryd.func32, Tryd.ntmps32
    go_wp2
    go_ret
    exact ⟨ret_b (by cases d <;> rfl), (Below.refl _ _).alloc (Nat.le_refl _) _⟩
  | false =>
  have n1 : k ≠ 1 := by simpa using e1
  cases e2 : (k == 5) with
  | true =>
    obtain rfl : k = 5 := by simpa using e2
    clear e2
    have hv : mayB d a c p q 5 t = (d && !q && decide (t - c ≤ 604800000)) := by simp [mayB]
    rw [hv]
    clear hv
    cases d with
    | false =>
      go_enter Tryd.func32, Tryd.ntmps32
      go_wp2
      go_ret
      exact ⟨ret_b (by simp), (Below.refl _ _).alloc (Nat.le_refl _) _⟩
    | true =>
    cases q with
    | true =>
      go_enter Tryd.func32, Tryd.ntmps32
      go_wp2
      go_ret
      exact ⟨ret_b (by simp), (Below.refl _ _).alloc (Nat.le_refl _) _⟩
    | false =>
      cases h : decide (t - c ≤ 604800000) with
      | false =>
        go_enter Tryd.func32, Tryd.ntmps32
        go_wp2
        go_ret
        exact ⟨ret_b (by simp), (Below.refl _ _).alloc (Nat.le_refl _) _⟩
      | true =>
        go_enter Tryd.func32, Tryd.ntmps32
        go_wp2
        go_ret
        exact ⟨ret_b (by simp), (Below.refl _ _).alloc (Nat.le_refl _) _⟩
  | false =>
    have n2 : k ≠ 5 := by simpa using e2
    have hv : mayB d a c p q k t = (d && !p && decide (t - a ≤ 86400000)) := by simp [mayB, n1, n2]
    rw [hv]
    clear hv n1 n2
    cases d with
    | false =>
      go_enter Tryd.func32, Tryd.ntmps32
      go_wp2
      go_ret
      exact ⟨ret_b (by simp), (Below.refl _ _).alloc (Nat.le_refl _) _⟩
    | true =>
    cases p with
    | true =>
      go_enter Tryd.func32, Tryd.ntmps32
      go_wp2
      go_ret
      exact ⟨ret_b (by simp), (Below.refl _ _).alloc (Nat.le_refl _) _⟩
    | false =>
      cases h : decide (t - a ≤ 86400000) with
      | false =>
        go_enter Tryd.func32, Tryd.ntmps32
        go_wp2
        go_ret
        exact ⟨ret_b (by simp), (Below.refl _ _).alloc (Nat.le_refl _) _⟩
      | true =>
        go_enter Tryd.func32, Tryd.ntmps32
        go_wp2
        go_ret
        exact ⟨ret_b (by simp), (Below.refl _ _).alloc (Nat.le_refl _) _⟩

set_option maxHeartbeats 4000000 in
theorem after_any (s : St) (t k u : Int) (w : World) (k0 : 1 ≤ k) (k1 : k ≤ 5) :
    Calls Tryd.prog 38 #[.agg (cellsP s), .agg #[.int .i64 t, .int .i64 k, .int .i64 u]] w fun e w' => e = .returned (.agg (cellsP (aftS s t k))) ∧ Below w.heap.size w w' := by
  obtain ⟨d, a, c, p, q⟩ := s
  simp only [cellsP]
  obtain rfl | rfl | rfl | rfl | rfl : k = 1 ∨ k = 2 ∨ k = 3 ∨ k = 4 ∨ k = 5 := by omega
  · have hv : aftS (d, a, c, p, q) t 1 = (true, t, t, false, q) := by simp [aftS]
    rw [hv]
    clear hv k0 k1
    go_enter Tryd.func38, Tryd.ntmps38
    go_wp2
    refine bodyPost_ret (v := .agg #[.bool true, .int .i64 t, .int .i64 t, .bool false, .bool q]) (by simp [results, Tryd.results38, go_sem]) rfl ⟨rfl, ?_⟩
    go_grown
  · have hv : aftS (d, a, c, p, q) t 2 = (d, a, c, true, q) := by simp [aftS]
    rw [hv]
    clear hv k0 k1
    go_enter Tryd.func38, Tryd.ntmps38
    go_wp2
    refine bodyPost_ret (v := .agg #[.bool d, .int .i64 a, .int .i64 c, .bool true, .bool q]) (by simp [results, Tryd.results38, go_sem]) rfl ⟨rfl, ?_⟩
    go_grown
  · have hv : aftS (d, a, c, p, q) t 3 = (d, a, t, true, q) := by simp [aftS]
    rw [hv]
    clear hv k0 k1
    go_enter Tryd.func38, Tryd.ntmps38
    go_wp2
    go_region
    go_wp2
    refine bodyPost_ret (v := .agg #[.bool d, .int .i64 a, .int .i64 t, .bool true, .bool q]) (by simp [results, Tryd.results38, go_sem]) rfl ⟨rfl, ?_⟩
    go_grown
  · have hv : aftS (d, a, c, p, q) t 4 = (false, a, c, p, q) := by simp [aftS]
    rw [hv]
    clear hv k0 k1
    go_enter Tryd.func38, Tryd.ntmps38
    go_wp2
    refine bodyPost_ret (v := .agg #[.bool false, .int .i64 a, .int .i64 c, .bool p, .bool q]) (by simp [results, Tryd.results38, go_sem]) rfl ⟨rfl, ?_⟩
    go_grown
  · have hv : aftS (d, a, c, p, q) t 5 = (false, a, c, p, true) := by simp [aftS]
    rw [hv]
    clear hv k0 k1
    go_enter Tryd.func38, Tryd.ntmps38
    go_wp2
    refine bodyPost_ret (v := .agg #[.bool false, .int .i64 a, .int .i64 c, .bool p, .bool true]) (by simp [results, Tryd.results38, go_sem]) rfl ⟨rfl, ?_⟩
    go_grown

set_option maxHeartbeats 4000000 in
theorem poss_any (s : St) (k t : Int) (w : World) (t0 : 0 ≤ t) (t1 : t ≤ 1000000000) (a0 : 0 ≤ s.2.1) (a1 : s.2.1 ≤ 1000000000) (c0 : 0 ≤ s.2.2.1) (c1 : s.2.2.1 ≤ 1000000000) :
    Calls Tryd.prog 34 #[.agg (cellsR s), .int .i64 k, .int .i64 t] w fun e w' => e = .returned (.bool (mayB s.1 s.2.1 s.2.2.1 s.2.2.2.1 s.2.2.2.2 k t)) ∧ Below w.heap.size w w' := by
  obtain ⟨d, a, c, p, q⟩ := s
  simp only [cellsR]
  dsimp only at a0 a1 c0 c1
  cases e1 : (k == 1) with
  | true =>
    obtain rfl : k = 1 := by simpa using e1
    clear e1
    have hv : mayB d a c p q 1 t = !d := by simp [mayB]
    rw [hv]
    clear hv
    go_enter Tryd.func34, Tryd.ntmps34
    go_wp2
    go_ret
    exact ⟨ret_b (by cases d <;> rfl), (Below.refl _ _).alloc (Nat.le_refl _) _⟩
  | false =>
  have n1 : k ≠ 1 := by simpa using e1
  cases e2 : (k == 5) with
  | true =>
    obtain rfl : k = 5 := by simpa using e2
    clear e2
    have hv : mayB d a c p q 5 t = (d && !q && decide (t - c ≤ 604800000)) := by simp [mayB]
    rw [hv]
    clear hv
    cases d with
    | false =>
      go_enter Tryd.func34, Tryd.ntmps34
      go_wp2
      go_ret
      exact ⟨ret_b (by simp), (Below.refl _ _).alloc (Nat.le_refl _) _⟩
    | true =>
    cases q with
    | true =>
      go_enter Tryd.func34, Tryd.ntmps34
      go_wp2
      go_ret
      exact ⟨ret_b (by simp), (Below.refl _ _).alloc (Nat.le_refl _) _⟩
    | false =>
      cases h : decide (t - c ≤ 604800000) with
      | false =>
        go_enter Tryd.func34, Tryd.ntmps34
        go_wp2
        go_ret
        exact ⟨ret_b (by simp), (Below.refl _ _).alloc (Nat.le_refl _) _⟩
      | true =>
        go_enter Tryd.func34, Tryd.ntmps34
        go_wp2
        go_ret
        exact ⟨ret_b (by simp), (Below.refl _ _).alloc (Nat.le_refl _) _⟩
  | false =>
    have n2 : k ≠ 5 := by simpa using e2
    have hv : mayB d a c p q k t = (d && !p && decide (t - a ≤ 86400000)) := by simp [mayB, n1, n2]
    rw [hv]
    clear hv n1 n2
    cases d with
    | false =>
      go_enter Tryd.func34, Tryd.ntmps34
      go_wp2
      go_ret
      exact ⟨ret_b (by simp), (Below.refl _ _).alloc (Nat.le_refl _) _⟩
    | true =>
    cases p with
    | true =>
      go_enter Tryd.func34, Tryd.ntmps34
      go_wp2
      go_ret
      exact ⟨ret_b (by simp), (Below.refl _ _).alloc (Nat.le_refl _) _⟩
    | false =>
      cases h : decide (t - a ≤ 86400000) with
      | false =>
        go_enter Tryd.func34, Tryd.ntmps34
        go_wp2
        go_ret
        exact ⟨ret_b (by simp), (Below.refl _ _).alloc (Nat.le_refl _) _⟩
      | true =>
        go_enter Tryd.func34, Tryd.ntmps34
        go_wp2
        go_ret
        exact ⟨ret_b (by simp), (Below.refl _ _).alloc (Nat.le_refl _) _⟩

set_option maxHeartbeats 4000000 in
theorem next19_any (s : St) (t k u : Int) (w : World) (k0 : 1 ≤ k) (k1 : k ≤ 5) :
    Calls Tryd.prog 39 #[.agg (cellsR s), .agg #[.int .i64 t, .int .i64 k, .int .i64 u]] w fun e w' => e = .returned (.agg (cellsR (aftS s t k))) ∧ Below w.heap.size w w' := by
  obtain ⟨d, a, c, p, q⟩ := s
  simp only [cellsR]
  obtain rfl | rfl | rfl | rfl | rfl : k = 1 ∨ k = 2 ∨ k = 3 ∨ k = 4 ∨ k = 5 := by omega
  · have hv : aftS (d, a, c, p, q) t 1 = (true, t, t, false, q) := by simp [aftS]
    rw [hv]
    clear hv k0 k1
    go_enter Tryd.func39, Tryd.ntmps39
    go_wp2
    refine bodyPost_ret (v := .agg #[.bool false, .int .i64 t, .int .i64 t, .bool false, .bool q]) (by simp [results, Tryd.results39, go_sem]) rfl ⟨rfl, ?_⟩
    go_grown
  · have hv : aftS (d, a, c, p, q) t 2 = (d, a, c, true, q) := by simp [aftS]
    rw [hv]
    clear hv k0 k1
    go_enter Tryd.func39, Tryd.ntmps39
    go_wp2
    refine bodyPost_ret (v := .agg #[.bool (!d), .int .i64 a, .int .i64 c, .bool true, .bool q]) (by simp [results, Tryd.results39, go_sem]) rfl ⟨rfl, ?_⟩
    go_grown
  · have hv : aftS (d, a, c, p, q) t 3 = (d, a, t, true, q) := by simp [aftS]
    rw [hv]
    clear hv k0 k1
    go_enter Tryd.func39, Tryd.ntmps39
    go_wp2
    refine bodyPost_ret (v := .agg #[.bool (!d), .int .i64 a, .int .i64 t, .bool true, .bool q]) (by simp [results, Tryd.results39, go_sem]) rfl ⟨rfl, ?_⟩
    go_grown
  · have hv : aftS (d, a, c, p, q) t 4 = (false, a, c, p, q) := by simp [aftS]
    rw [hv]
    clear hv k0 k1
    go_enter Tryd.func39, Tryd.ntmps39
    go_wp2
    refine bodyPost_ret (v := .agg #[.bool true, .int .i64 a, .int .i64 c, .bool p, .bool q]) (by simp [results, Tryd.results39, go_sem]) rfl ⟨rfl, ?_⟩
    go_grown
  · have hv : aftS (d, a, c, p, q) t 5 = (false, a, c, p, true) := by simp [aftS]
    rw [hv]
    clear hv k0 k1
    go_enter Tryd.func39, Tryd.ntmps39
    go_wp2
    refine bodyPost_ret (v := .agg #[.bool true, .int .i64 a, .int .i64 c, .bool p, .bool true]) (by simp [results, Tryd.results39, go_sem]) rfl ⟨rfl, ?_⟩
    go_grown

end Go.Proofs.YteacjoemlobmoaaDoor
