/- DeadlineAfter, IsInTime: the program's and the reference's return one value. -/
import Derived.Test.YtghpaegabppeaaaWin3
set_option linter.unusedSimpArgs false
set_option linter.unusedVariables false
namespace Go.Proofs.Ytghpaegabppeaaa
open Go.RowKit
theorem i64_bd {n : Int} (h : (Lit.int .i64 n).wf = true) : -9223372036854775808 ≤ n ∧ n ≤ 9223372036854775807 := by
  simp [Lit.wf, IntKind.min, IntKind.max, IntKind.signed, IntKind.bits] at h
  omega
theorem ret_bi {a c : Bool} {b d : Int} (h : a = c) (h' : b = d) : Ending.returned (.tuple #[.bool a, .int .i64 b]) = .returned (.tuple #[.bool c, .int .i64 d]) := by rw [h, h']

set_option maxHeartbeats 4000000 in
theorem deadlineAfterF_any (A : Option Addr) (n c B : Nat) (f len : Int) (xs : Nat → Int) (w : World) (hx : Ints w B A (n * 2) xs) (hB : B ≤ w.heap.size) (hn : n ≤ 1048576) (hl2 : len ≤ 9223372036854775807) :
    Calls Try.prog 25 #[.slice A n c, .int .i64 f, .int .i64 len] w fun e w' => e = .returned (.tuple #[.int .i64 (daV n xs f len).1, .int .i64 (daV n xs f len).2]) ∧ Below w.heap.size w w' := by
  replace hx := Lib.hid hx
  cases h0 : isL n xs with
  | false =>
    have e1 : daV n xs f len = (0, 1) := by simp [daV, h0]
    rw [e1]
    clear e1
    go_enter Try.func25, Try.ntmps25
    go_wp2_with fail
    refine (isWindows_any _ _ _ _ _ _ hx.out hB (by omega)).mono ?_
    rintro e w1 ⟨rfl, hb1⟩
    go_wp2_with (go_at_call 45; refine (isTime_any _ _).mono ?_; rintro e w' ⟨rfl, rfl⟩)
    go_ret2
    exact ⟨rfl, hb1⟩
  | true =>
  cases h1 : inB f 0 1000000000 with
  | false =>
    have e1 : daV n xs f len = (0, 2) := by simp [daV, h0, h1]
    rw [e1]
    clear e1
    go_enter Try.func25, Try.ntmps25
    go_wp2_with fail
    refine (isWindows_any _ _ _ _ _ _ hx.out hB (by omega)).mono ?_
    rintro e w1 ⟨rfl, hb1⟩
    go_wp2_with (go_at_call 45; refine (isTime_any _ _).mono ?_; rintro e w' ⟨rfl, rfl⟩)
    go_ret2
    exact ⟨rfl, hb1⟩
  | true =>
  by_cases h2 : 0 ≤ len
  · obtain ⟨l1, u1⟩ := inB_t h1
    have hL := Lib.hid h0
    cases hd : dlV n xs f len with
    | none =>
      rw [show daV n xs f len = (0, 4) by simp [daV, h0, h1, h2, hd]]
      have hd := Lib.hid hd
      go_enter Try.func25, Try.ntmps25
      go_wp2_with fail
      refine (isWindows_any _ _ _ _ _ _ hx.out hB (by omega)).mono ?_
      rintro e w1 ⟨rfl, hb1⟩
      have hx1 := Lib.hid (hx.out.below (hb1.mono hB))
      have hs1 := hb1.size
      go_wp2_with (first | (go_at_call 45; refine (isTime_any _ _).mono ?_; rintro e w' ⟨rfl, rfl⟩) | fail)
      refine (deadlineAfter_any _ _ _ _ _ _ _ _ hx1.out (by omega) hL.out l1 u1 h2 hl2).mono ?_
      rintro e w2 ⟨rfl, hb2⟩
      rw [hd.out, show dlN none = -1 from rfl]
      go_wp2_with (go_at_call 45; refine (isTime_any _ _).mono ?_; rintro e w' ⟨rfl, rfl⟩)
      go_ret2
      exact ⟨rfl, hb1.trans (hb2.mono hs1)⟩
    | some r =>
      obtain ⟨r0, r1, r2⟩ := dlV_bd h0 l1 u1 h2 hd
      rw [show daV n xs f len = (r, 0) by simp [daV, h0, h1, h2, hd]]
      have hd := Lib.hid hd
      go_enter Try.func25, Try.ntmps25
      go_wp2_with fail
      refine (isWindows_any _ _ _ _ _ _ hx.out hB (by omega)).mono ?_
      rintro e w1 ⟨rfl, hb1⟩
      have hx1 := Lib.hid (hx.out.below (hb1.mono hB))
      have hs1 := hb1.size
      go_wp2_with (first | (go_at_call 45; refine (isTime_any _ _).mono ?_; rintro e w' ⟨rfl, rfl⟩) | fail)
      refine (deadlineAfter_any _ _ _ _ _ _ _ _ hx1.out (by omega) hL.out l1 u1 h2 hl2).mono ?_
      rintro e w2 ⟨rfl, hb2⟩
      rw [hd.out, show dlN (some r) = r from rfl]
      go_wp2_with (go_at_call 45; refine (isTime_any _ _).mono ?_; rintro e w' ⟨rfl, rfl⟩)
      go_ret2
      exact ⟨rfl, hb1.trans (hb2.mono hs1)⟩
  · have e1 : daV n xs f len = (0, 2) := by simp [daV, h0, h1, h2]
    rw [e1]
    clear e1
    go_enter Try.func25, Try.ntmps25
    go_wp2_with fail
    refine (isWindows_any _ _ _ _ _ _ hx.out hB (by omega)).mono ?_
    rintro e w1 ⟨rfl, hb1⟩
    go_wp2_with (go_at_call 45; refine (isTime_any _ _).mono ?_; rintro e w' ⟨rfl, rfl⟩)
    go_ret2
    exact ⟨rfl, hb1⟩

set_option maxHeartbeats 4000000 in
theorem sDeadlineAfterF_any (A : Option Addr) (n c B : Nat) (f len : Int) (xs : Nat → Int) (w : World) (hx : Ints w B A (n * 2) xs) (hB : B ≤ w.heap.size) (hn : n ≤ 1048576) (hl2 : len ≤ 9223372036854775807) :
    Calls Try.prog 24 #[.slice A n c, .int .i64 f, .int .i64 len] w fun e w' => e = .returned (.tuple #[.int .i64 (daV n xs f len).1, .int .i64 (daV n xs f len).2]) ∧ Below w.heap.size w w' := by
  replace hx := Lib.hid hx
  cases h0 : isL n xs with
  | false =>
    have e1 : daV n xs f len = (0, 1) := by simp [daV, h0]
    rw [e1]
    clear e1
    go_enter Try.func24, Try.ntmps24
    go_wp2_with fail
    refine (sIsWindows_any _ _ _ _ _ _ hx.out hB (by omega)).mono ?_
    rintro e w1 ⟨rfl, hb1⟩
    go_wp2_with (go_at_call 44; refine (l01In_any _ _ _ _).mono ?_; rintro e w' ⟨rfl, rfl⟩)
    go_ret2
    exact ⟨rfl, hb1⟩
  | true =>
  cases h1 : inB f 0 1000000000 with
  | false =>
    have e1 : daV n xs f len = (0, 2) := by simp [daV, h0, h1]
    rw [e1]
    clear e1
    go_enter Try.func24, Try.ntmps24
    go_wp2_with fail
    refine (sIsWindows_any _ _ _ _ _ _ hx.out hB (by omega)).mono ?_
    rintro e w1 ⟨rfl, hb1⟩
    go_wp2_with (go_at_call 44; refine (l01In_any _ _ _ _).mono ?_; rintro e w' ⟨rfl, rfl⟩)
    go_ret2
    exact ⟨rfl, hb1⟩
  | true =>
  by_cases h2 : 0 ≤ len
  · obtain ⟨l1, u1⟩ := inB_t h1
    have hL := Lib.hid h0
    cases hd : dlV n xs f len with
    | none =>
      rw [show daV n xs f len = (0, 4) by simp [daV, h0, h1, h2, hd]]
      have hd := Lib.hid hd
      go_enter Try.func24, Try.ntmps24
      go_wp2_with fail
      refine (sIsWindows_any _ _ _ _ _ _ hx.out hB (by omega)).mono ?_
      rintro e w1 ⟨rfl, hb1⟩
      have hx1 := Lib.hid (hx.out.below (hb1.mono hB))
      have hs1 := hb1.size
      go_wp2_with (first | (go_at_call 44; refine (l01In_any _ _ _ _).mono ?_; rintro e w' ⟨rfl, rfl⟩) | fail)
      refine (l20Deadline_any _ _ _ _ _ _ _ _ hx1.out (by omega) hL.out l1 u1 h2 hl2).mono ?_
      rintro e w2 ⟨rfl, hb2⟩
      rw [hd.out, show dlB none = (0, false) from rfl]
      go_wp2_with (go_at_call 44; refine (l01In_any _ _ _ _).mono ?_; rintro e w' ⟨rfl, rfl⟩)
      go_ret2
      exact ⟨rfl, hb1.trans (hb2.mono hs1)⟩
    | some r =>
      obtain ⟨r0, r1, r2⟩ := dlV_bd h0 l1 u1 h2 hd
      rw [show daV n xs f len = (r, 0) by simp [daV, h0, h1, h2, hd]]
      have hd := Lib.hid hd
      go_enter Try.func24, Try.ntmps24
      go_wp2_with fail
      refine (sIsWindows_any _ _ _ _ _ _ hx.out hB (by omega)).mono ?_
      rintro e w1 ⟨rfl, hb1⟩
      have hx1 := Lib.hid (hx.out.below (hb1.mono hB))
      have hs1 := hb1.size
      go_wp2_with (first | (go_at_call 44; refine (l01In_any _ _ _ _).mono ?_; rintro e w' ⟨rfl, rfl⟩) | fail)
      refine (l20Deadline_any _ _ _ _ _ _ _ _ hx1.out (by omega) hL.out l1 u1 h2 hl2).mono ?_
      rintro e w2 ⟨rfl, hb2⟩
      rw [hd.out, show dlB (some r) = (r, true) from rfl]
      go_wp2_with (go_at_call 44; refine (l01In_any _ _ _ _).mono ?_; rintro e w' ⟨rfl, rfl⟩)
      go_ret2
      exact ⟨rfl, hb1.trans (hb2.mono hs1)⟩
  · have e1 : daV n xs f len = (0, 2) := by simp [daV, h0, h1, h2]
    rw [e1]
    clear e1
    go_enter Try.func24, Try.ntmps24
    go_wp2_with fail
    refine (sIsWindows_any _ _ _ _ _ _ hx.out hB (by omega)).mono ?_
    rintro e w1 ⟨rfl, hb1⟩
    go_wp2_with (go_at_call 44; refine (l01In_any _ _ _ _).mono ?_; rintro e w' ⟨rfl, rfl⟩)
    go_ret2
    exact ⟨rfl, hb1⟩

/-- How the answer is come to. -/
theorem daV_cases (n : Nat) (xs : Nat → Int) (f len : Int) : daV n xs f len = (0, 1) ∨ daV n xs f len = (0, 2) ∨ daV n xs f len = (0, 4) ∨ ∃ r, daV n xs f len = (r, 0) := by
  unfold daV
  split
  · split
    · split
      · exact .inr (.inr (.inr ⟨_, rfl⟩))
      · exact .inr (.inr (.inl rfl))
    · exact .inr (.inl rfl)
  · exact .inl rfl
theorem itV_of (n : Nat) (xs : Nat → Int) (f len t : Int) : itV n xs f len t = (if (daV n xs f len).2 = 1 then (false, 1) else if inB t 0 1000000000 = false then (false, 2) else (decide ((daV n xs f len).2 = 0) && decide (t ≤ (daV n xs f len).1), (daV n xs f len).2)) := by
  unfold itV daV
  cases h0 : isL n xs <;> cases h1 : inB f 0 1000000000 <;> by_cases h2 : 0 ≤ len <;> cases h3 : inB t 0 1000000000 <;> cases h4 : dlV n xs f len <;> simp [h0, h1, h2, h3, h4]
set_option maxHeartbeats 4000000 in
theorem isInTime_any (A : Option Addr) (n c B : Nat) (f len t : Int) (xs : Nat → Int) (w : World) (hx : Ints w B A (n * 2) xs) (hB : B ≤ w.heap.size) (hn : n ≤ 1048576) (hl2 : len ≤ 9223372036854775807) :
    Calls Try.prog 27 #[.slice A n c, .int .i64 f, .int .i64 len, .int .i64 t] w fun e w' => e = .returned (.tuple #[.bool (itV n xs f len t).1, .int .i64 (itV n xs f len t).2]) ∧ Below w.heap.size w w' := by
  have hv := itV_of n xs f len t
  generalize itV n xs f len t = v at hv ⊢
  replace hx := Lib.hid hx
  rcases daV_cases n xs f len with e1 | e1 | e1 | ⟨r, e1⟩
  · have e2 : v = (false, 1) := by rw [hv, e1]; simp
    subst e2
    clear hv
    go_enter Try.func27, Try.ntmps27
    go_wp2_with fail
    refine (deadlineAfterF_any _ _ _ _ _ _ _ _ hx.out hB hn hl2).mono ?_
    rintro e w1 ⟨rfl, hb1⟩
    go_wp2
    go_ret2
    exact ⟨rfl, hb1⟩
  all_goals
    cases h1 : inB t 0 1000000000 with
    | false =>
      have e2 : v = (false, 2) := by rw [hv, e1]; simp [h1]
      subst e2
      clear hv
      go_enter Try.func27, Try.ntmps27
      go_wp2_with fail
      refine (deadlineAfterF_any _ _ _ _ _ _ _ _ hx.out hB hn hl2).mono ?_
      rintro e w1 ⟨rfl, hb1⟩
      go_wp2_with (go_at_call 45; refine (isTime_any _ _).mono ?_; rintro e w' ⟨rfl, rfl⟩)
      go_ret2
      exact ⟨rfl, hb1⟩
    | true =>
      rw [e1, h1] at hv
      simp at hv
      subst hv
      go_enter Try.func27, Try.ntmps27
      go_wp2_with fail
      refine (deadlineAfterF_any _ _ _ _ _ _ _ _ hx.out hB hn hl2).mono ?_
      rintro e w1 ⟨rfl, hb1⟩
      go_wp2_with (go_at_call 45; refine (isTime_any _ _).mono ?_; rintro e w' ⟨rfl, rfl⟩)
      all_goals (go_ret2; exact ⟨ret_bi (by first | rfl | (simp; omega)) rfl, hb1⟩)

set_option maxHeartbeats 4000000 in
theorem sIsInTime_any (A : Option Addr) (n c B : Nat) (f len t : Int) (xs : Nat → Int) (w : World) (hx : Ints w B A (n * 2) xs) (hB : B ≤ w.heap.size) (hn : n ≤ 1048576) (hl2 : len ≤ 9223372036854775807) :
    Calls Try.prog 26 #[.slice A n c, .int .i64 f, .int .i64 len, .int .i64 t] w fun e w' => e = .returned (.tuple #[.bool (itV n xs f len t).1, .int .i64 (itV n xs f len t).2]) ∧ Below w.heap.size w w' := by
  replace hx := Lib.hid hx
  cases h0 : isL n xs with
  | false =>
    have e1 : itV n xs f len t = (false, 1) := by simp [itV, h0]
    rw [e1]
    clear e1
    go_enter Try.func26, Try.ntmps26
    go_wp2_with fail
    refine (sIsWindows_any _ _ _ _ _ _ hx.out hB (by omega)).mono ?_
    rintro e w1 ⟨rfl, hb1⟩
    go_wp2_with (go_at_call 44; refine (l01In_any _ _ _ _).mono ?_; rintro e w' ⟨rfl, rfl⟩)
    go_ret2
    exact ⟨rfl, hb1⟩
  | true =>
  cases h1 : inB f 0 1000000000 with
  | false =>
    have e1 : itV n xs f len t = (false, 2) := by simp [itV, h0, h1]
    rw [e1]
    clear e1
    go_enter Try.func26, Try.ntmps26
    go_wp2_with fail
    refine (sIsWindows_any _ _ _ _ _ _ hx.out hB (by omega)).mono ?_
    rintro e w1 ⟨rfl, hb1⟩
    go_wp2_with (go_at_call 44; refine (l01In_any _ _ _ _).mono ?_; rintro e w' ⟨rfl, rfl⟩)
    go_ret2
    exact ⟨rfl, hb1⟩
  | true =>
  by_cases h2 : 0 ≤ len
  · cases h3 : inB t 0 1000000000 with
    | false =>
      have e1 : itV n xs f len t = (false, 2) := by simp [itV, h0, h1, h2, h3]
      rw [e1]
      clear e1
      go_enter Try.func26, Try.ntmps26
      go_wp2_with fail
      refine (sIsWindows_any _ _ _ _ _ _ hx.out hB (by omega)).mono ?_
      rintro e w1 ⟨rfl, hb1⟩
      go_wp2_with (go_at_call 44; refine (l01In_any _ _ _ _).mono ?_; rintro e w' ⟨rfl, rfl⟩)
      go_ret2
      exact ⟨rfl, hb1⟩
    | true =>
    obtain ⟨l1, u1⟩ := inB_t h1
    have hL := Lib.hid h0
    cases hd : dlV n xs f len with
    | none =>
      rw [show itV n xs f len t = (false, 4) by simp [itV, h0, h1, h2, h3, hd]]
      have hd := Lib.hid hd
      go_enter Try.func26, Try.ntmps26
      go_wp2_with fail
      refine (sIsWindows_any _ _ _ _ _ _ hx.out hB (by omega)).mono ?_
      rintro e w1 ⟨rfl, hb1⟩
      have hx1 := Lib.hid (hx.out.below (hb1.mono hB))
      have hs1 := hb1.size
      go_wp2_with (first | (go_at_call 44; refine (l01In_any _ _ _ _).mono ?_; rintro e w' ⟨rfl, rfl⟩) | fail)
      refine (l20Deadline_any _ _ _ _ _ _ _ _ hx1.out (by omega) hL.out l1 u1 h2 hl2).mono ?_
      rintro e w2 ⟨rfl, hb2⟩
      rw [hd.out, show dlB none = (0, false) from rfl]
      go_wp2
      go_ret2
      exact ⟨rfl, hb1.trans (hb2.mono hs1)⟩
    | some r =>
      obtain ⟨r0, r1, r2⟩ := dlV_bd h0 l1 u1 h2 hd
      rw [show itV n xs f len t = (decide (t ≤ r), 0) by simp [itV, h0, h1, h2, h3, hd]]
      have hd := Lib.hid hd
      go_enter Try.func26, Try.ntmps26
      go_wp2_with fail
      refine (sIsWindows_any _ _ _ _ _ _ hx.out hB (by omega)).mono ?_
      rintro e w1 ⟨rfl, hb1⟩
      have hx1 := Lib.hid (hx.out.below (hb1.mono hB))
      have hs1 := hb1.size
      go_wp2_with (first | (go_at_call 44; refine (l01In_any _ _ _ _).mono ?_; rintro e w' ⟨rfl, rfl⟩) | fail)
      refine (l20Deadline_any _ _ _ _ _ _ _ _ hx1.out (by omega) hL.out l1 u1 h2 hl2).mono ?_
      rintro e w2 ⟨rfl, hb2⟩
      rw [hd.out, show dlB (some r) = (r, true) from rfl]
      go_wp2
      go_ret2
      exact ⟨rfl, hb1.trans (hb2.mono hs1)⟩
  · have e1 : itV n xs f len t = (false, 2) := by simp [itV, h0, h1, h2]
    rw [e1]
    clear e1
    go_enter Try.func26, Try.ntmps26
    go_wp2_with fail
    refine (sIsWindows_any _ _ _ _ _ _ hx.out hB (by omega)).mono ?_
    rintro e w1 ⟨rfl, hb1⟩
    go_wp2_with (go_at_call 44; refine (l01In_any _ _ _ _).mono ?_; rintro e w' ⟨rfl, rfl⟩)
    go_ret2
    exact ⟨rfl, hb1⟩

end Go.Proofs.Ytghpaegabppeaaa
