/- curveTime, PaceAt, CurveTime: the program's and the reference's return one value. -/
import Derived.Test.YtjbioohpkmcmmaaPace
set_option linter.unusedSimpArgs false
set_option linter.unusedVariables false
namespace Go.Proofs.Ytjbioohpkmcmmaa
open Go.RowKit

theorem isStrength_any (n : Int) (w : World) :
    Calls Try.prog 23 #[.int .i64 n] w fun e w' => e = .returned (.bool (inB n 0 1000)) ∧ w = w' := by
  go_enter Try.func23, Try.ntmps23
  go_wp2_with (go_at_call 20; refine (within_any _ _ _ _).mono ?_; rintro e w' ⟨rfl, rfl⟩)
  go_ret
  exact ⟨rfl, rfl⟩

set_option maxHeartbeats 2000000 in
theorem paceAtF_any (A : Option Addr) (n c B : Nat) (wnd : Int) (xs : Nat → Int) (w : World) (hx : Ints w B A (n * 2) xs) (hB : B ≤ w.heap.size) (hn : n ≤ 1048576) :
    Calls Try.prog 13 #[.slice A n c, .int .i64 wnd] w fun e w' => e = .returned (.tuple #[.int .i64 (paV n xs wnd).1, .int .i64 (paV n xs wnd).2]) ∧ Below w.heap.size w w' := by
  replace hx := Lib.hid hx
  cases h0 : isC n xs with
  | false =>
    have e1 : paV n xs wnd = (0, 1) := by simp [paV, h0]
    rw [e1]
    clear e1
    go_enter Try.func13, Try.ntmps13
    go_wp2_with fail
    refine (isCurve_any _ _ _ _ _ _ hx.out hB (by omega)).mono ?_
    rintro e w1 ⟨rfl, hb1⟩
    go_wp2
    go_ret2
    exact ⟨rfl, hb1⟩
  | true =>
  cases h1 : inB wnd 0 1000 with
  | false =>
    have e1 : paV n xs wnd = (0, 2) := by simp [paV, h0, h1]
    rw [e1]
    clear e1
    go_enter Try.func13, Try.ntmps13
    go_wp2_with fail
    refine (isCurve_any _ _ _ _ _ _ hx.out hB (by omega)).mono ?_
    rintro e w1 ⟨rfl, hb1⟩
    go_wp2_with (go_at_call 23; refine (isStrength_any _ _).mono ?_; rintro e w' ⟨rfl, rfl⟩)
    go_ret2
    exact ⟨rfl, hb1⟩
  | true =>
    have e1 : paV n xs wnd = (paceV n xs wnd, 0) := by simp [paV, h0, h1]
    rw [e1]
    clear e1
    obtain ⟨l1, u1⟩ := inB_t h1
    have hC := Lib.hid h0
    go_enter Try.func13, Try.ntmps13
    go_wp2_with fail
    refine (isCurve_any _ _ _ _ _ _ hx.out hB (by omega)).mono ?_
    rintro e w1 ⟨rfl, hb1⟩
    have hx1 := Lib.hid (hx.out.below (hb1.mono hB))
    have hs1 := hb1.size
    go_wp2_with (first | (go_at_call 23; refine (isStrength_any _ _).mono ?_; rintro e w' ⟨rfl, rfl⟩) | fail)
    refine (paceAt_any _ _ _ _ _ _ _ hx1.out (by omega) hC.out l1 u1).mono ?_
    rintro e w2 ⟨rfl, hb2⟩
    go_wp2
    go_ret2
    exact ⟨rfl, hb1.trans (hb2.mono hs1)⟩

set_option maxHeartbeats 2000000 in
theorem sPaceAtF_any (A : Option Addr) (n c B : Nat) (wnd : Int) (xs : Nat → Int) (w : World) (hx : Ints w B A (n * 2) xs) (hB : B ≤ w.heap.size) (hn : n ≤ 1048576) :
    Calls Try.prog 12 #[.slice A n c, .int .i64 wnd] w fun e w' => e = .returned (.tuple #[.int .i64 (paV n xs wnd).1, .int .i64 (paV n xs wnd).2]) ∧ Below w.heap.size w w' := by
  replace hx := Lib.hid hx
  cases h0 : isC n xs with
  | false =>
    have e1 : paV n xs wnd = (0, 1) := by simp [paV, h0]
    rw [e1]
    clear e1
    go_enter Try.func12, Try.ntmps12
    go_wp2_with fail
    refine (sIsCurve_any _ _ _ _ _ _ hx.out hB (by omega)).mono ?_
    rintro e w1 ⟨rfl, hb1⟩
    go_wp2
    go_ret2
    exact ⟨rfl, hb1⟩
  | true =>
  cases h1 : inB wnd 0 1000 with
  | false =>
    have e1 : paV n xs wnd = (0, 2) := by simp [paV, h0, h1]
    rw [e1]
    clear e1
    go_enter Try.func12, Try.ntmps12
    go_wp2_with fail
    refine (sIsCurve_any _ _ _ _ _ _ hx.out hB (by omega)).mono ?_
    rintro e w1 ⟨rfl, hb1⟩
    go_wp2_with (go_at_call 18; refine (l01In_any _ _ _ _).mono ?_; rintro e w' ⟨rfl, rfl⟩)
    go_ret2
    exact ⟨rfl, hb1⟩
  | true =>
    have e1 : paV n xs wnd = (paceV n xs wnd, 0) := by simp [paV, h0, h1]
    rw [e1]
    clear e1
    obtain ⟨l1, u1⟩ := inB_t h1
    have hC := Lib.hid h0
    go_enter Try.func12, Try.ntmps12
    go_wp2_with fail
    refine (sIsCurve_any _ _ _ _ _ _ hx.out hB (by omega)).mono ?_
    rintro e w1 ⟨rfl, hb1⟩
    have hx1 := Lib.hid (hx.out.below (hb1.mono hB))
    have hs1 := hb1.size
    go_wp2_with (first | (go_at_call 18; refine (l01In_any _ _ _ _).mono ?_; rintro e w' ⟨rfl, rfl⟩) | fail)
    refine (l24Pace_any _ _ _ _ _ _ _ hx1.out (by omega) hC.out l1 u1).mono ?_
    rintro e w2 ⟨rfl, hb2⟩
    go_wp2
    go_ret2
    exact ⟨rfl, hb1.trans (hb2.mono hs1)⟩

theorem curveTime_any (A : Option Addr) (n c B : Nat) (wnd d : Int) (xs : Nat → Int) (w : World) (hx : Ints w B A (n * 2) xs) (hB : B ≤ w.heap.size) (hC : isC n xs = true) (h0 : 0 ≤ wnd) (h1' : wnd ≤ 1000) (d0 : 1 ≤ d) (d1 : d ≤ 10000000) :
    Calls Try.prog 28 #[.slice A n c, .int .i64 wnd, .int .i64 d] w fun e w' => e = .returned (.int .i64 (cuV n xs wnd d)) ∧ Below w.heap.size w w' := by
  obtain ⟨_, _, b0, b1⟩ := paceV_bd wnd hC
  have m := mul_bd (A := 1000000) (B := 10000000) (show 0 ≤ paceV n xs wnd by omega) b1 (show 0 ≤ d by omega) d1
  have hv := Lib.hid (cuV_other n xs wnd d)
  have hv2 : Hid (cuV n xs wnd d = -((-(paceV n xs wnd * d)) / 10000)) := rfl
  replace hx := Lib.hid hx
  replace hC := Lib.hid hC
  go_enter Try.func28, Try.ntmps28
  go_wp2_with fail
  refine (paceAt_any _ _ _ _ _ _ _ hx.out hB hC.out h0 h1').mono ?_
  rintro e w1 ⟨rfl, hb1⟩
  go_wp2_with (go_at_call 34; refine (ceilDiv_any _ _ _ (by omega) (by omega) (by omega)).mono ?_; rintro e w' ⟨rfl, rfl⟩)
  go_ret
  exact ⟨ret_int (by rw [hv2.out]), hb1⟩

theorem l24Time_any (A : Option Addr) (n c B : Nat) (wnd d : Int) (xs : Nat → Int) (w : World) (hx : Ints w B A (n * 2) xs) (hB : B ≤ w.heap.size) (hC : isC n xs = true) (h0 : 0 ≤ wnd) (h1' : wnd ≤ 1000) (d0 : 1 ≤ d) (d1 : d ≤ 10000000) :
    Calls Try.prog 26 #[.slice A n c, .int .i64 wnd, .int .i64 d] w fun e w' => e = .returned (.int .i64 (cuV n xs wnd d)) ∧ Below w.heap.size w w' := by
  obtain ⟨_, _, b0, b1⟩ := paceV_bd wnd hC
  have m := mul_bd (A := 1000000) (B := 10000000) (show 0 ≤ paceV n xs wnd by omega) b1 (show 0 ≤ d by omega) d1
  have hv := Lib.hid (cuV_other n xs wnd d)
  have hv2 : Hid (cuV n xs wnd d = -((-(paceV n xs wnd * d)) / 10000)) := rfl
  replace hx := Lib.hid hx
  replace hC := Lib.hid hC
  go_enter Try.func26, Try.ntmps26
  go_wp2_with fail
  refine (l24Pace_any _ _ _ _ _ _ _ hx.out hB hC.out h0 h1').mono ?_
  rintro e w1 ⟨rfl, hb1⟩
  go_wp2
  go_ret
  exact ⟨ret_int (by rw [← hv.out]; first | rfl | (congr 1; omega)), hb1⟩

set_option maxHeartbeats 2000000 in
theorem curveTimeF_any (A : Option Addr) (n c B : Nat) (wnd d : Int) (xs : Nat → Int) (w : World) (hx : Ints w B A (n * 2) xs) (hB : B ≤ w.heap.size) (hn : n ≤ 1048576) :
    Calls Try.prog 15 #[.slice A n c, .int .i64 wnd, .int .i64 d] w fun e w' => e = .returned (.tuple #[.int .i64 (cvV n xs wnd d).1, .int .i64 (cvV n xs wnd d).2]) ∧ Below w.heap.size w w' := by
  replace hx := Lib.hid hx
  cases h0 : isC n xs with
  | false =>
    have e1 : cvV n xs wnd d = (0, 1) := by simp [cvV, h0]
    rw [e1]
    clear e1
    go_enter Try.func15, Try.ntmps15
    go_wp2_with fail
    refine (isCurve_any _ _ _ _ _ _ hx.out hB (by omega)).mono ?_
    rintro e w1 ⟨rfl, hb1⟩
    go_wp2_with (first | (go_at_call 23; refine (isStrength_any _ _).mono ?_; rintro e w' ⟨rfl, rfl⟩) | (go_at_call 27; refine (isDistance_any _ _).mono ?_; rintro e w' ⟨rfl, rfl⟩))
    go_ret2
    exact ⟨rfl, hb1⟩
  | true =>
  cases h1 : inB wnd 0 1000 with
  | false =>
    have e1 : cvV n xs wnd d = (0, 2) := by simp [cvV, h0, h1]
    rw [e1]
    clear e1
    go_enter Try.func15, Try.ntmps15
    go_wp2_with fail
    refine (isCurve_any _ _ _ _ _ _ hx.out hB (by omega)).mono ?_
    rintro e w1 ⟨rfl, hb1⟩
    go_wp2_with (first | (go_at_call 23; refine (isStrength_any _ _).mono ?_; rintro e w' ⟨rfl, rfl⟩) | (go_at_call 27; refine (isDistance_any _ _).mono ?_; rintro e w' ⟨rfl, rfl⟩))
    go_ret2
    exact ⟨rfl, hb1⟩
  | true =>
  cases h2 : inB d 1 10000000 with
  | false =>
    have e1 : cvV n xs wnd d = (0, 2) := by simp [cvV, h0, h1, h2]
    rw [e1]
    clear e1
    go_enter Try.func15, Try.ntmps15
    go_wp2_with fail
    refine (isCurve_any _ _ _ _ _ _ hx.out hB (by omega)).mono ?_
    rintro e w1 ⟨rfl, hb1⟩
    go_wp2_with (first | (go_at_call 23; refine (isStrength_any _ _).mono ?_; rintro e w' ⟨rfl, rfl⟩) | (go_at_call 27; refine (isDistance_any _ _).mono ?_; rintro e w' ⟨rfl, rfl⟩))
    go_ret2
    exact ⟨rfl, hb1⟩
  | true =>
    have e1 : cvV n xs wnd d = (cuV n xs wnd d, 0) := by simp [cvV, h0, h1, h2]
    rw [e1]
    clear e1
    obtain ⟨l1, u1⟩ := inB_t h1
    obtain ⟨l2, u2⟩ := inB_t h2
    have hC := Lib.hid h0
    go_enter Try.func15, Try.ntmps15
    go_wp2_with fail
    refine (isCurve_any _ _ _ _ _ _ hx.out hB (by omega)).mono ?_
    rintro e w1 ⟨rfl, hb1⟩
    have hx1 := Lib.hid (hx.out.below (hb1.mono hB))
    have hs1 := hb1.size
    go_wp2_with (first | (go_at_call 23; refine (isStrength_any _ _).mono ?_; rintro e w' ⟨rfl, rfl⟩) | (go_at_call 27; refine (isDistance_any _ _).mono ?_; rintro e w' ⟨rfl, rfl⟩) | fail)
    refine (curveTime_any _ _ _ _ _ _ _ _ hx1.out (by omega) hC.out l1 u1 l2 u2).mono ?_
    rintro e w2 ⟨rfl, hb2⟩
    go_wp2
    go_ret2
    exact ⟨rfl, hb1.trans (hb2.mono hs1)⟩

set_option maxHeartbeats 2000000 in
theorem sCurveTimeF_any (A : Option Addr) (n c B : Nat) (wnd d : Int) (xs : Nat → Int) (w : World) (hx : Ints w B A (n * 2) xs) (hB : B ≤ w.heap.size) (hn : n ≤ 1048576) :
    Calls Try.prog 14 #[.slice A n c, .int .i64 wnd, .int .i64 d] w fun e w' => e = .returned (.tuple #[.int .i64 (cvV n xs wnd d).1, .int .i64 (cvV n xs wnd d).2]) ∧ Below w.heap.size w w' := by
  replace hx := Lib.hid hx
  cases h0 : isC n xs with
  | false =>
    have e1 : cvV n xs wnd d = (0, 1) := by simp [cvV, h0]
    rw [e1]
    clear e1
    go_enter Try.func14, Try.ntmps14
    go_wp2_with fail
    refine (sIsCurve_any _ _ _ _ _ _ hx.out hB (by omega)).mono ?_
    rintro e w1 ⟨rfl, hb1⟩
    go_wp2_with (first | (go_at_call 18; refine (l01In_any _ _ _ _).mono ?_; rintro e w' ⟨rfl, rfl⟩) | (go_at_call 25; refine (l23Distance_any _ _).mono ?_; rintro e w' ⟨rfl, rfl⟩))
    go_ret2
    exact ⟨rfl, hb1⟩
  | true =>
  cases h1 : inB wnd 0 1000 with
  | false =>
    have e1 : cvV n xs wnd d = (0, 2) := by simp [cvV, h0, h1]
    rw [e1]
    clear e1
    go_enter Try.func14, Try.ntmps14
    go_wp2_with fail
    refine (sIsCurve_any _ _ _ _ _ _ hx.out hB (by omega)).mono ?_
    rintro e w1 ⟨rfl, hb1⟩
    go_wp2_with (first | (go_at_call 18; refine (l01In_any _ _ _ _).mono ?_; rintro e w' ⟨rfl, rfl⟩) | (go_at_call 25; refine (l23Distance_any _ _).mono ?_; rintro e w' ⟨rfl, rfl⟩))
    go_ret2
    exact ⟨rfl, hb1⟩
  | true =>
  cases h2 : inB d 1 10000000 with
  | false =>
    have e1 : cvV n xs wnd d = (0, 2) := by simp [cvV, h0, h1, h2]
    rw [e1]
    clear e1
    go_enter Try.func14, Try.ntmps14
    go_wp2_with fail
    refine (sIsCurve_any _ _ _ _ _ _ hx.out hB (by omega)).mono ?_
    rintro e w1 ⟨rfl, hb1⟩
    go_wp2_with (first | (go_at_call 18; refine (l01In_any _ _ _ _).mono ?_; rintro e w' ⟨rfl, rfl⟩) | (go_at_call 25; refine (l23Distance_any _ _).mono ?_; rintro e w' ⟨rfl, rfl⟩))
    go_ret2
    exact ⟨rfl, hb1⟩
  | true =>
    have e1 : cvV n xs wnd d = (cuV n xs wnd d, 0) := by simp [cvV, h0, h1, h2]
    rw [e1]
    clear e1
    obtain ⟨l1, u1⟩ := inB_t h1
    obtain ⟨l2, u2⟩ := inB_t h2
    have hC := Lib.hid h0
    go_enter Try.func14, Try.ntmps14
    go_wp2_with fail
    refine (sIsCurve_any _ _ _ _ _ _ hx.out hB (by omega)).mono ?_
    rintro e w1 ⟨rfl, hb1⟩
    have hx1 := Lib.hid (hx.out.below (hb1.mono hB))
    have hs1 := hb1.size
    go_wp2_with (first | (go_at_call 18; refine (l01In_any _ _ _ _).mono ?_; rintro e w' ⟨rfl, rfl⟩) | (go_at_call 25; refine (l23Distance_any _ _).mono ?_; rintro e w' ⟨rfl, rfl⟩) | fail)
    refine (l24Time_any _ _ _ _ _ _ _ _ hx1.out (by omega) hC.out l1 u1 l2 u2).mono ?_
    rintro e w2 ⟨rfl, hb2⟩
    go_wp2
    go_ret2
    exact ⟨rfl, hb1.trans (hb2.mono hs1)⟩

end Go.Proofs.Ytjbioohpkmcmmaa
