/- The step of a log, the reference's, at whatever signal within wide bounds. -/
import Derived.Test.YtfckoeoohlgmiaaSig4
set_option linter.unusedSimpArgs false
set_option linter.unusedVariables false
namespace Go.Proofs.Ytfckoeoohlgmiaa
open Go.RowKit

theorem refV_else {st wn mk k t : Int} (e1 : (k == 1) = false) (e2 : (k == 2) = false) (e3 : (k == 3) = false) (e4 : (k == 4) = false) (e5 : (k == 5) = false) (e6 : (k == 6) = false) (e7 : (k == 7) = false) : refV st wn mk k t = ((8, 0, 0), (st != 8)) := by
  simp only [beq_eq_false_iff_ne] at e1 e2 e3 e4 e5 e6 e7
  unfold refV
  rw [if_neg e1, if_neg e2, if_neg e3, if_neg e4, if_neg e5, if_neg e6, if_neg e7]

set_option maxHeartbeats 4000000 in
theorem wstep_1 (st wn mk t : Int) (w : World) (t0 : -2000000000 ≤ t) (t1 : t ≤ 2000000000) (a0 : -2000000000 ≤ wn) (a1 : wn ≤ 2000000000) (b0 : -2000000000 ≤ mk) (b1 : mk ≤ 2000000000) :
    Calls Try.prog 45 #[.agg #[.int .i64 st, .int .i64 wn, .int .i64 mk], .agg #[.int .i64 1, .int .i64 t]] w fun e w' => e = .returned (.tuple #[.agg #[.int .i64 1, .int .i64 t, .int .i64 0], .bool (refV st wn mk 1 t).2]) ∧ Below w.heap.size w w' := by
  cases h0 : (st == 0) with
  | true =>
    obtain rfl : st = 0 := by simpa using h0
    clear h0
    have hv : (refV 0 wn mk 1 t).2 = true := by simp [refV]
    rw [hv]
    clear hv
    go_enter Try.func45, Try.ntmps45
    go_wp2
    refine bodyPost_ret (v := .tuple #[.agg #[.int .i64 1, .int .i64 t, .int .i64 0], .bool true]) (by simp [results, Try.results45, go_sem]) rfl ⟨rfl, ?_⟩
    first | exact (((((Below.refl _ _).alloc (Nat.le_refl _) _).alloc (by simp) _).alloc (by simp; omega) _)) | exact below_dN ((((Below.refl _ _).alloc (Nat.le_refl _) _).alloc (by simp) _).alloc (by simp; omega) _) _ | exact ((((Below.refl _ _).alloc (Nat.le_refl _) _).alloc (by simp) _).alloc (by simp; omega) _).drew
  | false =>
    cases h1 : (st == 6) with
    | true =>
      obtain rfl : st = 6 := by simpa using h1
      clear h1
      clear h0
      cases h2 : (t == (mk + 60000)) with
      | true =>
        have hv : (refV 6 wn mk 1 t).2 = true := by simp [refV, h2]
        rw [hv]
        clear hv
        go_enter Try.func45, Try.ntmps45
        go_wp2
        refine bodyPost_ret (v := .tuple #[.agg #[.int .i64 1, .int .i64 t, .int .i64 0], .bool true]) (by simp [results, Try.results45, go_sem]) rfl ⟨rfl, ?_⟩
        first | exact (((((Below.refl _ _).alloc (Nat.le_refl _) _).alloc (by simp) _).alloc (by simp; omega) _)) | exact below_dN ((((Below.refl _ _).alloc (Nat.le_refl _) _).alloc (by simp) _).alloc (by simp; omega) _) _ | exact ((((Below.refl _ _).alloc (Nat.le_refl _) _).alloc (by simp) _).alloc (by simp; omega) _).drew
      | false =>
        have hv : (refV 6 wn mk 1 t).2 = false := by simp [refV, h2]
        rw [hv]
        clear hv
        go_enter Try.func45, Try.ntmps45
        go_wp2
        refine bodyPost_ret (v := .tuple #[.agg #[.int .i64 1, .int .i64 t, .int .i64 0], .bool false]) (by simp [results, Try.results45, go_sem]) rfl ⟨rfl, ?_⟩
        first | exact (((((Below.refl _ _).alloc (Nat.le_refl _) _).alloc (by simp) _).alloc (by simp; omega) _)) | exact below_dN ((((Below.refl _ _).alloc (Nat.le_refl _) _).alloc (by simp) _).alloc (by simp; omega) _) _ | exact ((((Below.refl _ _).alloc (Nat.le_refl _) _).alloc (by simp) _).alloc (by simp; omega) _).drew
    | false =>
      cases h2 : (st == 7) with
      | true =>
        obtain rfl : st = 7 := by simpa using h2
        clear h2
        clear h0
        clear h1
        cases h3 : (t == (mk + 60000)) with
        | true =>
          have hv : (refV 7 wn mk 1 t).2 = true := by simp [refV, h3]
          rw [hv]
          clear hv
          go_enter Try.func45, Try.ntmps45
          go_wp2
          refine bodyPost_ret (v := .tuple #[.agg #[.int .i64 1, .int .i64 t, .int .i64 0], .bool true]) (by simp [results, Try.results45, go_sem]) rfl ⟨rfl, ?_⟩
          first | exact (((((Below.refl _ _).alloc (Nat.le_refl _) _).alloc (by simp) _).alloc (by simp; omega) _)) | exact below_dN ((((Below.refl _ _).alloc (Nat.le_refl _) _).alloc (by simp) _).alloc (by simp; omega) _) _ | exact ((((Below.refl _ _).alloc (Nat.le_refl _) _).alloc (by simp) _).alloc (by simp; omega) _).drew
        | false =>
          have hv : (refV 7 wn mk 1 t).2 = false := by simp [refV, h3]
          rw [hv]
          clear hv
          go_enter Try.func45, Try.ntmps45
          go_wp2
          refine bodyPost_ret (v := .tuple #[.agg #[.int .i64 1, .int .i64 t, .int .i64 0], .bool false]) (by simp [results, Try.results45, go_sem]) rfl ⟨rfl, ?_⟩
          first | exact (((((Below.refl _ _).alloc (Nat.le_refl _) _).alloc (by simp) _).alloc (by simp; omega) _)) | exact below_dN ((((Below.refl _ _).alloc (Nat.le_refl _) _).alloc (by simp) _).alloc (by simp; omega) _) _ | exact ((((Below.refl _ _).alloc (Nat.le_refl _) _).alloc (by simp) _).alloc (by simp; omega) _).drew
      | false =>
        have hv : (refV st wn mk 1 t).2 = false := by simp [refV, h0, h1, h2]
        rw [hv]
        clear hv
        go_enter Try.func45, Try.ntmps45
        go_wp2
        refine bodyPost_ret (v := .tuple #[.agg #[.int .i64 1, .int .i64 t, .int .i64 0], .bool false]) (by simp [results, Try.results45, go_sem]) rfl ⟨rfl, ?_⟩
        first | exact (((((Below.refl _ _).alloc (Nat.le_refl _) _).alloc (by simp) _).alloc (by simp; omega) _)) | exact below_dN ((((Below.refl _ _).alloc (Nat.le_refl _) _).alloc (by simp) _).alloc (by simp; omega) _) _ | exact ((((Below.refl _ _).alloc (Nat.le_refl _) _).alloc (by simp) _).alloc (by simp; omega) _).drew
set_option maxHeartbeats 4000000 in
theorem wstep_2 (st wn mk t : Int) (w : World) (t0 : -2000000000 ≤ t) (t1 : t ≤ 2000000000) (a0 : -2000000000 ≤ wn) (a1 : wn ≤ 2000000000) (b0 : -2000000000 ≤ mk) (b1 : mk ≤ 2000000000) :
    Calls Try.prog 45 #[.agg #[.int .i64 st, .int .i64 wn, .int .i64 mk], .agg #[.int .i64 2, .int .i64 t]] w fun e w' => e = .returned (.tuple #[.agg #[.int .i64 2, .int .i64 wn, .int .i64 0], .bool (refV st wn mk 2 t).2]) ∧ Below w.heap.size w w' := by
  cases h0 : (st == 1) with
  | true =>
    obtain rfl : st = 1 := by simpa using h0
    clear h0
    cases h1 : (t == (wn + 60000)) with
    | true =>
      have hv : (refV 1 wn mk 2 t).2 = true := by simp [refV, h1]
      rw [hv]
      clear hv
      go_enter Try.func45, Try.ntmps45
      go_wp2
      go_region
      go_wp2
      refine bodyPost_ret (v := .tuple #[.agg #[.int .i64 2, .int .i64 wn, .int .i64 0], .bool true]) (by simp [results, Try.results45, go_sem]) rfl ⟨rfl, ?_⟩
      first | exact (((((Below.refl _ _).alloc (Nat.le_refl _) _).alloc (by simp) _).alloc (by simp; omega) _)) | exact below_dN ((((Below.refl _ _).alloc (Nat.le_refl _) _).alloc (by simp) _).alloc (by simp; omega) _) _ | exact ((((Below.refl _ _).alloc (Nat.le_refl _) _).alloc (by simp) _).alloc (by simp; omega) _).drew
    | false =>
      have hv : (refV 1 wn mk 2 t).2 = false := by simp [refV, h1]
      rw [hv]
      clear hv
      go_enter Try.func45, Try.ntmps45
      go_wp2
      go_region
      go_wp2
      refine bodyPost_ret (v := .tuple #[.agg #[.int .i64 2, .int .i64 wn, .int .i64 0], .bool false]) (by simp [results, Try.results45, go_sem]) rfl ⟨rfl, ?_⟩
      first | exact (((((Below.refl _ _).alloc (Nat.le_refl _) _).alloc (by simp) _).alloc (by simp; omega) _)) | exact below_dN ((((Below.refl _ _).alloc (Nat.le_refl _) _).alloc (by simp) _).alloc (by simp; omega) _) _ | exact ((((Below.refl _ _).alloc (Nat.le_refl _) _).alloc (by simp) _).alloc (by simp; omega) _).drew
  | false =>
    have hv : (refV st wn mk 2 t).2 = false := by simp [refV, h0]
    rw [hv]
    clear hv
    go_enter Try.func45, Try.ntmps45
    go_wp2
    go_region
    go_wp2
    refine bodyPost_ret (v := .tuple #[.agg #[.int .i64 2, .int .i64 wn, .int .i64 0], .bool false]) (by simp [results, Try.results45, go_sem]) rfl ⟨rfl, ?_⟩
    first | exact (((((Below.refl _ _).alloc (Nat.le_refl _) _).alloc (by simp) _).alloc (by simp; omega) _)) | exact below_dN ((((Below.refl _ _).alloc (Nat.le_refl _) _).alloc (by simp) _).alloc (by simp; omega) _) _ | exact ((((Below.refl _ _).alloc (Nat.le_refl _) _).alloc (by simp) _).alloc (by simp; omega) _).drew
set_option maxHeartbeats 4000000 in
theorem wstep_3 (st wn mk t : Int) (w : World) (t0 : -2000000000 ≤ t) (t1 : t ≤ 2000000000) (a0 : -2000000000 ≤ wn) (a1 : wn ≤ 2000000000) (b0 : -2000000000 ≤ mk) (b1 : mk ≤ 2000000000) :
    Calls Try.prog 45 #[.agg #[.int .i64 st, .int .i64 wn, .int .i64 mk], .agg #[.int .i64 3, .int .i64 t]] w fun e w' => e = .returned (.tuple #[.agg #[.int .i64 3, .int .i64 wn, .int .i64 0], .bool (refV st wn mk 3 t).2]) ∧ Below w.heap.size w w' := by
  cases h0 : (st == 2) with
  | true =>
    obtain rfl : st = 2 := by simpa using h0
    clear h0
    cases h1 : (t == (wn + 240000)) with
    | true =>
      have hv : (refV 2 wn mk 3 t).2 = true := by simp [refV, h1]
      rw [hv]
      clear hv
      go_enter Try.func45, Try.ntmps45
      go_wp2
      go_region
      go_wp2
      refine bodyPost_ret (v := .tuple #[.agg #[.int .i64 3, .int .i64 wn, .int .i64 0], .bool true]) (by simp [results, Try.results45, go_sem]) rfl ⟨rfl, ?_⟩
      first | exact (((((Below.refl _ _).alloc (Nat.le_refl _) _).alloc (by simp) _).alloc (by simp; omega) _)) | exact below_dN ((((Below.refl _ _).alloc (Nat.le_refl _) _).alloc (by simp) _).alloc (by simp; omega) _) _ | exact ((((Below.refl _ _).alloc (Nat.le_refl _) _).alloc (by simp) _).alloc (by simp; omega) _).drew
    | false =>
      have hv : (refV 2 wn mk 3 t).2 = false := by simp [refV, h1]
      rw [hv]
      clear hv
      go_enter Try.func45, Try.ntmps45
      go_wp2
      go_region
      go_wp2
      refine bodyPost_ret (v := .tuple #[.agg #[.int .i64 3, .int .i64 wn, .int .i64 0], .bool false]) (by simp [results, Try.results45, go_sem]) rfl ⟨rfl, ?_⟩
      first | exact (((((Below.refl _ _).alloc (Nat.le_refl _) _).alloc (by simp) _).alloc (by simp; omega) _)) | exact below_dN ((((Below.refl _ _).alloc (Nat.le_refl _) _).alloc (by simp) _).alloc (by simp; omega) _) _ | exact ((((Below.refl _ _).alloc (Nat.le_refl _) _).alloc (by simp) _).alloc (by simp; omega) _).drew
  | false =>
    have hv : (refV st wn mk 3 t).2 = false := by simp [refV, h0]
    rw [hv]
    clear hv
    go_enter Try.func45, Try.ntmps45
    go_wp2
    go_region
    go_wp2
    refine bodyPost_ret (v := .tuple #[.agg #[.int .i64 3, .int .i64 wn, .int .i64 0], .bool false]) (by simp [results, Try.results45, go_sem]) rfl ⟨rfl, ?_⟩
    first | exact (((((Below.refl _ _).alloc (Nat.le_refl _) _).alloc (by simp) _).alloc (by simp; omega) _)) | exact below_dN ((((Below.refl _ _).alloc (Nat.le_refl _) _).alloc (by simp) _).alloc (by simp; omega) _) _ | exact ((((Below.refl _ _).alloc (Nat.le_refl _) _).alloc (by simp) _).alloc (by simp; omega) _).drew
set_option maxHeartbeats 4000000 in
theorem wstep_4 (st wn mk t : Int) (w : World) (t0 : -2000000000 ≤ t) (t1 : t ≤ 2000000000) (a0 : -2000000000 ≤ wn) (a1 : wn ≤ 2000000000) (b0 : -2000000000 ≤ mk) (b1 : mk ≤ 2000000000) :
    Calls Try.prog 45 #[.agg #[.int .i64 st, .int .i64 wn, .int .i64 mk], .agg #[.int .i64 4, .int .i64 t]] w fun e w' => e = .returned (.tuple #[.agg #[.int .i64 4, .int .i64 wn, .int .i64 t], .bool (refV st wn mk 4 t).2]) ∧ Below w.heap.size w w' := by
  cases h0 : (st == 3) with
  | true =>
    obtain rfl : st = 3 := by simpa using h0
    clear h0
    cases h1 : (t == (wn + 300000)) with
    | true =>
      have hv : (refV 3 wn mk 4 t).2 = true := by simp [refV, h1]
      rw [hv]
      clear hv
      go_enter Try.func45, Try.ntmps45
      go_wp2
      go_region
      go_wp2
      refine bodyPost_ret (v := .tuple #[.agg #[.int .i64 4, .int .i64 wn, .int .i64 t], .bool true]) (by simp [results, Try.results45, go_sem]) rfl ⟨rfl, ?_⟩
      first | exact (((((Below.refl _ _).alloc (Nat.le_refl _) _).alloc (by simp) _).alloc (by simp; omega) _)) | exact below_dN ((((Below.refl _ _).alloc (Nat.le_refl _) _).alloc (by simp) _).alloc (by simp; omega) _) _ | exact ((((Below.refl _ _).alloc (Nat.le_refl _) _).alloc (by simp) _).alloc (by simp; omega) _).drew
    | false =>
      have hv : (refV 3 wn mk 4 t).2 = false := by simp [refV, h1]
      rw [hv]
      clear hv
      go_enter Try.func45, Try.ntmps45
      go_wp2
      go_region
      go_wp2
      refine bodyPost_ret (v := .tuple #[.agg #[.int .i64 4, .int .i64 wn, .int .i64 t], .bool false]) (by simp [results, Try.results45, go_sem]) rfl ⟨rfl, ?_⟩
      first | exact (((((Below.refl _ _).alloc (Nat.le_refl _) _).alloc (by simp) _).alloc (by simp; omega) _)) | exact below_dN ((((Below.refl _ _).alloc (Nat.le_refl _) _).alloc (by simp) _).alloc (by simp; omega) _) _ | exact ((((Below.refl _ _).alloc (Nat.le_refl _) _).alloc (by simp) _).alloc (by simp; omega) _).drew
  | false =>
    have hv : (refV st wn mk 4 t).2 = false := by simp [refV, h0]
    rw [hv]
    clear hv
    go_enter Try.func45, Try.ntmps45
    go_wp2
    go_region
    go_wp2
    refine bodyPost_ret (v := .tuple #[.agg #[.int .i64 4, .int .i64 wn, .int .i64 t], .bool false]) (by simp [results, Try.results45, go_sem]) rfl ⟨rfl, ?_⟩
    first | exact (((((Below.refl _ _).alloc (Nat.le_refl _) _).alloc (by simp) _).alloc (by simp; omega) _)) | exact below_dN ((((Below.refl _ _).alloc (Nat.le_refl _) _).alloc (by simp) _).alloc (by simp; omega) _) _ | exact ((((Below.refl _ _).alloc (Nat.le_refl _) _).alloc (by simp) _).alloc (by simp; omega) _).drew
set_option maxHeartbeats 4000000 in
theorem wstep_5 (st wn mk t : Int) (w : World) (t0 : -2000000000 ≤ t) (t1 : t ≤ 2000000000) (a0 : -2000000000 ≤ wn) (a1 : wn ≤ 2000000000) (b0 : -2000000000 ≤ mk) (b1 : mk ≤ 2000000000) :
    Calls Try.prog 45 #[.agg #[.int .i64 st, .int .i64 wn, .int .i64 mk], .agg #[.int .i64 5, .int .i64 t]] w fun e w' => e = .returned (.tuple #[.agg #[.int .i64 5, .int .i64 0, .int .i64 0], .bool (refV st wn mk 5 t).2]) ∧ Below w.heap.size w w' := by
  cases h0 : (st == 4) with
  | true =>
    obtain rfl : st = 4 := by simpa using h0
    clear h0
    have hv : (refV 4 wn mk 5 t).2 = false := by simp [refV]
    rw [hv]
    clear hv
    go_enter Try.func45, Try.ntmps45
    go_wp2
    go_region
    go_wp2
    refine bodyPost_ret (v := .tuple #[.agg #[.int .i64 5, .int .i64 0, .int .i64 0], .bool false]) (by simp [results, Try.results45, go_sem]) rfl ⟨rfl, ?_⟩
    first | exact (((((Below.refl _ _).alloc (Nat.le_refl _) _).alloc (by simp) _).alloc (by simp; omega) _)) | exact below_dN ((((Below.refl _ _).alloc (Nat.le_refl _) _).alloc (by simp) _).alloc (by simp; omega) _) _ | exact ((((Below.refl _ _).alloc (Nat.le_refl _) _).alloc (by simp) _).alloc (by simp; omega) _).drew
  | false =>
    replace h0 : (st != 4) = true := by rw [bne, h0]; rfl
    cases h1 : (st == 5) with
    | true =>
      obtain rfl : st = 5 := by simpa using h1
      clear h1
      clear h0
      have hv : (refV 5 wn mk 5 t).2 = false := by simp [refV]
      rw [hv]
      clear hv
      go_enter Try.func45, Try.ntmps45
      go_wp2
      go_region
      go_wp2
      refine bodyPost_ret (v := .tuple #[.agg #[.int .i64 5, .int .i64 0, .int .i64 0], .bool false]) (by simp [results, Try.results45, go_sem]) rfl ⟨rfl, ?_⟩
      first | exact (((((Below.refl _ _).alloc (Nat.le_refl _) _).alloc (by simp) _).alloc (by simp; omega) _)) | exact below_dN ((((Below.refl _ _).alloc (Nat.le_refl _) _).alloc (by simp) _).alloc (by simp; omega) _) _ | exact ((((Below.refl _ _).alloc (Nat.le_refl _) _).alloc (by simp) _).alloc (by simp; omega) _).drew
    | false =>
      replace h1 : (st != 5) = true := by rw [bne, h1]; rfl
      cases h2 : (st == 8) with
      | true =>
        obtain rfl : st = 8 := by simpa using h2
        clear h2
        clear h0
        clear h1
        have hv : (refV 8 wn mk 5 t).2 = false := by simp [refV]
        rw [hv]
        clear hv
        go_enter Try.func45, Try.ntmps45
        go_wp2
        go_region
        go_wp2
        refine bodyPost_ret (v := .tuple #[.agg #[.int .i64 5, .int .i64 0, .int .i64 0], .bool false]) (by simp [results, Try.results45, go_sem]) rfl ⟨rfl, ?_⟩
        first | exact (((((Below.refl _ _).alloc (Nat.le_refl _) _).alloc (by simp) _).alloc (by simp; omega) _)) | exact below_dN ((((Below.refl _ _).alloc (Nat.le_refl _) _).alloc (by simp) _).alloc (by simp; omega) _) _ | exact ((((Below.refl _ _).alloc (Nat.le_refl _) _).alloc (by simp) _).alloc (by simp; omega) _).drew
      | false =>
        replace h2 : (st != 8) = true := by rw [bne, h2]; rfl
        have hv : (refV st wn mk 5 t).2 = true := by simp [refV, h0, h1, h2]
        rw [hv]
        clear hv
        go_enter Try.func45, Try.ntmps45
        go_wp2
        go_region
        go_wp2
        refine bodyPost_ret (v := .tuple #[.agg #[.int .i64 5, .int .i64 0, .int .i64 0], .bool true]) (by simp [results, Try.results45, go_sem]) rfl ⟨rfl, ?_⟩
        first | exact (((((Below.refl _ _).alloc (Nat.le_refl _) _).alloc (by simp) _).alloc (by simp; omega) _)) | exact below_dN ((((Below.refl _ _).alloc (Nat.le_refl _) _).alloc (by simp) _).alloc (by simp; omega) _) _ | exact ((((Below.refl _ _).alloc (Nat.le_refl _) _).alloc (by simp) _).alloc (by simp; omega) _).drew
set_option maxHeartbeats 4000000 in
theorem wstep_6 (st wn mk t : Int) (w : World) (t0 : -2000000000 ≤ t) (t1 : t ≤ 2000000000) (a0 : -2000000000 ≤ wn) (a1 : wn ≤ 2000000000) (b0 : -2000000000 ≤ mk) (b1 : mk ≤ 2000000000) :
    Calls Try.prog 45 #[.agg #[.int .i64 st, .int .i64 wn, .int .i64 mk], .agg #[.int .i64 6, .int .i64 t]] w fun e w' => e = .returned (.tuple #[.agg #[.int .i64 6, .int .i64 0, .int .i64 t], .bool (refV st wn mk 6 t).2]) ∧ Below w.heap.size w w' := by
  cases h0 : (st == 5) with
  | true =>
    obtain rfl : st = 5 := by simpa using h0
    clear h0
    have hv : (refV 5 wn mk 6 t).2 = true := by simp [refV]
    rw [hv]
    clear hv
    go_enter Try.func45, Try.ntmps45
    go_wp2
    go_region
    go_wp2
    refine bodyPost_ret (v := .tuple #[.agg #[.int .i64 6, .int .i64 0, .int .i64 t], .bool true]) (by simp [results, Try.results45, go_sem]) rfl ⟨rfl, ?_⟩
    first | exact (((((Below.refl _ _).alloc (Nat.le_refl _) _).alloc (by simp) _).alloc (by simp; omega) _)) | exact below_dN ((((Below.refl _ _).alloc (Nat.le_refl _) _).alloc (by simp) _).alloc (by simp; omega) _) _ | exact ((((Below.refl _ _).alloc (Nat.le_refl _) _).alloc (by simp) _).alloc (by simp; omega) _).drew
  | false =>
    have hv : (refV st wn mk 6 t).2 = false := by simp [refV, h0]
    rw [hv]
    clear hv
    go_enter Try.func45, Try.ntmps45
    go_wp2
    go_region
    go_wp2
    refine bodyPost_ret (v := .tuple #[.agg #[.int .i64 6, .int .i64 0, .int .i64 t], .bool false]) (by simp [results, Try.results45, go_sem]) rfl ⟨rfl, ?_⟩
    first | exact (((((Below.refl _ _).alloc (Nat.le_refl _) _).alloc (by simp) _).alloc (by simp; omega) _)) | exact below_dN ((((Below.refl _ _).alloc (Nat.le_refl _) _).alloc (by simp) _).alloc (by simp; omega) _) _ | exact ((((Below.refl _ _).alloc (Nat.le_refl _) _).alloc (by simp) _).alloc (by simp; omega) _).drew
set_option maxHeartbeats 4000000 in
theorem wstep_7 (st wn mk t : Int) (w : World) (t0 : -2000000000 ≤ t) (t1 : t ≤ 2000000000) (a0 : -2000000000 ≤ wn) (a1 : wn ≤ 2000000000) (b0 : -2000000000 ≤ mk) (b1 : mk ≤ 2000000000) :
    Calls Try.prog 45 #[.agg #[.int .i64 st, .int .i64 wn, .int .i64 mk], .agg #[.int .i64 7, .int .i64 t]] w fun e w' => e = .returned (.tuple #[.agg #[.int .i64 7, .int .i64 0, .int .i64 t], .bool (refV st wn mk 7 t).2]) ∧ Below w.heap.size w w' := by
  cases h0 : (st == 4) with
  | true =>
    obtain rfl : st = 4 := by simpa using h0
    clear h0
    by_cases q : t ≤ mk + 60000
    · have h1 : decide (t ≤ mk + 60000) = true := by simpa using q
      have hv : (refV 4 wn mk 7 t).2 = true := by simp [refV, h1]
      rw [hv]
      clear hv
      go_enter Try.func45, Try.ntmps45
      go_wp2
      go_region
      go_wp2
      refine bodyPost_ret (v := .tuple #[.agg #[.int .i64 7, .int .i64 0, .int .i64 t], .bool true]) (by simp [results, Try.results45, go_sem]) rfl ⟨rfl, ?_⟩
      first | exact (((((Below.refl _ _).alloc (Nat.le_refl _) _).alloc (by simp) _).alloc (by simp; omega) _)) | exact below_dN ((((Below.refl _ _).alloc (Nat.le_refl _) _).alloc (by simp) _).alloc (by simp; omega) _) _ | exact ((((Below.refl _ _).alloc (Nat.le_refl _) _).alloc (by simp) _).alloc (by simp; omega) _).drew
    · have h1 : decide (t ≤ mk + 60000) = false := by simpa using q
      have hv : (refV 4 wn mk 7 t).2 = false := by simp [refV, h1]
      rw [hv]
      clear hv
      go_enter Try.func45, Try.ntmps45
      go_wp2
      go_region
      go_wp2
      refine bodyPost_ret (v := .tuple #[.agg #[.int .i64 7, .int .i64 0, .int .i64 t], .bool false]) (by simp [results, Try.results45, go_sem]) rfl ⟨rfl, ?_⟩
      first | exact (((((Below.refl _ _).alloc (Nat.le_refl _) _).alloc (by simp) _).alloc (by simp; omega) _)) | exact below_dN ((((Below.refl _ _).alloc (Nat.le_refl _) _).alloc (by simp) _).alloc (by simp; omega) _) _ | exact ((((Below.refl _ _).alloc (Nat.le_refl _) _).alloc (by simp) _).alloc (by simp; omega) _).drew
  | false =>
    have hv : (refV st wn mk 7 t).2 = false := by simp [refV, h0]
    rw [hv]
    clear hv
    go_enter Try.func45, Try.ntmps45
    go_wp2
    go_region
    go_wp2
    refine bodyPost_ret (v := .tuple #[.agg #[.int .i64 7, .int .i64 0, .int .i64 t], .bool false]) (by simp [results, Try.results45, go_sem]) rfl ⟨rfl, ?_⟩
    first | exact (((((Below.refl _ _).alloc (Nat.le_refl _) _).alloc (by simp) _).alloc (by simp; omega) _)) | exact below_dN ((((Below.refl _ _).alloc (Nat.le_refl _) _).alloc (by simp) _).alloc (by simp; omega) _) _ | exact ((((Below.refl _ _).alloc (Nat.le_refl _) _).alloc (by simp) _).alloc (by simp; omega) _).drew
set_option maxHeartbeats 4000000 in
theorem wstep_8 (st wn mk k t : Int) (w : World) (e1 : (k == 1) = false) (e2 : (k == 2) = false) (e3 : (k == 3) = false) (e4 : (k == 4) = false) (e5 : (k == 5) = false) (e6 : (k == 6) = false) (e7 : (k == 7) = false) (t0 : -2000000000 ≤ t) (t1 : t ≤ 2000000000) (a0 : -2000000000 ≤ wn) (a1 : wn ≤ 2000000000) (b0 : -2000000000 ≤ mk) (b1 : mk ≤ 2000000000) :
    Calls Try.prog 45 #[.agg #[.int .i64 st, .int .i64 wn, .int .i64 mk], .agg #[.int .i64 k, .int .i64 t]] w fun e w' => e = .returned (.tuple #[.agg #[.int .i64 8, .int .i64 0, .int .i64 0], .bool (refV st wn mk k t).2]) ∧ Below w.heap.size w w' := by
  cases h0 : (st == 8) with
  | true =>
    obtain rfl : st = 8 := by simpa using h0
    clear h0
    have hv : (refV 8 wn mk k t).2 = false := by (have := refV_else (st := 8) (wn := wn) (mk := mk) (t := t) e1 e2 e3 e4 e5 e6 e7; rw [this]; simp)
    rw [hv]
    clear hv
    go_enter Try.func45, Try.ntmps45
    go_wp2
    go_region
    go_wp2
    refine bodyPost_ret (v := .tuple #[.agg #[.int .i64 8, .int .i64 0, .int .i64 0], .bool false]) (by simp [results, Try.results45, go_sem]) rfl ⟨rfl, ?_⟩
    first | exact (((((Below.refl _ _).alloc (Nat.le_refl _) _).alloc (by simp) _).alloc (by simp; omega) _)) | exact below_dN ((((Below.refl _ _).alloc (Nat.le_refl _) _).alloc (by simp) _).alloc (by simp; omega) _) _ | exact ((((Below.refl _ _).alloc (Nat.le_refl _) _).alloc (by simp) _).alloc (by simp; omega) _).drew
  | false =>
    replace h0 : (st != 8) = true := by rw [bne, h0]; rfl
    have hv : (refV st wn mk k t).2 = true := by (have := refV_else (st := st) (wn := wn) (mk := mk) (t := t) e1 e2 e3 e4 e5 e6 e7; rw [this]; simp [h0])
    rw [hv]
    clear hv
    go_enter Try.func45, Try.ntmps45
    go_wp2
    go_region
    go_wp2
    refine bodyPost_ret (v := .tuple #[.agg #[.int .i64 8, .int .i64 0, .int .i64 0], .bool true]) (by simp [results, Try.results45, go_sem]) rfl ⟨rfl, ?_⟩
    first | exact (((((Below.refl _ _).alloc (Nat.le_refl _) _).alloc (by simp) _).alloc (by simp; omega) _)) | exact below_dN ((((Below.refl _ _).alloc (Nat.le_refl _) _).alloc (by simp) _).alloc (by simp; omega) _) _ | exact ((((Below.refl _ _).alloc (Nat.le_refl _) _).alloc (by simp) _).alloc (by simp; omega) _).drew

theorem step_wide (st wn mk k t : Int) (w : World) (t0 : -2000000000 ≤ t) (t1 : t ≤ 2000000000) (a0 : -2000000000 ≤ wn) (a1 : wn ≤ 2000000000) (b0 : -2000000000 ≤ mk) (b1 : mk ≤ 2000000000) :
    Calls Try.prog 45 #[.agg #[.int .i64 st, .int .i64 wn, .int .i64 mk], .agg #[.int .i64 k, .int .i64 t]] w fun e w' => e = .returned (.tuple #[.agg #[.int .i64 (refV st wn mk k t).1.1, .int .i64 (refV st wn mk k t).1.2.1, .int .i64 (refV st wn mk k t).1.2.2], .bool (refV st wn mk k t).2]) ∧ Below w.heap.size w w' := by
  by_cases h1 : k = 1
  · subst h1; exact wstep_1 st wn mk t w t0 t1 a0 a1 b0 b1
  by_cases h2 : k = 2
  · subst h2; exact wstep_2 st wn mk t w t0 t1 a0 a1 b0 b1
  by_cases h3 : k = 3
  · subst h3; exact wstep_3 st wn mk t w t0 t1 a0 a1 b0 b1
  by_cases h4 : k = 4
  · subst h4; exact wstep_4 st wn mk t w t0 t1 a0 a1 b0 b1
  by_cases h5 : k = 5
  · subst h5; exact wstep_5 st wn mk t w t0 t1 a0 a1 b0 b1
  by_cases h6 : k = 6
  · subst h6; exact wstep_6 st wn mk t w t0 t1 a0 a1 b0 b1
  by_cases h7 : k = 7
  · subst h7; exact wstep_7 st wn mk t w t0 t1 a0 a1 b0 b1
  have e1 : (k == 1) = false := by rw [beq_eq_false_iff_ne]; exact h1
  have e2 : (k == 2) = false := by rw [beq_eq_false_iff_ne]; exact h2
  have e3 : (k == 3) = false := by rw [beq_eq_false_iff_ne]; exact h3
  have e4 : (k == 4) = false := by rw [beq_eq_false_iff_ne]; exact h4
  have e5 : (k == 5) = false := by rw [beq_eq_false_iff_ne]; exact h5
  have e6 : (k == 6) = false := by rw [beq_eq_false_iff_ne]; exact h6
  have e7 : (k == 7) = false := by rw [beq_eq_false_iff_ne]; exact h7
  have h := wstep_8 st wn mk k t w e1 e2 e3 e4 e5 e6 e7 t0 t1 a0 a1 b0 b1
  have hr := refV_else (st := st) (wn := wn) (mk := mk) (t := t) e1 e2 e3 e4 e5 e6 e7
  rw [hr] at h ⊢
  exact h
theorem refV_wide {st wn mk k t : Int} (t0 : -2000000000 ≤ t) (t1 : t ≤ 2000000000) (s0 : -2000000000 ≤ wn) (s1 : wn ≤ 2000000000) : -2000000000 ≤ (refV st wn mk k t).1.2.1 ∧ (refV st wn mk k t).1.2.1 ≤ 2000000000 ∧ -2000000000 ≤ (refV st wn mk k t).1.2.2 ∧ (refV st wn mk k t).1.2.2 ≤ 2000000000 := by
  unfold refV; repeat (split; (refine ⟨?_, ?_, ?_, ?_⟩ <;> first | assumption | (simp; done)))
  refine ⟨?_, ?_, ?_, ?_⟩ <;> first | assumption | (simp; done)
theorem stR_wide {xs : Nat → Int} {n : Nat} (h : ∀ j, j < n * 2 → -2000000000 ≤ xs j ∧ xs j ≤ 2000000000) : ∀ i, i ≤ n → -2000000000 ≤ (stR xs i).2.1 ∧ (stR xs i).2.1 ≤ 2000000000 ∧ -2000000000 ≤ (stR xs i).2.2 ∧ (stR xs i).2.2 ≤ 2000000000 := by
  intro i
  induction i with
  | zero => intro _; simp [stR]
  | succ i ih =>
    intro hi
    obtain ⟨a, b, c, d⟩ := ih (by omega)
    have h1 := h (i * 2 + 1) (by omega)
    exact refV_wide h1.1 h1.2 a b
end Go.Proofs.Ytfckoeoohlgmiaa
