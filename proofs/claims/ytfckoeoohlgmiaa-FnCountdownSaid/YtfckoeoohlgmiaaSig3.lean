/- The step of a log, the reference's. -/
import Derived.Test.YtfckoeoohlgmiaaSig2
set_option linter.unusedSimpArgs false
set_option linter.unusedVariables false
namespace Go.Proofs.Ytfckoeoohlgmiaa
open Go.RowKit

/-- The reference's state behind a signal of kind k at time t, and whether it is lawful. -/
def refV (st wn mk k t : Int) : (Int × Int × Int) × Bool :=
  if k = 1 then ((1, t, 0), (st == 0) || (((st == 6) || (st == 7)) && (t == mk + 60000)))
  else if k = 2 then ((2, wn, 0), (st == 1) && (t == wn + 60000))
  else if k = 3 then ((3, wn, 0), (st == 2) && (t == wn + 240000))
  else if k = 4 then ((4, wn, t), (st == 3) && (t == wn + 300000))
  else if k = 5 then ((5, 0, 0), (st != 4) && (st != 5) && (st != 8))
  else if k = 6 then ((6, 0, t), (st == 5))
  else if k = 7 then ((7, 0, t), (st == 4) && decide (t ≤ mk + 60000))
  else ((8, 0, 0), (st != 8))

set_option maxHeartbeats 4000000 in
theorem step_1 (st wn mk t : Int) (w : World) (t0 : 0 ≤ t) (t1 : t ≤ 1000000000) (a0 : 0 ≤ wn) (a1 : wn ≤ 1000000000) (b0 : 0 ≤ mk) (b1 : mk ≤ 1000000000) :
    Calls Try.prog 45 #[.agg #[.int .i64 st, .int .i64 wn, .int .i64 mk], .agg #[.int .i64 1, .int .i64 t]] w fun e w' => e = .returned (.tuple #[.agg #[.int .i64 1, .int .i64 t, .int .i64 0], .bool (refV st wn mk 1 t).2]) ∧ Below w.heap.size w w' := by
  cases h0 : (st == 0) with
  | true =>
    obtain rfl : st = 0 := by simpa using h0
    clear h0
    have hv : (refV 0 wn mk 1 t).2 = true := by simp [refV]
    rw [hv]
    clear hv
    go_enter Try.func45, Try.ntmps45
    go_wp2
    refine bodyPost_ret (v := .tuple #[.agg #[.int .i64 1, .int .i64 t, .int .i64 0], .bool true]) (by simp [results, Try.results45, go_sem]) rfl ⟨rfl, ?_⟩
    first | exact (((((Below.refl _ _).alloc (Nat.le_refl _) _).alloc (by simp) _).alloc (by simp; omega) _)) | exact below_dN ((((Below.refl _ _).alloc (Nat.le_refl _) _).alloc (by simp) _).alloc (by simp; omega) _) _ | exact ((((Below.refl _ _).alloc (Nat.le_refl _) _).alloc (by simp) _).alloc (by simp; omega) _).drew
  | false =>
    cases h1 : (st == 6) with
    | true =>
      obtain rfl : st = 6 := by simpa using h1
      clear h1
      clear h0
      cases h2 : (t == (mk + 60000)) with
      | true =>
        have hv : (refV 6 wn mk 1 t).2 = true := by simp [refV, h2]
        rw [hv]
        clear hv
        go_enter Try.func45, Try.ntmps45
        go_wp2
        refine bodyPost_ret (v := .tuple #[.agg #[.int .i64 1, .int .i64 t, .int .i64 0], .bool true]) (by simp [results, Try.results45, go_sem]) rfl ⟨rfl, ?_⟩
        first | exact (((((Below.refl _ _).alloc (Nat.le_refl _) _).alloc (by simp) _).alloc (by simp; omega) _)) | exact below_dN ((((Below.refl _ _).alloc (Nat.le_refl _) _).alloc (by simp) _).alloc (by simp; omega) _) _ | exact ((((Below.refl _ _).alloc (Nat.le_refl _) _).alloc (by simp) _).alloc (by simp; omega) _).drew
      | false =>
        have hv : (refV 6 wn mk 1 t).2 = false := by simp [refV, h2]
        rw [hv]
        clear hv
        go_enter Try.func45, Try.ntmps45
        go_wp2
        refine bodyPost_ret (v := .tuple #[.agg #[.int .i64 1, .int .i64 t, .int .i64 0], .bool false]) (by simp [results, Try.results45, go_sem]) rfl ⟨rfl, ?_⟩
        first | exact (((((Below.refl _ _).alloc (Nat.le_refl _) _).alloc (by simp) _).alloc (by simp; omega) _)) | exact below_dN ((((Below.refl _ _).alloc (Nat.le_refl _) _).alloc (by simp) _).alloc (by simp; omega) _) _ | exact ((((Below.refl _ _).alloc (Nat.le_refl _) _).alloc (by simp) _).alloc (by simp; omega) _).drew
    | false =>
      cases h2 : (st == 7) with
      | true =>
        obtain rfl : st = 7 := by simpa using h2
        clear h2
        clear h0
        clear h1
        cases h3 : (t == (mk + 60000)) with
        | true =>
          have hv : (refV 7 wn mk 1 t).2 = true := by simp [refV, h3]
          rw [hv]
          clear hv
          go_enter Try.func45, Try.ntmps45
          go_wp2
          refine bodyPost_ret (v := .tuple #[.agg #[.int .i64 1, .int .i64 t, .int .i64 0], .bool true]) (by simp [results, Try.results45, go_sem]) rfl ⟨rfl, ?_⟩
          first | exact (((((Below.refl _ _).alloc (Nat.le_refl _) _).alloc (by simp) _).alloc (by simp; omega) _)) | exact below_dN ((((Below.refl _ _).alloc (Nat.le_refl _) _).alloc (by simp) _).alloc (by simp; omega) _) _ | exact ((((Below.refl _ _).alloc (Nat.le_refl _) _).alloc (by simp) _).alloc (by simp; omega) _).drew
        | false =>
          have hv : (refV 7 wn mk 1 t).2 = false := by simp [refV, h3]
          rw [hv]
          clear hv
          go_enter Try.func45, Try.ntmps45
          go_wp2
          refine bodyPost_ret (v := .tuple #[.agg #[.int .i64 1, .int .i64 t, .int .i64 0], .bool false]) (by simp [results, Try.results45, go_sem]) rfl ⟨rfl, ?_⟩
          first | exact (((((Below.refl _ _).alloc (Nat.le_refl _) _).alloc (by simp) _).alloc (by simp; omega) _)) | exact below_dN ((((Below.refl _ _).alloc (Nat.le_refl _) _).alloc (by simp) _).alloc (by simp; omega) _) _ | exact ((((Below.refl _ _).alloc (Nat.le_refl _) _).alloc (by simp) _).alloc (by simp; omega) _).drew
      | false =>
        have hv : (refV st wn mk 1 t).2 = false := by simp [refV, h0, h1, h2]
        rw [hv]
        clear hv
        go_enter Try.func45, Try.ntmps45
        go_wp2
        refine bodyPost_ret (v := .tuple #[.agg #[.int .i64 1, .int .i64 t, .int .i64 0], .bool false]) (by simp [results, Try.results45, go_sem]) rfl ⟨rfl, ?_⟩
        first | exact (((((Below.refl _ _).alloc (Nat.le_refl _) _).alloc (by simp) _).alloc (by simp; omega) _)) | exact below_dN ((((Below.refl _ _).alloc (Nat.le_refl _) _).alloc (by simp) _).alloc (by simp; omega) _) _ | exact ((((Below.refl _ _).alloc (Nat.le_refl _) _).alloc (by simp) _).alloc (by simp; omega) _).drew
set_option maxHeartbeats 4000000 in
theorem step_2 (st wn mk t : Int) (w : World) (t0 : 0 ≤ t) (t1 : t ≤ 1000000000) (a0 : 0 ≤ wn) (a1 : wn ≤ 1000000000) (b0 : 0 ≤ mk) (b1 : mk ≤ 1000000000) :
    Calls Try.prog 45 #[.agg #[.int .i64 st, .int .i64 wn, .int .i64 mk], .agg #[.int .i64 2, .int .i64 t]] w fun e w' => e = .returned (.tuple #[.agg #[.int .i64 2, .int .i64 wn, .int .i64 0], .bool (refV st wn mk 2 t).2]) ∧ Below w.heap.size w w' := by
  cases h0 : (st == 1) with
  | true =>
    obtain rfl : st = 1 := by simpa using h0
    clear h0
    cases h1 : (t == (wn + 60000)) with
    | true =>
      have hv : (refV 1 wn mk 2 t).2 = true := by simp [refV, h1]
      rw [hv]
      clear hv
      go_enter Try.func45, Try.ntmps45
      go_wp2
      go_region
      go_wp2
      refine bodyPost_ret (v := .tuple #[.agg #[.int .i64 2, .int .i64 wn, .int .i64 0], .bool true]) (by simp [results, Try.results45, go_sem]) rfl ⟨rfl, ?_⟩
      first | exact (((((Below.refl _ _).alloc (Nat.le_refl _) _).alloc (by simp) _).alloc (by simp; omega) _)) | exact below_dN ((((Below.refl _ _).alloc (Nat.le_refl _) _).alloc (by simp) _).alloc (by simp; omega) _) _ | exact ((((Below.refl _ _).alloc (Nat.le_refl _) _).alloc (by simp) _).alloc (by simp; omega) _).drew
    | false =>
      have hv : (refV 1 wn mk 2 t).2 = false := by simp [refV, h1]
      rw [hv]
      clear hv
      go_enter Try.func45, Try.ntmps45
      go_wp2
      go_region
      go_wp2
      refine bodyPost_ret (v := .tuple #[.agg #[.int .i64 2, .int .i64 wn, .int .i64 0], .bool false]) (by simp [results, Try.results45, go_sem]) rfl ⟨rfl, ?_⟩
      first | exact (((((Below.refl _ _).alloc (Nat.le_refl _) _).alloc (by simp) _).alloc (by simp; omega) _)) | exact below_dN ((((Below.refl _ _).alloc (Nat.le_refl _) _).alloc (by simp) _).alloc (by simp; omega) _) _ | exact ((((Below.refl _ _).alloc (Nat.le_refl _) _).alloc (by simp) _).alloc (by simp; omega) _).drew
  | false =>
    have hv : (refV st wn mk 2 t).2 = false := by simp [refV, h0]
    rw [hv]
    clear hv
    go_enter Try.func45, Try.ntmps45
    go_wp2
    go_region
    go_wp2
    refine bodyPost_ret (v := .tuple #[.agg #[.int .i64 2, .int .i64 wn, .int .i64 0], .bool false]) (by simp [results, Try.results45, go_sem]) rfl ⟨rfl, ?_⟩
    first | exact (((((Below.refl _ _).alloc (Nat.le_refl _) _).alloc (by simp) _).alloc (by simp; omega) _)) | exact below_dN ((((Below.refl _ _).alloc (Nat.le_refl _) _).alloc (by simp) _).alloc (by simp; omega) _) _ | exact ((((Below.refl _ _).alloc (Nat.le_refl _) _).alloc (by simp) _).alloc (by simp; omega) _).drew
set_option maxHeartbeats 4000000 in
theorem step_3 (st wn mk t : Int) (w : World) (t0 : 0 ≤ t) (t1 : t ≤ 1000000000) (a0 : 0 ≤ wn) (a1 : wn ≤ 1000000000) (b0 : 0 ≤ mk) (b1 : mk ≤ 1000000000) :
    Calls Try.prog 45 #[.agg #[.int .i64 st, .int .i64 wn, .int .i64 mk], .agg #[.int .i64 3, .int .i64 t]] w fun e w' => e = .returned (.tuple #[.agg #[.int .i64 3, .int .i64 wn, .int .i64 0], .bool (refV st wn mk 3 t).2]) ∧ Below w.heap.size w w' := by
  cases h0 : (st == 2) with
  | true =>
    obtain rfl : st = 2 := by simpa using h0
    clear h0
    cases h1 : (t == (wn + 240000)) with
    | true =>
      have hv : (refV 2 wn mk 3 t).2 = true := by simp [refV, h1]
      rw [hv]
      clear hv
      go_enter Try.func45, Try.ntmps45
      go_wp2
      go_region
      go_wp2
      refine bodyPost_ret (v := .tuple #[.agg #[.int .i64 3, .int .i64 wn, .int .i64 0], .bool true]) (by simp [results, Try.results45, go_sem]) rfl ⟨rfl, ?_⟩
      first | exact (((((Below.refl _ _).alloc (Nat.le_refl _) _).alloc (by simp) _).alloc (by simp; omega) _)) | exact below_dN ((((Below.refl _ _).alloc (Nat.le_refl _) _).alloc (by simp) _).alloc (by simp; omega) _) _ | exact ((((Below.refl _ _).alloc (Nat.le_refl _) _).alloc (by simp) _).alloc (by simp; omega) _).drew
    | false =>
      have hv : (refV 2 wn mk 3 t).2 = false := by simp [refV, h1]
      rw [hv]
      clear hv
      go_enter Try.func45, Try.ntmps45
      go_wp2
      go_region
      go_wp2
      refine bodyPost_ret (v := .tuple #[.agg #[.int .i64 3, .int .i64 wn, .int .i64 0], .bool false]) (by simp [results, Try.results45, go_sem]) rfl ⟨rfl, ?_⟩
      first | exact (((((Below.refl _ _).alloc (Nat.le_refl _) _).alloc (by simp) _).alloc (by simp; omega) _)) | exact below_dN ((((Below.refl _ _).alloc (Nat.le_refl _) _).alloc (by simp) _).alloc (by simp; omega) _) _ | exact ((((Below.refl _ _).alloc (Nat.le_refl _) _).alloc (by simp) _).alloc (by simp; omega) _).drew
  | false =>
    have hv : (refV st wn mk 3 t).2 = false := by simp [refV, h0]
    rw [hv]
    clear hv
    go_enter Try.func45, Try.ntmps45
    go_wp2
    go_region
    go_wp2
    refine bodyPost_ret (v := .tuple #[.agg #[.int .i64 3, .int .i64 wn, .int .i64 0], .bool false]) (by simp [results, Try.results45, go_sem]) rfl ⟨rfl, ?_⟩
    first | exact (((((Below.refl _ _).alloc (Nat.le_refl _) _).alloc (by simp) _).alloc (by simp; omega) _)) | exact below_dN ((((Below.refl _ _).alloc (Nat.le_refl _) _).alloc (by simp) _).alloc (by simp; omega) _) _ | exact ((((Below.refl _ _).alloc (Nat.le_refl _) _).alloc (by simp) _).alloc (by simp; omega) _).drew
set_option maxHeartbeats 4000000 in
theorem step_4 (st wn mk t : Int) (w : World) (t0 : 0 ≤ t) (t1 : t ≤ 1000000000) (a0 : 0 ≤ wn) (a1 : wn ≤ 1000000000) (b0 : 0 ≤ mk) (b1 : mk ≤ 1000000000) :
    Calls Try.prog 45 #[.agg #[.int .i64 st, .int .i64 wn, .int .i64 mk], .agg #[.int .i64 4, .int .i64 t]] w fun e w' => e = .returned (.tuple #[.agg #[.int .i64 4, .int .i64 wn, .int .i64 t], .bool (refV st wn mk 4 t).2]) ∧ Below w.heap.size w w' := by
  cases h0 : (st == 3) with
  | true =>
    obtain rfl : st = 3 := by simpa using h0
    clear h0
    cases h1 : (t == (wn + 300000)) with
    | true =>
      have hv : (refV 3 wn mk 4 t).2 = true := by simp [refV, h1]
      rw [hv]
      clear hv
      go_enter Try.func45, Try.ntmps45
      go_wp2
      go_region
      go_wp2
      refine bodyPost_ret (v := .tuple #[.agg #[.int .i64 4, .int .i64 wn, .int .i64 t], .bool true]) (by simp [results, Try.results45, go_sem]) rfl ⟨rfl, ?_⟩
      first | exact (((((Below.refl _ _).alloc (Nat.le_refl _) _).alloc (by simp) _).alloc (by simp; omega) _)) | exact below_dN ((((Below.refl _ _).alloc (Nat.le_refl _) _).alloc (by simp) _).alloc (by simp; omega) _) _ | exact ((((Below.refl _ _).alloc (Nat.le_refl _) _).alloc (by simp) _).alloc (by simp; omega) _).drew
    | false =>
      have hv : (refV 3 wn mk 4 t).2 = false := by simp [refV, h1]
      rw [hv]
      clear hv
      go_enter Try.func45, Try.ntmps45
      go_wp2
      go_region
      go_wp2
      refine bodyPost_ret (v := .tuple #[.agg #[.int .i64 4, .int .i64 wn, .int .i64 t], .bool false]) (by simp [results, Try.results45, go_sem]) rfl ⟨rfl, ?_⟩
      first | exact (((((Below.refl _ _).alloc (Nat.le_refl _) _).alloc (by simp) _).alloc (by simp; omega) _)) | exact below_dN ((((Below.refl _ _).alloc (Nat.le_refl _) _).alloc (by simp) _).alloc (by simp; omega) _) _ | exact ((((Below.refl _ _).alloc (Nat.le_refl _) _).alloc (by simp) _).alloc (by simp; omega) _).drew
  | false =>
    have hv : (refV st wn mk 4 t).2 = false := by simp [refV, h0]
    rw [hv]
    clear hv
    go_enter Try.func45, Try.ntmps45
    go_wp2
    go_region
    go_wp2
    refine bodyPost_ret (v := .tuple #[.agg #[.int .i64 4, .int .i64 wn, .int .i64 t], .bool false]) (by simp [results, Try.results45, go_sem]) rfl ⟨rfl, ?_⟩
    first | exact (((((Below.refl _ _).alloc (Nat.le_refl _) _).alloc (by simp) _).alloc (by simp; omega) _)) | exact below_dN ((((Below.refl _ _).alloc (Nat.le_refl _) _).alloc (by simp) _).alloc (by simp; omega) _) _ | exact ((((Below.refl _ _).alloc (Nat.le_refl _) _).alloc (by simp) _).alloc (by simp; omega) _).drew
set_option maxHeartbeats 4000000 in
theorem step_5 (st wn mk t : Int) (w : World) (t0 : 0 ≤ t) (t1 : t ≤ 1000000000) (a0 : 0 ≤ wn) (a1 : wn ≤ 1000000000) (b0 : 0 ≤ mk) (b1 : mk ≤ 1000000000) :
    Calls Try.prog 45 #[.agg #[.int .i64 st, .int .i64 wn, .int .i64 mk], .agg #[.int .i64 5, .int .i64 t]] w fun e w' => e = .returned (.tuple #[.agg #[.int .i64 5, .int .i64 0, .int .i64 0], .bool (refV st wn mk 5 t).2]) ∧ Below w.heap.size w w' := by
  cases h0 : (st == 4) with
  | true =>
    obtain rfl : st = 4 := by simpa using h0
    clear h0
    have hv : (refV 4 wn mk 5 t).2 = false := by simp [refV]
    rw [hv]
    clear hv
    go_enter Try.func45, Try.ntmps45
    go_wp2
    go_region
    go_wp2
    refine bodyPost_ret (v := .tuple #[.agg #[.int .i64 5, .int .i64 0, .int .i64 0], .bool false]) (by simp [results, Try.results45, go_sem]) rfl ⟨rfl, ?_⟩
    first | exact (((((Below.refl _ _).alloc (Nat.le_refl _) _).alloc (by simp) _).alloc (by simp; omega) _)) | exact below_dN ((((Below.refl _ _).alloc (Nat.le_refl _) _).alloc (by simp) _).alloc (by simp; omega) _) _ | exact ((((Below.refl _ _).alloc (Nat.le_refl _) _).alloc (by simp) _).alloc (by simp; omega) _).drew
  | false =>
    replace h0 : (st != 4) = true := by rw [bne, h0]; rfl
    cases h1 : (st == 5) with
    | true =>
      obtain rfl : st = 5 := by simpa using h1
      clear h1
      clear h0
      have hv : (refV 5 wn mk 5 t).2 = false := by simp [refV]
      rw [hv]
      clear hv
      go_enter Try.func45, Try.ntmps45
      go_wp2
      go_region
      go_wp2
      refine bodyPost_ret (v := .tuple #[.agg #[.int .i64 5, .int .i64 0, .int .i64 0], .bool false]) (by simp [results, Try.results45, go_sem]) rfl ⟨rfl, ?_⟩
      first | exact (((((Below.refl _ _).alloc (Nat.le_refl _) _).alloc (by simp) _).alloc (by simp; omega) _)) | exact below_dN ((((Below.refl _ _).alloc (Nat.le_refl _) _).alloc (by simp) _).alloc (by simp; omega) _) _ | exact ((((Below.refl _ _).alloc (Nat.le_refl _) _).alloc (by simp) _).alloc (by simp; omega) _).drew
    | false =>
      replace h1 : (st != 5) = true := by rw [bne, h1]; rfl
      cases h2 : (st == 8) with
      | true =>
        obtain rfl : st = 8 := by simpa using h2
        clear h2
        clear h0
        clear h1
        have hv : (refV 8 wn mk 5 t).2 = false := by simp [refV]
        rw [hv]
        clear hv
        go_enter Try.func45, Try.ntmps45
        go_wp2
        go_region
        go_wp2
        refine bodyPost_ret (v := .tuple #[.agg #[.int .i64 5, .int .i64 0, .int .i64 0], .bool false]) (by simp [results, Try.results45, go_sem]) rfl ⟨rfl, ?_⟩
        first | exact (((((Below.refl _ _).alloc (Nat.le_refl _) _).alloc (by simp) _).alloc (by simp; omega) _)) | exact below_dN ((((Below.refl _ _).alloc (Nat.le_refl _) _).alloc (by simp) _).alloc (by simp; omega) _) _ | exact ((((Below.refl _ _).alloc (Nat.le_refl _) _).alloc (by simp) _).alloc (by simp; omega) _).drew
      | false =>
        replace h2 : (st != 8) = true := by rw [bne, h2]; rfl
        have hv : (refV st wn mk 5 t).2 = true := by simp [refV, h0, h1, h2]
        rw [hv]
        clear hv
        go_enter Try.func45, Try.ntmps45
        go_wp2
        go_region
        go_wp2
        refine bodyPost_ret (v := .tuple #[.agg #[.int .i64 5, .int .i64 0, .int .i64 0], .bool true]) (by simp [results, Try.results45, go_sem]) rfl ⟨rfl, ?_⟩
        first | exact (((((Below.refl _ _).alloc (Nat.le_refl _) _).alloc (by simp) _).alloc (by simp; omega) _)) | exact below_dN ((((Below.refl _ _).alloc (Nat.le_refl _) _).alloc (by simp) _).alloc (by simp; omega) _) _ | exact ((((Below.refl _ _).alloc (Nat.le_refl _) _).alloc (by simp) _).alloc (by simp; omega) _).drew
set_option maxHeartbeats 4000000 in
theorem step_6 (st wn mk t : Int) (w : World) (t0 : 0 ≤ t) (t1 : t ≤ 1000000000) (a0 : 0 ≤ wn) (a1 : wn ≤ 1000000000) (b0 : 0 ≤ mk) (b1 : mk ≤ 1000000000) :
    Calls Try.prog 45 #[.agg #[.int .i64 st, .int .i64 wn, .int .i64 mk], .agg #[.int .i64 6, .int .i64 t]] w fun e w' => e = .returned (.tuple #[.agg #[.int .i64 6, .int .i64 0, .int .i64 t], .bool (refV st wn mk 6 t).2]) ∧ Below w.heap.size w w' := by
  cases h0 : (st == 5) with
  | true =>
    obtain rfl : st = 5 := by simpa using h0
    clear h0
    have hv : (refV 5 wn mk 6 t).2 = true := by simp [refV]
    rw [hv]
    clear hv
    go_enter Try.func45, Try.ntmps45
    go_wp2
    go_region
    go_wp2
    refine bodyPost_ret (v := .tuple #[.agg #[.int .i64 6, .int .i64 0, .int .i64 t], .bool true]) (by simp [results, Try.results45, go_sem]) rfl ⟨rfl, ?_⟩
    first | exact (((((Below.refl _ _).alloc (Nat.le_refl _) _).alloc (by simp) _).alloc (by simp; omega) _)) | exact below_dN ((((Below.refl _ _).alloc (Nat.le_refl _) _).alloc (by simp) _).alloc (by simp; omega) _) _ | exact ((((Below.refl _ _).alloc (Nat.le_refl _) _).alloc (by simp) _).alloc (by simp; omega) _).drew
  | false =>
    have hv : (refV st wn mk 6 t).2 = false := by simp [refV, h0]
    rw [hv]
    clear hv
    go_enter Try.func45, Try.ntmps45
    go_wp2
    go_region
    go_wp2
    refine bodyPost_ret (v := .tuple #[.agg #[.int .i64 6, .int .i64 0, .int .i64 t], .bool false]) (by simp [results, Try.results45, go_sem]) rfl ⟨rfl, ?_⟩
    first | exact (((((Below.refl _ _).alloc (Nat.le_refl _) _).alloc (by simp) _).alloc (by simp; omega) _)) | exact below_dN ((((Below.refl _ _).alloc (Nat.le_refl _) _).alloc (by simp) _).alloc (by simp; omega) _) _ | exact ((((Below.refl _ _).alloc (Nat.le_refl _) _).alloc (by simp) _).alloc (by simp; omega) _).drew
set_option maxHeartbeats 4000000 in
theorem step_7 (st wn mk t : Int) (w : World) (t0 : 0 ≤ t) (t1 : t ≤ 1000000000) (a0 : 0 ≤ wn) (a1 : wn ≤ 1000000000) (b0 : 0 ≤ mk) (b1 : mk ≤ 1000000000) :
    Calls Try.prog 45 #[.agg #[.int .i64 st, .int .i64 wn, .int .i64 mk], .agg #[.int .i64 7, .int .i64 t]] w fun e w' => e = .returned (.tuple #[.agg #[.int .i64 7, .int .i64 0, .int .i64 t], .bool (refV st wn mk 7 t).2]) ∧ Below w.heap.size w w' := by
  cases h0 : (st == 4) with
  | true =>
    obtain rfl : st = 4 := by simpa using h0
    clear h0
    by_cases q : t ≤ mk + 60000
    · have h1 : decide (t ≤ mk + 60000) = true := by simpa using q
      have hv : (refV 4 wn mk 7 t).2 = true := by simp [refV, h1]
      rw [hv]
      clear hv
      go_enter Try.func45, Try.ntmps45
      go_wp2
      go_region
      go_wp2
      refine bodyPost_ret (v := .tuple #[.agg #[.int .i64 7, .int .i64 0, .int .i64 t], .bool true]) (by simp [results, Try.results45, go_sem]) rfl ⟨rfl, ?_⟩
      first | exact (((((Below.refl _ _).alloc (Nat.le_refl _) _).alloc (by simp) _).alloc (by simp; omega) _)) | exact below_dN ((((Below.refl _ _).alloc (Nat.le_refl _) _).alloc (by simp) _).alloc (by simp; omega) _) _ | exact ((((Below.refl _ _).alloc (Nat.le_refl _) _).alloc (by simp) _).alloc (by simp; omega) _).drew
    · have h1 : decide (t ≤ mk + 60000) = false := by simpa using q
      have hv : (refV 4 wn mk 7 t).2 = false := by simp [refV, h1]
      rw [hv]
      clear hv
      go_enter Try.func45, Try.ntmps45
      go_wp2
      go_region
      go_wp2
      refine bodyPost_ret (v := .tuple #[.agg #[.int .i64 7, .int .i64 0, .int .i64 t], .bool false]) (by simp [results, Try.results45, go_sem]) rfl ⟨rfl, ?_⟩
      first | exact (((((Below.refl _ _).alloc (Nat.le_refl _) _).alloc (by simp) _).alloc (by simp; omega) _)) | exact below_dN ((((Below.refl _ _).alloc (Nat.le_refl _) _).alloc (by simp) _).alloc (by simp; omega) _) _ | exact ((((Below.refl _ _).alloc (Nat.le_refl _) _).alloc (by simp) _).alloc (by simp; omega) _).drew
  | false =>
    have hv : (refV st wn mk 7 t).2 = false := by simp [refV, h0]
    rw [hv]
    clear hv
    go_enter Try.func45, Try.ntmps45
    go_wp2
    go_region
    go_wp2
    refine bodyPost_ret (v := .tuple #[.agg #[.int .i64 7, .int .i64 0, .int .i64 t], .bool false]) (by simp [results, Try.results45, go_sem]) rfl ⟨rfl, ?_⟩
    first | exact (((((Below.refl _ _).alloc (Nat.le_refl _) _).alloc (by simp) _).alloc (by simp; omega) _)) | exact below_dN ((((Below.refl _ _).alloc (Nat.le_refl _) _).alloc (by simp) _).alloc (by simp; omega) _) _ | exact ((((Below.refl _ _).alloc (Nat.le_refl _) _).alloc (by simp) _).alloc (by simp; omega) _).drew
set_option maxHeartbeats 4000000 in
theorem step_8 (st wn mk t : Int) (w : World) (t0 : 0 ≤ t) (t1 : t ≤ 1000000000) (a0 : 0 ≤ wn) (a1 : wn ≤ 1000000000) (b0 : 0 ≤ mk) (b1 : mk ≤ 1000000000) :
    Calls Try.prog 45 #[.agg #[.int .i64 st, .int .i64 wn, .int .i64 mk], .agg #[.int .i64 8, .int .i64 t]] w fun e w' => e = .returned (.tuple #[.agg #[.int .i64 8, .int .i64 0, .int .i64 0], .bool (refV st wn mk 8 t).2]) ∧ Below w.heap.size w w' := by
  cases h0 : (st == 8) with
  | true =>
    obtain rfl : st = 8 := by simpa using h0
    clear h0
    have hv : (refV 8 wn mk 8 t).2 = false := by simp [refV]
    rw [hv]
    clear hv
    go_enter Try.func45, Try.ntmps45
    go_wp2
    go_region
    go_wp2
    refine bodyPost_ret (v := .tuple #[.agg #[.int .i64 8, .int .i64 0, .int .i64 0], .bool false]) (by simp [results, Try.results45, go_sem]) rfl ⟨rfl, ?_⟩
    first | exact (((((Below.refl _ _).alloc (Nat.le_refl _) _).alloc (by simp) _).alloc (by simp; omega) _)) | exact below_dN ((((Below.refl _ _).alloc (Nat.le_refl _) _).alloc (by simp) _).alloc (by simp; omega) _) _ | exact ((((Below.refl _ _).alloc (Nat.le_refl _) _).alloc (by simp) _).alloc (by simp; omega) _).drew
  | false =>
    replace h0 : (st != 8) = true := by rw [bne, h0]; rfl
    have hv : (refV st wn mk 8 t).2 = true := by simp [refV, h0]
    rw [hv]
    clear hv
    go_enter Try.func45, Try.ntmps45
    go_wp2
    go_region
    go_wp2
    refine bodyPost_ret (v := .tuple #[.agg #[.int .i64 8, .int .i64 0, .int .i64 0], .bool true]) (by simp [results, Try.results45, go_sem]) rfl ⟨rfl, ?_⟩
    first | exact (((((Below.refl _ _).alloc (Nat.le_refl _) _).alloc (by simp) _).alloc (by simp; omega) _)) | exact below_dN ((((Below.refl _ _).alloc (Nat.le_refl _) _).alloc (by simp) _).alloc (by simp; omega) _) _ | exact ((((Below.refl _ _).alloc (Nat.le_refl _) _).alloc (by simp) _).alloc (by simp; omega) _).drew
end Go.Proofs.Ytfckoeoohlgmiaa
