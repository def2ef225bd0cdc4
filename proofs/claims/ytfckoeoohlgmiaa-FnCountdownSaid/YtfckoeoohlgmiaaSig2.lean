/- The step of a log: the program's and the reference's. -/
import Derived.Test.YtfckoeoohlgmiaaSig
import Derived.Test.YtfckoeoohlgmiaaOver
import Derived.RegionTactic
import Derived.BigRegion
import Derived.Handy
set_option linter.unusedSimpArgs false
set_option linter.unusedVariables false
namespace Go.Proofs.Ytfckoeoohlgmiaa
open Go.RowKit

/-- The state behind a signal of kind k at time t, and whether it is lawful. -/
def stepV (st si k t : Int) : (Int × Int) × Bool :=
  if k = 1 then ((1, t), (st == 0) || (((st == 6) || (st == 7)) && (t - si == 60000)))
  else if k = 2 then ((2, si), (st == 1) && (t - si == 60000))
  else if k = 3 then ((3, si), (st == 2) && (t - si == 240000))
  else if k = 4 then ((4, t), (st == 3) && (t - si == 300000))
  else if k = 5 then ((5, t), (st != 4) && (st != 5) && (st != 8))
  else if k = 6 then ((6, t), (st == 5))
  else if k = 7 then ((7, t), (st == 4) && decide (t - si ≤ 60000))
  else ((8, t), (st != 8))

set_option maxHeartbeats 4000000 in
theorem after_1 (st si t : Int) (w : World) (t0 : 0 ≤ t) (t1 : t ≤ 1000000000) (s0 : 0 ≤ si) (s1 : si ≤ 1000000000) :
    Calls Try.prog 46 #[.agg #[.int .i64 st, .int .i64 si], .agg #[.int .i64 1, .int .i64 t]] w fun e w' => e = .returned (.tuple #[.agg #[.int .i64 1, .int .i64 t], .bool (stepV st si 1 t).2]) ∧ Below w.heap.size w w' := by
  cases h0 : (st == 0) with
  | true =>
    obtain rfl : st = 0 := by simpa using h0
    clear h0
    have hv : (stepV 0 si 1 t).2 = true := by simp [stepV]
    rw [hv]
    clear hv
    go_enter Try.func46, Try.ntmps46
    go_wp2
    refine bodyPost_ret (v := .tuple #[.agg #[.int .i64 1, .int .i64 t], .bool true]) (by simp [results, Try.results46, go_sem]) rfl ⟨rfl, ?_⟩
    first | exact (((((Below.refl _ _).alloc (Nat.le_refl _) _).alloc (by simp) _).alloc (by simp; omega) _)) | exact below_dN ((((Below.refl _ _).alloc (Nat.le_refl _) _).alloc (by simp) _).alloc (by simp; omega) _) _ | exact ((((Below.refl _ _).alloc (Nat.le_refl _) _).alloc (by simp) _).alloc (by simp; omega) _).drew
  | false =>
    cases h1 : (st == 6) with
    | true =>
      obtain rfl : st = 6 := by simpa using h1
      clear h1
      clear h0
      cases h2 : (t - si == 60000) with
      | true =>
        have hv : (stepV 6 si 1 t).2 = true := by simp [stepV, h2]
        rw [hv]
        clear hv
        go_enter Try.func46, Try.ntmps46
        go_wp2
        refine bodyPost_ret (v := .tuple #[.agg #[.int .i64 1, .int .i64 t], .bool true]) (by simp [results, Try.results46, go_sem]) rfl ⟨rfl, ?_⟩
        first | exact (((((Below.refl _ _).alloc (Nat.le_refl _) _).alloc (by simp) _).alloc (by simp; omega) _)) | exact below_dN ((((Below.refl _ _).alloc (Nat.le_refl _) _).alloc (by simp) _).alloc (by simp; omega) _) _ | exact ((((Below.refl _ _).alloc (Nat.le_refl _) _).alloc (by simp) _).alloc (by simp; omega) _).drew
      | false =>
        have hv : (stepV 6 si 1 t).2 = false := by simp [stepV, h2]
        rw [hv]
        clear hv
        go_enter Try.func46, Try.ntmps46
        go_wp2
        refine bodyPost_ret (v := .tuple #[.agg #[.int .i64 1, .int .i64 t], .bool false]) (by simp [results, Try.results46, go_sem]) rfl ⟨rfl, ?_⟩
        first | exact (((((Below.refl _ _).alloc (Nat.le_refl _) _).alloc (by simp) _).alloc (by simp; omega) _)) | exact below_dN ((((Below.refl _ _).alloc (Nat.le_refl _) _).alloc (by simp) _).alloc (by simp; omega) _) _ | exact ((((Below.refl _ _).alloc (Nat.le_refl _) _).alloc (by simp) _).alloc (by simp; omega) _).drew
    | false =>
      cases h2 : (st == 7) with
      | true =>
        obtain rfl : st = 7 := by simpa using h2
        clear h2
        clear h0
        clear h1
        cases h3 : (t - si == 60000) with
        | true =>
          have hv : (stepV 7 si 1 t).2 = true := by simp [stepV, h3]
          rw [hv]
          clear hv
          go_enter Try.func46, Try.ntmps46
          go_wp2
          refine bodyPost_ret (v := .tuple #[.agg #[.int .i64 1, .int .i64 t], .bool true]) (by simp [results, Try.results46, go_sem]) rfl ⟨rfl, ?_⟩
          first | exact (((((Below.refl _ _).alloc (Nat.le_refl _) _).alloc (by simp) _).alloc (by simp; omega) _)) | exact below_dN ((((Below.refl _ _).alloc (Nat.le_refl _) _).alloc (by simp) _).alloc (by simp; omega) _) _ | exact ((((Below.refl _ _).alloc (Nat.le_refl _) _).alloc (by simp) _).alloc (by simp; omega) _).drew
        | false =>
          have hv : (stepV 7 si 1 t).2 = false := by simp [stepV, h3]
          rw [hv]
          clear hv
          go_enter Try.func46, Try.ntmps46
          go_wp2
          refine bodyPost_ret (v := .tuple #[.agg #[.int .i64 1, .int .i64 t], .bool false]) (by simp [results, Try.results46, go_sem]) rfl ⟨rfl, ?_⟩
          first | exact (((((Below.refl _ _).alloc (Nat.le_refl _) _).alloc (by simp) _).alloc (by simp; omega) _)) | exact below_dN ((((Below.refl _ _).alloc (Nat.le_refl _) _).alloc (by simp) _).alloc (by simp; omega) _) _ | exact ((((Below.refl _ _).alloc (Nat.le_refl _) _).alloc (by simp) _).alloc (by simp; omega) _).drew
      | false =>
        have hv : (stepV st si 1 t).2 = false := by simp [stepV, h0, h1, h2]
        rw [hv]
        clear hv
        go_enter Try.func46, Try.ntmps46
        go_wp2
        refine bodyPost_ret (v := .tuple #[.agg #[.int .i64 1, .int .i64 t], .bool false]) (by simp [results, Try.results46, go_sem]) rfl ⟨rfl, ?_⟩
        first | exact (((((Below.refl _ _).alloc (Nat.le_refl _) _).alloc (by simp) _).alloc (by simp; omega) _)) | exact below_dN ((((Below.refl _ _).alloc (Nat.le_refl _) _).alloc (by simp) _).alloc (by simp; omega) _) _ | exact ((((Below.refl _ _).alloc (Nat.le_refl _) _).alloc (by simp) _).alloc (by simp; omega) _).drew
set_option maxHeartbeats 4000000 in
theorem after_2 (st si t : Int) (w : World) (t0 : 0 ≤ t) (t1 : t ≤ 1000000000) (s0 : 0 ≤ si) (s1 : si ≤ 1000000000) :
    Calls Try.prog 46 #[.agg #[.int .i64 st, .int .i64 si], .agg #[.int .i64 2, .int .i64 t]] w fun e w' => e = .returned (.tuple #[.agg #[.int .i64 2, .int .i64 si], .bool (stepV st si 2 t).2]) ∧ Below w.heap.size w w' := by
  cases h0 : (st == 1) with
  | true =>
    obtain rfl : st = 1 := by simpa using h0
    clear h0
    cases h1 : (t - si == 60000) with
    | true =>
      have hv : (stepV 1 si 2 t).2 = true := by simp [stepV, h1]
      rw [hv]
      clear hv
      go_enter Try.func46, Try.ntmps46
      go_wp2
      refine bodyPost_ret (v := .tuple #[.agg #[.int .i64 2, .int .i64 si], .bool true]) (by simp [results, Try.results46, go_sem]) rfl ⟨rfl, ?_⟩
      first | exact (((((Below.refl _ _).alloc (Nat.le_refl _) _).alloc (by simp) _).alloc (by simp; omega) _)) | exact below_dN ((((Below.refl _ _).alloc (Nat.le_refl _) _).alloc (by simp) _).alloc (by simp; omega) _) _ | exact ((((Below.refl _ _).alloc (Nat.le_refl _) _).alloc (by simp) _).alloc (by simp; omega) _).drew
    | false =>
      have hv : (stepV 1 si 2 t).2 = false := by simp [stepV, h1]
      rw [hv]
      clear hv
      go_enter Try.func46, Try.ntmps46
      go_wp2
      refine bodyPost_ret (v := .tuple #[.agg #[.int .i64 2, .int .i64 si], .bool false]) (by simp [results, Try.results46, go_sem]) rfl ⟨rfl, ?_⟩
      first | exact (((((Below.refl _ _).alloc (Nat.le_refl _) _).alloc (by simp) _).alloc (by simp; omega) _)) | exact below_dN ((((Below.refl _ _).alloc (Nat.le_refl _) _).alloc (by simp) _).alloc (by simp; omega) _) _ | exact ((((Below.refl _ _).alloc (Nat.le_refl _) _).alloc (by simp) _).alloc (by simp; omega) _).drew
  | false =>
    have hv : (stepV st si 2 t).2 = false := by simp [stepV, h0]
    rw [hv]
    clear hv
    go_enter Try.func46, Try.ntmps46
    go_wp2
    refine bodyPost_ret (v := .tuple #[.agg #[.int .i64 2, .int .i64 si], .bool false]) (by simp [results, Try.results46, go_sem]) rfl ⟨rfl, ?_⟩
    first | exact (((((Below.refl _ _).alloc (Nat.le_refl _) _).alloc (by simp) _).alloc (by simp; omega) _)) | exact below_dN ((((Below.refl _ _).alloc (Nat.le_refl _) _).alloc (by simp) _).alloc (by simp; omega) _) _ | exact ((((Below.refl _ _).alloc (Nat.le_refl _) _).alloc (by simp) _).alloc (by simp; omega) _).drew
set_option maxHeartbeats 4000000 in
theorem after_3 (st si t : Int) (w : World) (t0 : 0 ≤ t) (t1 : t ≤ 1000000000) (s0 : 0 ≤ si) (s1 : si ≤ 1000000000) :
    Calls Try.prog 46 #[.agg #[.int .i64 st, .int .i64 si], .agg #[.int .i64 3, .int .i64 t]] w fun e w' => e = .returned (.tuple #[.agg #[.int .i64 3, .int .i64 si], .bool (stepV st si 3 t).2]) ∧ Below w.heap.size w w' := by
  cases h0 : (st == 2) with
  | true =>
    obtain rfl : st = 2 := by simpa using h0
    clear h0
    cases h1 : (t - si == 240000) with
    | true =>
      have hv : (stepV 2 si 3 t).2 = true := by simp [stepV, h1]
      rw [hv]
      clear hv
      go_enter Try.func46, Try.ntmps46
      go_wp2
      refine bodyPost_ret (v := .tuple #[.agg #[.int .i64 3, .int .i64 si], .bool true]) (by simp [results, Try.results46, go_sem]) rfl ⟨rfl, ?_⟩
      first | exact (((((Below.refl _ _).alloc (Nat.le_refl _) _).alloc (by simp) _).alloc (by simp; omega) _)) | exact below_dN ((((Below.refl _ _).alloc (Nat.le_refl _) _).alloc (by simp) _).alloc (by simp; omega) _) _ | exact ((((Below.refl _ _).alloc (Nat.le_refl _) _).alloc (by simp) _).alloc (by simp; omega) _).drew
    | false =>
      have hv : (stepV 2 si 3 t).2 = false := by simp [stepV, h1]
      rw [hv]
      clear hv
      go_enter Try.func46, Try.ntmps46
      go_wp2
      refine bodyPost_ret (v := .tuple #[.agg #[.int .i64 3, .int .i64 si], .bool false]) (by simp [results, Try.results46, go_sem]) rfl ⟨rfl, ?_⟩
      first | exact (((((Below.refl _ _).alloc (Nat.le_refl _) _).alloc (by simp) _).alloc (by simp; omega) _)) | exact below_dN ((((Below.refl _ _).alloc (Nat.le_refl _) _).alloc (by simp) _).alloc (by simp; omega) _) _ | exact ((((Below.refl _ _).alloc (Nat.le_refl _) _).alloc (by simp) _).alloc (by simp; omega) _).drew
  | false =>
    have hv : (stepV st si 3 t).2 = false := by simp [stepV, h0]
    rw [hv]
    clear hv
    go_enter Try.func46, Try.ntmps46
    go_wp2
    refine bodyPost_ret (v := .tuple #[.agg #[.int .i64 3, .int .i64 si], .bool false]) (by simp [results, Try.results46, go_sem]) rfl ⟨rfl, ?_⟩
    first | exact (((((Below.refl _ _).alloc (Nat.le_refl _) _).alloc (by simp) _).alloc (by simp; omega) _)) | exact below_dN ((((Below.refl _ _).alloc (Nat.le_refl _) _).alloc (by simp) _).alloc (by simp; omega) _) _ | exact ((((Below.refl _ _).alloc (Nat.le_refl _) _).alloc (by simp) _).alloc (by simp; omega) _).drew
set_option maxHeartbeats 4000000 in
theorem after_4 (st si t : Int) (w : World) (t0 : 0 ≤ t) (t1 : t ≤ 1000000000) (s0 : 0 ≤ si) (s1 : si ≤ 1000000000) :
    Calls Try.prog 46 #[.agg #[.int .i64 st, .int .i64 si], .agg #[.int .i64 4, .int .i64 t]] w fun e w' => e = .returned (.tuple #[.agg #[.int .i64 4, .int .i64 t], .bool (stepV st si 4 t).2]) ∧ Below w.heap.size w w' := by
  cases h0 : (st == 3) with
  | true =>
    obtain rfl : st = 3 := by simpa using h0
    clear h0
    cases h1 : (t - si == 300000) with
    | true =>
      have hv : (stepV 3 si 4 t).2 = true := by simp [stepV, h1]
      rw [hv]
      clear hv
      go_enter Try.func46, Try.ntmps46
      go_wp2
      refine bodyPost_ret (v := .tuple #[.agg #[.int .i64 4, .int .i64 t], .bool true]) (by simp [results, Try.results46, go_sem]) rfl ⟨rfl, ?_⟩
      first | exact (((((Below.refl _ _).alloc (Nat.le_refl _) _).alloc (by simp) _).alloc (by simp; omega) _)) | exact below_dN ((((Below.refl _ _).alloc (Nat.le_refl _) _).alloc (by simp) _).alloc (by simp; omega) _) _ | exact ((((Below.refl _ _).alloc (Nat.le_refl _) _).alloc (by simp) _).alloc (by simp; omega) _).drew
    | false =>
      have hv : (stepV 3 si 4 t).2 = false := by simp [stepV, h1]
      rw [hv]
      clear hv
      go_enter Try.func46, Try.ntmps46
      go_wp2
      refine bodyPost_ret (v := .tuple #[.agg #[.int .i64 4, .int .i64 t], .bool false]) (by simp [results, Try.results46, go_sem]) rfl ⟨rfl, ?_⟩
      first | exact (((((Below.refl _ _).alloc (Nat.le_refl _) _).alloc (by simp) _).alloc (by simp; omega) _)) | exact below_dN ((((Below.refl _ _).alloc (Nat.le_refl _) _).alloc (by simp) _).alloc (by simp; omega) _) _ | exact ((((Below.refl _ _).alloc (Nat.le_refl _) _).alloc (by simp) _).alloc (by simp; omega) _).drew
  | false =>
    have hv : (stepV st si 4 t).2 = false := by simp [stepV, h0]
    rw [hv]
    clear hv
    go_enter Try.func46, Try.ntmps46
    go_wp2
    refine bodyPost_ret (v := .tuple #[.agg #[.int .i64 4, .int .i64 t], .bool false]) (by simp [results, Try.results46, go_sem]) rfl ⟨rfl, ?_⟩
    first | exact (((((Below.refl _ _).alloc (Nat.le_refl _) _).alloc (by simp) _).alloc (by simp; omega) _)) | exact below_dN ((((Below.refl _ _).alloc (Nat.le_refl _) _).alloc (by simp) _).alloc (by simp; omega) _) _ | exact ((((Below.refl _ _).alloc (Nat.le_refl _) _).alloc (by simp) _).alloc (by simp; omega) _).drew
set_option maxHeartbeats 4000000 in
theorem after_5 (st si t : Int) (w : World) (t0 : 0 ≤ t) (t1 : t ≤ 1000000000) (s0 : 0 ≤ si) (s1 : si ≤ 1000000000) :
    Calls Try.prog 46 #[.agg #[.int .i64 st, .int .i64 si], .agg #[.int .i64 5, .int .i64 t]] w fun e w' => e = .returned (.tuple #[.agg #[.int .i64 5, .int .i64 t], .bool (stepV st si 5 t).2]) ∧ Below w.heap.size w w' := by
  cases h0 : (st == 4) with
  | true =>
    obtain rfl : st = 4 := by simpa using h0
    clear h0
    have hv : (stepV 4 si 5 t).2 = false := by simp [stepV]
    rw [hv]
    clear hv
    go_enter Try.func46, Try.ntmps46
    go_wp2
    go_region
    go_wp2
    refine bodyPost_ret (v := .tuple #[.agg #[.int .i64 5, .int .i64 t], .bool false]) (by simp [results, Try.results46, go_sem]) rfl ⟨rfl, ?_⟩
    first | exact (((((Below.refl _ _).alloc (Nat.le_refl _) _).alloc (by simp) _).alloc (by simp; omega) _)) | exact below_dN ((((Below.refl _ _).alloc (Nat.le_refl _) _).alloc (by simp) _).alloc (by simp; omega) _) _ | exact ((((Below.refl _ _).alloc (Nat.le_refl _) _).alloc (by simp) _).alloc (by simp; omega) _).drew
  | false =>
    replace h0 : (st != 4) = true := by rw [bne, h0]; rfl
    cases h1 : (st == 5) with
    | true =>
      obtain rfl : st = 5 := by simpa using h1
      clear h1
      clear h0
      have hv : (stepV 5 si 5 t).2 = false := by simp [stepV]
      rw [hv]
      clear hv
      go_enter Try.func46, Try.ntmps46
      go_wp2
      go_region
      go_wp2
      refine bodyPost_ret (v := .tuple #[.agg #[.int .i64 5, .int .i64 t], .bool false]) (by simp [results, Try.results46, go_sem]) rfl ⟨rfl, ?_⟩
      first | exact (((((Below.refl _ _).alloc (Nat.le_refl _) _).alloc (by simp) _).alloc (by simp; omega) _)) | exact below_dN ((((Below.refl _ _).alloc (Nat.le_refl _) _).alloc (by simp) _).alloc (by simp; omega) _) _ | exact ((((Below.refl _ _).alloc (Nat.le_refl _) _).alloc (by simp) _).alloc (by simp; omega) _).drew
    | false =>
      replace h1 : (st != 5) = true := by rw [bne, h1]; rfl
      cases h2 : (st == 8) with
      | true =>
        obtain rfl : st = 8 := by simpa using h2
        clear h2
        clear h0
        clear h1
        have hv : (stepV 8 si 5 t).2 = false := by simp [stepV]
        rw [hv]
        clear hv
        go_enter Try.func46, Try.ntmps46
        go_wp2
        go_region
        go_wp2
        refine bodyPost_ret (v := .tuple #[.agg #[.int .i64 5, .int .i64 t], .bool false]) (by simp [results, Try.results46, go_sem]) rfl ⟨rfl, ?_⟩
        first | exact (((((Below.refl _ _).alloc (Nat.le_refl _) _).alloc (by simp) _).alloc (by simp; omega) _)) | exact below_dN ((((Below.refl _ _).alloc (Nat.le_refl _) _).alloc (by simp) _).alloc (by simp; omega) _) _ | exact ((((Below.refl _ _).alloc (Nat.le_refl _) _).alloc (by simp) _).alloc (by simp; omega) _).drew
      | false =>
        replace h2 : (st != 8) = true := by rw [bne, h2]; rfl
        have hv : (stepV st si 5 t).2 = true := by simp [stepV, h0, h1, h2]
        rw [hv]
        clear hv
        go_enter Try.func46, Try.ntmps46
        go_wp2
        go_region
        go_wp2
        refine bodyPost_ret (v := .tuple #[.agg #[.int .i64 5, .int .i64 t], .bool true]) (by simp [results, Try.results46, go_sem]) rfl ⟨rfl, ?_⟩
        first | exact (((((Below.refl _ _).alloc (Nat.le_refl _) _).alloc (by simp) _).alloc (by simp; omega) _)) | exact below_dN ((((Below.refl _ _).alloc (Nat.le_refl _) _).alloc (by simp) _).alloc (by simp; omega) _) _ | exact ((((Below.refl _ _).alloc (Nat.le_refl _) _).alloc (by simp) _).alloc (by simp; omega) _).drew
set_option maxHeartbeats 4000000 in
theorem after_6 (st si t : Int) (w : World) (t0 : 0 ≤ t) (t1 : t ≤ 1000000000) (s0 : 0 ≤ si) (s1 : si ≤ 1000000000) :
    Calls Try.prog 46 #[.agg #[.int .i64 st, .int .i64 si], .agg #[.int .i64 6, .int .i64 t]] w fun e w' => e = .returned (.tuple #[.agg #[.int .i64 6, .int .i64 t], .bool (stepV st si 6 t).2]) ∧ Below w.heap.size w w' := by
  cases h0 : (st == 5) with
  | true =>
    obtain rfl : st = 5 := by simpa using h0
    clear h0
    have hv : (stepV 5 si 6 t).2 = true := by simp [stepV]
    rw [hv]
    clear hv
    go_enter Try.func46, Try.ntmps46
    go_wp2
    go_region
    go_wp2
    refine bodyPost_ret (v := .tuple #[.agg #[.int .i64 6, .int .i64 t], .bool true]) (by simp [results, Try.results46, go_sem]) rfl ⟨rfl, ?_⟩
    first | exact (((((Below.refl _ _).alloc (Nat.le_refl _) _).alloc (by simp) _).alloc (by simp; omega) _)) | exact below_dN ((((Below.refl _ _).alloc (Nat.le_refl _) _).alloc (by simp) _).alloc (by simp; omega) _) _ | exact ((((Below.refl _ _).alloc (Nat.le_refl _) _).alloc (by simp) _).alloc (by simp; omega) _).drew
  | false =>
    have hv : (stepV st si 6 t).2 = false := by simp [stepV, h0]
    rw [hv]
    clear hv
    go_enter Try.func46, Try.ntmps46
    go_wp2
    go_region
    go_wp2
    refine bodyPost_ret (v := .tuple #[.agg #[.int .i64 6, .int .i64 t], .bool false]) (by simp [results, Try.results46, go_sem]) rfl ⟨rfl, ?_⟩
    first | exact (((((Below.refl _ _).alloc (Nat.le_refl _) _).alloc (by simp) _).alloc (by simp; omega) _)) | exact below_dN ((((Below.refl _ _).alloc (Nat.le_refl _) _).alloc (by simp) _).alloc (by simp; omega) _) _ | exact ((((Below.refl _ _).alloc (Nat.le_refl _) _).alloc (by simp) _).alloc (by simp; omega) _).drew
set_option maxHeartbeats 4000000 in
theorem after_7 (st si t : Int) (w : World) (t0 : 0 ≤ t) (t1 : t ≤ 1000000000) (s0 : 0 ≤ si) (s1 : si ≤ 1000000000) :
    Calls Try.prog 46 #[.agg #[.int .i64 st, .int .i64 si], .agg #[.int .i64 7, .int .i64 t]] w fun e w' => e = .returned (.tuple #[.agg #[.int .i64 7, .int .i64 t], .bool (stepV st si 7 t).2]) ∧ Below w.heap.size w w' := by
  cases h0 : (st == 4) with
  | true =>
    obtain rfl : st = 4 := by simpa using h0
    clear h0
    by_cases q : t - si ≤ 60000
    · have h1 : decide (t - si ≤ 60000) = true := by simpa using q
      have hv : (stepV 4 si 7 t).2 = true := by simp [stepV, h1]
      rw [hv]
      clear hv
      go_enter Try.func46, Try.ntmps46
      go_wp2
      refine bodyPost_ret (v := .tuple #[.agg #[.int .i64 7, .int .i64 t], .bool true]) (by simp [results, Try.results46, go_sem]) rfl ⟨rfl, ?_⟩
      first | exact (((((Below.refl _ _).alloc (Nat.le_refl _) _).alloc (by simp) _).alloc (by simp; omega) _)) | exact below_dN ((((Below.refl _ _).alloc (Nat.le_refl _) _).alloc (by simp) _).alloc (by simp; omega) _) _ | exact ((((Below.refl _ _).alloc (Nat.le_refl _) _).alloc (by simp) _).alloc (by simp; omega) _).drew
    · have h1 : decide (t - si ≤ 60000) = false := by simpa using q
      have hv : (stepV 4 si 7 t).2 = false := by simp [stepV, h1]
      rw [hv]
      clear hv
      go_enter Try.func46, Try.ntmps46
      go_wp2
      refine bodyPost_ret (v := .tuple #[.agg #[.int .i64 7, .int .i64 t], .bool false]) (by simp [results, Try.results46, go_sem]) rfl ⟨rfl, ?_⟩
      first | exact (((((Below.refl _ _).alloc (Nat.le_refl _) _).alloc (by simp) _).alloc (by simp; omega) _)) | exact below_dN ((((Below.refl _ _).alloc (Nat.le_refl _) _).alloc (by simp) _).alloc (by simp; omega) _) _ | exact ((((Below.refl _ _).alloc (Nat.le_refl _) _).alloc (by simp) _).alloc (by simp; omega) _).drew
  | false =>
    have hv : (stepV st si 7 t).2 = false := by simp [stepV, h0]
    rw [hv]
    clear hv
    go_enter Try.func46, Try.ntmps46
    go_wp2
    refine bodyPost_ret (v := .tuple #[.agg #[.int .i64 7, .int .i64 t], .bool false]) (by simp [results, Try.results46, go_sem]) rfl ⟨rfl, ?_⟩
    first | exact (((((Below.refl _ _).alloc (Nat.le_refl _) _).alloc (by simp) _).alloc (by simp; omega) _)) | exact below_dN ((((Below.refl _ _).alloc (Nat.le_refl _) _).alloc (by simp) _).alloc (by simp; omega) _) _ | exact ((((Below.refl _ _).alloc (Nat.le_refl _) _).alloc (by simp) _).alloc (by simp; omega) _).drew
set_option maxHeartbeats 4000000 in
theorem after_8 (st si t : Int) (w : World) (t0 : 0 ≤ t) (t1 : t ≤ 1000000000) (s0 : 0 ≤ si) (s1 : si ≤ 1000000000) :
    Calls Try.prog 46 #[.agg #[.int .i64 st, .int .i64 si], .agg #[.int .i64 8, .int .i64 t]] w fun e w' => e = .returned (.tuple #[.agg #[.int .i64 8, .int .i64 t], .bool (stepV st si 8 t).2]) ∧ Below w.heap.size w w' := by
  cases h0 : (st == 8) with
  | true =>
    obtain rfl : st = 8 := by simpa using h0
    clear h0
    have hv : (stepV 8 si 8 t).2 = false := by simp [stepV]
    rw [hv]
    clear hv
    go_enter Try.func46, Try.ntmps46
    go_wp2
    go_region
    go_wp2
    refine bodyPost_ret (v := .tuple #[.agg #[.int .i64 8, .int .i64 t], .bool false]) (by simp [results, Try.results46, go_sem]) rfl ⟨rfl, ?_⟩
    first | exact (((((Below.refl _ _).alloc (Nat.le_refl _) _).alloc (by simp) _).alloc (by simp; omega) _)) | exact below_dN ((((Below.refl _ _).alloc (Nat.le_refl _) _).alloc (by simp) _).alloc (by simp; omega) _) _ | exact ((((Below.refl _ _).alloc (Nat.le_refl _) _).alloc (by simp) _).alloc (by simp; omega) _).drew
  | false =>
    replace h0 : (st != 8) = true := by rw [bne, h0]; rfl
    have hv : (stepV st si 8 t).2 = true := by simp [stepV, h0]
    rw [hv]
    clear hv
    go_enter Try.func46, Try.ntmps46
    go_wp2
    go_region
    go_wp2
    refine bodyPost_ret (v := .tuple #[.agg #[.int .i64 8, .int .i64 t], .bool true]) (by simp [results, Try.results46, go_sem]) rfl ⟨rfl, ?_⟩
    first | exact (((((Below.refl _ _).alloc (Nat.le_refl _) _).alloc (by simp) _).alloc (by simp; omega) _)) | exact below_dN ((((Below.refl _ _).alloc (Nat.le_refl _) _).alloc (by simp) _).alloc (by simp; omega) _) _ | exact ((((Below.refl _ _).alloc (Nat.le_refl _) _).alloc (by simp) _).alloc (by simp; omega) _).drew
end Go.Proofs.Ytfckoeoohlgmiaa
