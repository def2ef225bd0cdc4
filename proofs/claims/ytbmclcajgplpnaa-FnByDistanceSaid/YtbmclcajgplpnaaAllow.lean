/- DistanceCorrected and AllowanceFor, the program's (out of my texts on arithmetic). -/
import Derived.Test.YtbmclcajgplpnaaNum
import Derived.LoopTactic
set_option linter.unusedSimpArgs false
set_option linter.unusedVariables false
namespace Go.Proofs.Ytbmclcajgplpnaa
open Go.RowKit

def dctV (t a d : Int) : Int × Int := if inB t 1 1000000000 && inB a 0 1000000 && inB d 1 10000000 then (dcV t a d, 0) else (0, 2)
set_option maxHeartbeats 1000000 in
theorem distanceCorrected_any (t a d : Int) (w : World) :
    Calls Try.prog 29 #[.int .i64 t, .int .i64 a, .int .i64 d] w fun e w' => e = .returned (.tuple #[.int .i64 (dctV t a d).1, .int .i64 (dctV t a d).2]) ∧ w = w' := by
  cases h0 : inB t 1 1000000000 with
  | false =>
    have e1 : dctV t a d = (0, 2) := by simp [dctV, h0]
    rw [e1]
    clear e1
    go_enter Try.func29, Try.ntmps29
    go_wp2_with (first | (go_at_call 63; refine (isElapsed_any _ _).mono ?_; rintro e w' ⟨rfl, rfl⟩) | (go_at_call 56; refine (isAllowance_any _ _).mono ?_; rintro e w' ⟨rfl, rfl⟩) | (go_at_call 55; refine (isDistance_any _ _).mono ?_; rintro e w' ⟨rfl, rfl⟩) | (go_at_call 57; refine (correctedBy_any _ _ _ _ (by omega) (by omega) (by omega) (by omega) (by omega) (by omega)).mono ?_; rintro e w' ⟨rfl, rfl⟩))
    go_ret2
    exact ⟨rfl, rfl⟩
  | true =>
    cases h1 : inB a 0 1000000 with
    | false =>
      have e1 : dctV t a d = (0, 2) := by simp [dctV, h0, h1]
      rw [e1]
      clear e1
      go_enter Try.func29, Try.ntmps29
      go_wp2_with (first | (go_at_call 63; refine (isElapsed_any _ _).mono ?_; rintro e w' ⟨rfl, rfl⟩) | (go_at_call 56; refine (isAllowance_any _ _).mono ?_; rintro e w' ⟨rfl, rfl⟩) | (go_at_call 55; refine (isDistance_any _ _).mono ?_; rintro e w' ⟨rfl, rfl⟩) | (go_at_call 57; refine (correctedBy_any _ _ _ _ (by omega) (by omega) (by omega) (by omega) (by omega) (by omega)).mono ?_; rintro e w' ⟨rfl, rfl⟩))
      go_ret2
      exact ⟨rfl, rfl⟩
    | true =>
      cases h2 : inB d 1 10000000 with
      | false =>
        have e1 : dctV t a d = (0, 2) := by simp [dctV, h0, h1, h2]
        rw [e1]
        clear e1
        go_enter Try.func29, Try.ntmps29
        go_wp2_with (first | (go_at_call 63; refine (isElapsed_any _ _).mono ?_; rintro e w' ⟨rfl, rfl⟩) | (go_at_call 56; refine (isAllowance_any _ _).mono ?_; rintro e w' ⟨rfl, rfl⟩) | (go_at_call 55; refine (isDistance_any _ _).mono ?_; rintro e w' ⟨rfl, rfl⟩) | (go_at_call 57; refine (correctedBy_any _ _ _ _ (by omega) (by omega) (by omega) (by omega) (by omega) (by omega)).mono ?_; rintro e w' ⟨rfl, rfl⟩))
        go_ret2
        exact ⟨rfl, rfl⟩
      | true =>
        obtain ⟨l0, u0⟩ := inB_t h0
        obtain ⟨l1, u1⟩ := inB_t h1
        obtain ⟨l2, u2⟩ := inB_t h2
        have e1 : dctV t a d = (dcV t a d, 0) := by simp [dctV, h0, h1, h2]
        rw [e1]
        clear e1
        go_enter Try.func29, Try.ntmps29
        go_wp2_with (first | (go_at_call 63; refine (isElapsed_any _ _).mono ?_; rintro e w' ⟨rfl, rfl⟩) | (go_at_call 56; refine (isAllowance_any _ _).mono ?_; rintro e w' ⟨rfl, rfl⟩) | (go_at_call 55; refine (isDistance_any _ _).mono ?_; rintro e w' ⟨rfl, rfl⟩) | (go_at_call 57; refine (correctedBy_any _ _ _ _ (by omega) (by omega) (by omega) (by omega) (by omega) (by omega)).mono ?_; rintro e w' ⟨rfl, rfl⟩))
        go_ret2
        exact ⟨rfl, rfl⟩
def alY (t g : Int) : Int := if g < t then (t - g) * 10000 else 0
theorem alY_bd (t g : Int) (l1 : 1 ≤ g) (u0 : t ≤ 1000000000) : 0 ≤ alY t g ∧ alY t g ≤ 10000000000000 := by unfold alY; split <;> omega
def alV (t g d : Int) : Int × Int := if inB t 1 1000000000 && inB g 1 1000000000 && inB d 1 10000000 then (if cdV (alY t g) d ≤ 1000000 then (cdV (alY t g) d, 0) else (0, 4)) else (0, 2)
theorem dcV_le (t g d m : Int) (hd : 1 ≤ d) (hm : 0 ≤ m) (hg : 1 ≤ g) : dcV t m d ≤ g ↔ cdV (alY t g) d ≤ m := by
  rw [cdV_le _ _ _ hd]
  have := Int.mul_nonneg hm (show 0 ≤ d by omega)
  unfold dcV alY
  generalize m * d = x at *
  split <;> omega

set_option maxHeartbeats 1000000 in
theorem allowanceFor_any (t g d : Int) (w : World) :
    Calls Try.prog 30 #[.int .i64 t, .int .i64 g, .int .i64 d] w fun e w' => e = .returned (.tuple #[.int .i64 (alV t g d).1, .int .i64 (alV t g d).2]) ∧ w = w' := by
  cases h0 : inB t 1 1000000000 with
  | false =>
    have e1 : alV t g d = (0, 2) := by simp [alV, h0]
    rw [e1]
    clear e1
    go_enter Try.func30, Try.ntmps30
    go_wp2_with (first | (go_at_call 63; refine (isElapsed_any _ _).mono ?_; rintro e w' ⟨rfl, rfl⟩) | (go_at_call 55; refine (isDistance_any _ _).mono ?_; rintro e w' ⟨rfl, rfl⟩))
    go_ret2
    exact ⟨rfl, rfl⟩
  | true =>
  cases h1 : inB g 1 1000000000 with
  | false =>
    have e1 : alV t g d = (0, 2) := by simp [alV, h1]
    rw [e1]
    clear e1
    go_enter Try.func30, Try.ntmps30
    go_wp2_with (first | (go_at_call 63; refine (isElapsed_any _ _).mono ?_; rintro e w' ⟨rfl, rfl⟩) | (go_at_call 55; refine (isDistance_any _ _).mono ?_; rintro e w' ⟨rfl, rfl⟩))
    go_ret2
    exact ⟨rfl, rfl⟩
  | true =>
  cases h2 : inB d 1 10000000 with
  | false =>
    have e1 : alV t g d = (0, 2) := by simp [alV, h2]
    rw [e1]
    clear e1
    go_enter Try.func30, Try.ntmps30
    go_wp2_with (first | (go_at_call 63; refine (isElapsed_any _ _).mono ?_; rintro e w' ⟨rfl, rfl⟩) | (go_at_call 55; refine (isDistance_any _ _).mono ?_; rintro e w' ⟨rfl, rfl⟩))
    go_ret2
    exact ⟨rfl, rfl⟩
  | true =>
  obtain ⟨l0, u0⟩ := inB_t h0
  obtain ⟨l1, u1⟩ := inB_t h1
  obtain ⟨l2, u2⟩ := inB_t h2
  have hv : alV t g d = if cdV (alY t g) d ≤ 1000000 then (cdV (alY t g) d, 0) else (0, 4) := by simp [alV, h0, h1, h2]
  rw [hv]
  clear hv
  by_cases hc : g < t
  · have hy : alY t g = (t - g) * 10000 := by simp [alY, hc]
    rw [hy]
    obtain ⟨b0, b1⟩ := cdV_bd2 ((t - g) * 10000) d l2 (by omega) (by omega)
    clear hy
    by_cases hq : cdV ((t - g) * 10000) d ≤ 1000000
    · rw [if_pos hq]
      go_enter Try.func30, Try.ntmps30
      go_wp2_with (first | (go_at_call 63; refine (isElapsed_any _ _).mono ?_; rintro e w' ⟨rfl, rfl⟩) | (go_at_call 55; refine (isDistance_any _ _).mono ?_; rintro e w' ⟨rfl, rfl⟩) | (go_at_call 64; refine (ceilDiv_cd _ _ _ (by omega) (by omega) (by omega)).mono ?_; rintro e w' ⟨rfl, rfl⟩))
      go_ret2
      exact ⟨rfl, rfl⟩
    · rw [if_neg hq]
      go_enter Try.func30, Try.ntmps30
      go_wp2_with (first | (go_at_call 63; refine (isElapsed_any _ _).mono ?_; rintro e w' ⟨rfl, rfl⟩) | (go_at_call 55; refine (isDistance_any _ _).mono ?_; rintro e w' ⟨rfl, rfl⟩) | (go_at_call 64; refine (ceilDiv_cd _ _ _ (by omega) (by omega) (by omega)).mono ?_; rintro e w' ⟨rfl, rfl⟩))
      go_ret2
      exact ⟨rfl, rfl⟩
  · have hy : alY t g = 0 := by simp [alY, hc]
    rw [hy]
    have b0 : cdV 0 d = 0 := by simp [cdV]
    rw [b0, if_pos (by omega)]
    go_enter Try.func30, Try.ntmps30
    go_wp2_with (first | (go_at_call 63; refine (isElapsed_any _ _).mono ?_; rintro e w' ⟨rfl, rfl⟩) | (go_at_call 55; refine (isDistance_any _ _).mono ?_; rintro e w' ⟨rfl, rfl⟩) | (go_at_call 64; refine (ceilDiv_cd _ _ _ (by omega) (by omega) (by omega)).mono ?_; rintro e w' ⟨rfl, rfl⟩))
    go_ret2
    exact ⟨rfl, rfl⟩
theorem quiet_w2 {P : Program} {f : FuncId} {args : Array Value} {w : World} {n k : Nat} {v : Value}
    (h : Calls P f args (w.drewN (n + k)) fun e w' => e = .returned v ∧ w.drewN (n + k) = w') : Calls P f args (w.drewN (n + k)) fun e w'' => e = .returned v ∧ ∃ m, w'' = w.drewN (n + m) :=
  h.mono fun _ _ ⟨he, hm⟩ => ⟨he, k, hm.symm⟩
end Go.Proofs.Ytbmclcajgplpnaa
