/- Contracts of the arithmetic functions of layers 21 to 23: the program's and the reference's return one value. -/
import Derived.Test.YtcjeeampjhcljaaDoorBase
namespace Go.Proofs.YtcjeeampjhcljaaDoor
open Go.RowKit

theorem mul_bd {a b A B : Int} (a0 : 0 ≤ a) (aA : a ≤ A) (b0 : 0 ≤ b) (bB : b ≤ B) : 0 ≤ a * b ∧ a * b ≤ A * B :=
  ⟨Int.mul_nonneg a0 b0, Int.mul_le_mul aA bB b0 (by omega)⟩

def ppV (b p : Int) : Int := if inB b 1 16 && inB p 1 100 then (20 * b * p + 100) / 200 else -1
set_option maxHeartbeats 1000000 in
theorem percentPoints_any (b p : Int) (w : World) :
    Calls Tryd.prog 10 #[.int .i64 b, .int .i64 p] w fun e w' => e = .returned (.int .i64 (ppV b p)) ∧ w = w' := by
  cases h0 : inB b 1 16 with
  | false =>
    have e1 : ppV b p = -1 := by simp [ppV, h0]
    rw [e1]
    clear e1
    go_enter Tryd.func10, Tryd.ntmps10
    go_wp2_with (first | (go_at_call 17; refine (within_any _ _ _ _).mono ?_; rintro e w' ⟨rfl, rfl⟩) | (go_at_call 24; go_in))
    go_ret
    exact ⟨rfl, rfl⟩
  | true =>
    cases h1 : inB p 1 100 with
    | false =>
      have e1 : ppV b p = -1 := by simp [ppV, h0, h1]
      rw [e1]
      clear e1
      go_enter Tryd.func10, Tryd.ntmps10
      go_wp2_with (first | (go_at_call 17; refine (within_any _ _ _ _).mono ?_; rintro e w' ⟨rfl, rfl⟩) | (go_at_call 24; go_in))
      go_ret
      exact ⟨rfl, rfl⟩
    | true =>
      obtain ⟨l0, u0⟩ := inB_t h0
      obtain ⟨l1, u1⟩ := inB_t h1
      have m := mul_bd (A := 320) (B := 100) (show 0 ≤ 20 * b by omega) (by omega) (show 0 ≤ p by omega) u1
      obtain ⟨m0, m1⟩ := m
      have e1 : ppV b p = (20 * b * p + 100) / 200 := by simp [ppV, h0, h1]
      rw [e1]
      clear e1
      go_enter Tryd.func10, Tryd.ntmps10
      go_wp2_with (first | (go_at_call 17; refine (within_any _ _ _ _).mono ?_; rintro e w' ⟨rfl, rfl⟩) | (go_at_call 24; go_in))
      go_ret
      exact ⟨rfl, rfl⟩
set_option maxHeartbeats 1000000 in
theorem sPercentPoints_any (b p : Int) (w : World) :
    Calls Tryd.prog 12 #[.int .i64 b, .int .i64 p] w fun e w' => e = .returned (.int .i64 (ppV b p)) ∧ w = w' := by
  cases h0 : inB b 1 16 with
  | false =>
    have e1 : ppV b p = -1 := by simp [ppV, h0]
    rw [e1]
    clear e1
    go_enter Tryd.func12, Tryd.ntmps12
    go_wp2_with (first | (go_at_call 13; refine (l01In_any _ _ _ _).mono ?_; rintro e w' ⟨rfl, rfl⟩) | (go_at_call 26; go_in))
    go_ret
    exact ⟨rfl, rfl⟩
  | true =>
    cases h1 : inB p 1 100 with
    | false =>
      have e1 : ppV b p = -1 := by simp [ppV, h0, h1]
      rw [e1]
      clear e1
      go_enter Tryd.func12, Tryd.ntmps12
      go_wp2_with (first | (go_at_call 13; refine (l01In_any _ _ _ _).mono ?_; rintro e w' ⟨rfl, rfl⟩) | (go_at_call 26; go_in))
      go_ret
      exact ⟨rfl, rfl⟩
    | true =>
      obtain ⟨l0, u0⟩ := inB_t h0
      obtain ⟨l1, u1⟩ := inB_t h1
      have m := mul_bd (A := 320) (B := 100) (show 0 ≤ 20 * b by omega) (by omega) (show 0 ≤ p by omega) u1
      obtain ⟨m0, m1⟩ := m
      have e1 : ppV b p = (20 * b * p + 100) / 200 := by simp [ppV, h0, h1]
      rw [e1]
      clear e1
      go_enter Tryd.func12, Tryd.ntmps12
      go_wp2_with (first | (go_at_call 13; refine (l01In_any _ _ _ _).mono ?_; rintro e w' ⟨rfl, rfl⟩) | (go_at_call 26; go_in))
      go_ret
      exact ⟨rfl, rfl⟩
def atV (a d : Int) : Int × Int := if inB a 0 1000000 && inB d 1 10000000 then (a * d / 10000, 0) else (0, 2)
def tgV (a b d : Int) : Int × Int := if inB a 0 1000000 && inB b 0 1000000 && inB d 1 10000000 then (b * d / 10000 - a * d / 10000, 0) else (0, 2)

theorem ret_int {k : IntKind} {a b : Int} (h : a = b) : Ending.returned (.int k a) = .returned (.int k b) := by rw [h]
theorem ret_int2 {k l : IntKind} {a b c d : Int} (h : a = b) (h' : c = d) : Ending.returned (.tuple #[.int k a, .int l c]) = .returned (.tuple #[.int k b, .int l d]) := by rw [h, h']

def corV (t f : Int) : Int := max 1 (min 1000000000 ((t * f + 500) / 1000))
theorem corV_bd (t f : Int) : 1 ≤ corV t f ∧ corV t f ≤ 1000000000 := by unfold corV; omega
theorem corV_mono (t f g : Int) (h : 0 ≤ t) (hfg : f ≤ g) : corV t f ≤ corV t g := by
  have : t * f ≤ t * g := Int.mul_le_mul_of_nonneg_left hfg h
  unfold corV; omega

def sgn (n : Int) : Int := if n < 0 then -1 else if 0 < n then 1 else 0
theorem sgn_eq (n : Int) : sgn n = max (-1) (min 1 n) := by unfold sgn; split <;> (try split) <;> omega
theorem sgn_bd (n : Int) : -1 ≤ sgn n ∧ sgn n ≤ 1 := by rw [sgn_eq]; omega
theorem tdiv_floor (a b : Int) (hb : 1 ≤ b) (h : 0 ≤ a.tmod b) : a.tdiv b = a / b := by
  have h1 := Int.tdiv_mul_add_tmod a b
  have h2 := Int.tmod_lt_of_pos a (show 0 < b by omega)
  exact (Int.ediv_emod_unique (a := a) (b := b) (r := a.tmod b) (q := a.tdiv b) (by omega)).2 ⟨by rw [Int.mul_comm] at h1; omega, h, h2⟩ |>.1.symm
theorem tdiv_floor' (a b : Int) (hb : 1 ≤ b) (h : a.tmod b < 0) : a.tdiv b - 1 = a / b := by
  have h1 := Int.tdiv_mul_add_tmod a b
  have h2 := Int.lt_tmod_of_pos a (show 0 < b by omega)
  refine (Int.ediv_emod_unique (a := a) (b := b) (r := a.tmod b + b) (q := a.tdiv b - 1) (by omega)).2 ⟨?_, by omega, by omega⟩ |>.1.symm
  rw [Int.mul_sub, Int.mul_comm b]; omega
theorem ediv_bd (a b A : Int) (hb : 1 ≤ b) (hA : 0 ≤ A) (l : -A ≤ a) (u : a ≤ A) : -A ≤ a / b ∧ a / b ≤ A := by
  constructor
  · rw [Int.le_ediv_iff_mul_le (by omega)]
    have : -A * b ≤ -A * 1 := Int.mul_le_mul_of_nonpos_left (by omega) hb
    omega
  · have : a / b < A + 1 := by
      rw [Int.ediv_lt_iff_lt_mul (by omega)]
      have : (A + 1) * 1 ≤ (A + 1) * b := Int.mul_le_mul_of_nonneg_left hb (by omega)
      omega
    omega
def dcV (t a d : Int) : Int := max 1 (t - a * d / 10000)
theorem dcV_bd (t a d : Int) (l0 : 1 ≤ t) (h : 0 ≤ a * d) : 1 ≤ dcV t a d ∧ dcV t a d ≤ t := by unfold dcV; omega

def ctV (t f : Int) : Int × Int := if inB t 1 1000000000 && inB f 1 3000 then (corV t f, 0) else (0, 2)
def dctV (t a d : Int) : Int × Int := if inB t 1 1000000000 && inB a 0 1000000 && inB d 1 10000000 then (dcV t a d, 0) else (0, 2)
def cmpV (t f t2 f2 : Int) : Int × Int := if inB t 1 1000000000 && inB f 1 3000 && inB t2 1 1000000000 && inB f2 1 3000 then (sgn (t * f - t2 * f2), 0) else (0, 2)

def tbV (t f o : Int) : Int × Int := if inB t 1 1000000000 && inB f 1 3000 && inB o 1 3000 then (if (t * f - 1) / o < 1 then (0, 4) else (min 1000000000 ((t * f - 1) / o), 0)) else (0, 2)

end Go.Proofs.YtcjeeampjhcljaaDoor
