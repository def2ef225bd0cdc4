/- Contracts of the arithmetic functions of layers 21 to 23: the program's and the reference's return one value. -/
import Derived.Test.YtpligajegdaidaaBase
namespace Go.Proofs.Ytpligajegdaidaa
open Go.RowKit

theorem mul_bd {a b A B : Int} (a0 : 0 ≤ a) (aA : a ≤ A) (b0 : 0 ≤ b) (bB : b ≤ B) : 0 ≤ a * b ∧ a * b ≤ A * B :=
  ⟨Int.mul_nonneg a0 b0, Int.mul_le_mul aA bB b0 (by omega)⟩

def ppV (b p : Int) : Int := if inB b 1 16 && inB p 1 100 then (20 * b * p + 100) / 200 else -1
set_option maxHeartbeats 1000000 in
theorem percentPoints_any (b p : Int) (w : World) :
    Calls Try.prog 18 #[.int .i64 b, .int .i64 p] w fun e w' => e = .returned (.int .i64 (ppV b p)) ∧ w = w' := by
  cases h0 : inB b 1 16 with
  | false =>
    have e1 : ppV b p = -1 := by simp [ppV, h0]
    rw [e1]
    clear e1
    go_enter Try.func18, Try.ntmps18
    go_wp2_with (first | (go_at_call 45; refine (within_any _ _ _ _).mono ?_; rintro e w' ⟨rfl, rfl⟩) | (go_at_call 46; go_in))
    go_ret
    exact ⟨rfl, rfl⟩
  | true =>
    cases h1 : inB p 1 100 with
    | false =>
      have e1 : ppV b p = -1 := by simp [ppV, h0, h1]
      rw [e1]
      clear e1
      go_enter Try.func18, Try.ntmps18
      go_wp2_with (first | (go_at_call 45; refine (within_any _ _ _ _).mono ?_; rintro e w' ⟨rfl, rfl⟩) | (go_at_call 46; go_in))
      go_ret
      exact ⟨rfl, rfl⟩
    | true =>
      obtain ⟨l0, u0⟩ := inB_t h0
      obtain ⟨l1, u1⟩ := inB_t h1
      have m := mul_bd (A := 320) (B := 100) (show 0 ≤ 20 * b by omega) (by omega) (show 0 ≤ p by omega) u1
      obtain ⟨m0, m1⟩ := m
      have e1 : ppV b p = (20 * b * p + 100) / 200 := by simp [ppV, h0, h1]
      rw [e1]
      clear e1
      go_enter Try.func18, Try.ntmps18
      go_wp2_with (first | (go_at_call 45; refine (within_any _ _ _ _).mono ?_; rintro e w' ⟨rfl, rfl⟩) | (go_at_call 46; go_in))
      go_ret
      exact ⟨rfl, rfl⟩
set_option maxHeartbeats 1000000 in
theorem sPercentPoints_any (b p : Int) (w : World) :
    Calls Try.prog 17 #[.int .i64 b, .int .i64 p] w fun e w' => e = .returned (.int .i64 (ppV b p)) ∧ w = w' := by
  cases h0 : inB b 1 16 with
  | false =>
    have e1 : ppV b p = -1 := by simp [ppV, h0]
    rw [e1]
    clear e1
    go_enter Try.func17, Try.ntmps17
    go_wp2_with (first | (go_at_call 43; refine (l01In_any _ _ _ _).mono ?_; rintro e w' ⟨rfl, rfl⟩) | (go_at_call 44; go_in))
    go_ret
    exact ⟨rfl, rfl⟩
  | true =>
    cases h1 : inB p 1 100 with
    | false =>
      have e1 : ppV b p = -1 := by simp [ppV, h0, h1]
      rw [e1]
      clear e1
      go_enter Try.func17, Try.ntmps17
      go_wp2_with (first | (go_at_call 43; refine (l01In_any _ _ _ _).mono ?_; rintro e w' ⟨rfl, rfl⟩) | (go_at_call 44; go_in))
      go_ret
      exact ⟨rfl, rfl⟩
    | true =>
      obtain ⟨l0, u0⟩ := inB_t h0
      obtain ⟨l1, u1⟩ := inB_t h1
      have m := mul_bd (A := 320) (B := 100) (show 0 ≤ 20 * b by omega) (by omega) (show 0 ≤ p by omega) u1
      obtain ⟨m0, m1⟩ := m
      have e1 : ppV b p = (20 * b * p + 100) / 200 := by simp [ppV, h0, h1]
      rw [e1]
      clear e1
      go_enter Try.func17, Try.ntmps17
      go_wp2_with (first | (go_at_call 43; refine (l01In_any _ _ _ _).mono ?_; rintro e w' ⟨rfl, rfl⟩) | (go_at_call 44; go_in))
      go_ret
      exact ⟨rfl, rfl⟩
def atV (a d : Int) : Int × Int := if inB a 0 1000000 && inB d 1 10000000 then (a * d / 10000, 0) else (0, 2)
set_option maxHeartbeats 1000000 in
theorem allowedTime_any (a d : Int) (w : World) :
    Calls Try.prog 20 #[.int .i64 a, .int .i64 d] w fun e w' => e = .returned (.tuple #[.int .i64 (atV a d).1, .int .i64 (atV a d).2]) ∧ w = w' := by
  cases h0 : inB a 0 1000000 with
  | false =>
    have e1 : atV a d = (0, 2) := by simp [atV, h0]
    rw [e1]
    clear e1
    go_enter Try.func20, Try.ntmps20
    go_wp2_with (first | (go_at_call 50; refine (isAllowance_any _ _).mono ?_; rintro e w' ⟨rfl, rfl⟩) | (go_at_call 51; refine (isDistance_any _ _).mono ?_; rintro e w' ⟨rfl, rfl⟩) | (go_at_call 52; go_in))
    go_ret2
    exact ⟨rfl, rfl⟩
  | true =>
    cases h1 : inB d 1 10000000 with
    | false =>
      have e1 : atV a d = (0, 2) := by simp [atV, h0, h1]
      rw [e1]
      clear e1
      go_enter Try.func20, Try.ntmps20
      go_wp2_with (first | (go_at_call 50; refine (isAllowance_any _ _).mono ?_; rintro e w' ⟨rfl, rfl⟩) | (go_at_call 51; refine (isDistance_any _ _).mono ?_; rintro e w' ⟨rfl, rfl⟩) | (go_at_call 52; go_in))
      go_ret2
      exact ⟨rfl, rfl⟩
    | true =>
      obtain ⟨l0, u0⟩ := inB_t h0
      obtain ⟨l1, u1⟩ := inB_t h1
      have m := mul_bd (A := 1000000) (B := 10000000) l0 u0 (show 0 ≤ d by omega) u1
      obtain ⟨m0, m1⟩ := m
      have e1 : atV a d = (a * d / 10000, 0) := by simp [atV, h0, h1]
      rw [e1]
      clear e1
      go_enter Try.func20, Try.ntmps20
      go_wp2_with (first | (go_at_call 50; refine (isAllowance_any _ _).mono ?_; rintro e w' ⟨rfl, rfl⟩) | (go_at_call 51; refine (isDistance_any _ _).mono ?_; rintro e w' ⟨rfl, rfl⟩) | (go_at_call 52; go_in))
      go_ret2
      exact ⟨rfl, rfl⟩
set_option maxHeartbeats 1000000 in
theorem sAllowedTime_any (a d : Int) (w : World) :
    Calls Try.prog 19 #[.int .i64 a, .int .i64 d] w fun e w' => e = .returned (.tuple #[.int .i64 (atV a d).1, .int .i64 (atV a d).2]) ∧ w = w' := by
  cases h0 : inB a 0 1000000 with
  | false =>
    have e1 : atV a d = (0, 2) := by simp [atV, h0]
    rw [e1]
    clear e1
    go_enter Try.func19, Try.ntmps19
    go_wp2_with (first | (go_at_call 47; refine (l23Allowance_any _ _).mono ?_; rintro e w' ⟨rfl, rfl⟩) | (go_at_call 48; refine (l23Distance_any _ _).mono ?_; rintro e w' ⟨rfl, rfl⟩) | (go_at_call 49; go_in))
    go_ret2
    exact ⟨rfl, rfl⟩
  | true =>
    cases h1 : inB d 1 10000000 with
    | false =>
      have e1 : atV a d = (0, 2) := by simp [atV, h0, h1]
      rw [e1]
      clear e1
      go_enter Try.func19, Try.ntmps19
      go_wp2_with (first | (go_at_call 47; refine (l23Allowance_any _ _).mono ?_; rintro e w' ⟨rfl, rfl⟩) | (go_at_call 48; refine (l23Distance_any _ _).mono ?_; rintro e w' ⟨rfl, rfl⟩) | (go_at_call 49; go_in))
      go_ret2
      exact ⟨rfl, rfl⟩
    | true =>
      obtain ⟨l0, u0⟩ := inB_t h0
      obtain ⟨l1, u1⟩ := inB_t h1
      have m := mul_bd (A := 1000000) (B := 10000000) l0 u0 (show 0 ≤ d by omega) u1
      obtain ⟨m0, m1⟩ := m
      have e1 : atV a d = (a * d / 10000, 0) := by simp [atV, h0, h1]
      rw [e1]
      clear e1
      go_enter Try.func19, Try.ntmps19
      go_wp2_with (first | (go_at_call 47; refine (l23Allowance_any _ _).mono ?_; rintro e w' ⟨rfl, rfl⟩) | (go_at_call 48; refine (l23Distance_any _ _).mono ?_; rintro e w' ⟨rfl, rfl⟩) | (go_at_call 49; go_in))
      go_ret2
      exact ⟨rfl, rfl⟩
def tgV (a b d : Int) : Int × Int := if inB a 0 1000000 && inB b 0 1000000 && inB d 1 10000000 then (b * d / 10000 - a * d / 10000, 0) else (0, 2)
set_option maxHeartbeats 1000000 in
theorem timeGiven_any (a b d : Int) (w : World) :
    Calls Try.prog 24 #[.int .i64 a, .int .i64 b, .int .i64 d] w fun e w' => e = .returned (.tuple #[.int .i64 (tgV a b d).1, .int .i64 (tgV a b d).2]) ∧ w = w' := by
  cases h0 : inB a 0 1000000 with
  | false =>
    have e1 : tgV a b d = (0, 2) := by simp [tgV, h0]
    rw [e1]
    clear e1
    go_enter Try.func24, Try.ntmps24
    go_wp2_with (first | (go_at_call 50; refine (isAllowance_any _ _).mono ?_; rintro e w' ⟨rfl, rfl⟩) | (go_at_call 51; refine (isDistance_any _ _).mono ?_; rintro e w' ⟨rfl, rfl⟩) | (go_at_call 52; go_in))
    go_ret2
    exact ⟨rfl, rfl⟩
  | true =>
    cases h1 : inB b 0 1000000 with
    | false =>
      have e1 : tgV a b d = (0, 2) := by simp [tgV, h0, h1]
      rw [e1]
      clear e1
      go_enter Try.func24, Try.ntmps24
      go_wp2_with (first | (go_at_call 50; refine (isAllowance_any _ _).mono ?_; rintro e w' ⟨rfl, rfl⟩) | (go_at_call 51; refine (isDistance_any _ _).mono ?_; rintro e w' ⟨rfl, rfl⟩) | (go_at_call 52; go_in))
      go_ret2
      exact ⟨rfl, rfl⟩
    | true =>
      cases h2 : inB d 1 10000000 with
      | false =>
        have e1 : tgV a b d = (0, 2) := by simp [tgV, h0, h1, h2]
        rw [e1]
        clear e1
        go_enter Try.func24, Try.ntmps24
        go_wp2_with (first | (go_at_call 50; refine (isAllowance_any _ _).mono ?_; rintro e w' ⟨rfl, rfl⟩) | (go_at_call 51; refine (isDistance_any _ _).mono ?_; rintro e w' ⟨rfl, rfl⟩) | (go_at_call 52; go_in))
        go_ret2
        exact ⟨rfl, rfl⟩
      | true =>
        obtain ⟨l0, u0⟩ := inB_t h0
        obtain ⟨l1, u1⟩ := inB_t h1
        obtain ⟨l2, u2⟩ := inB_t h2
        have m := mul_bd (A := 1000000) (B := 10000000) l0 u0 (show 0 ≤ d by omega) u2
        obtain ⟨m0, m1⟩ := m
        have n := mul_bd (A := 1000000) (B := 10000000) l1 u1 (show 0 ≤ d by omega) u2
        obtain ⟨n0, n1⟩ := n
        have e1 : tgV a b d = (b * d / 10000 - a * d / 10000, 0) := by simp [tgV, h0, h1, h2]
        rw [e1]
        clear e1
        go_enter Try.func24, Try.ntmps24
        go_wp2_with (first | (go_at_call 50; refine (isAllowance_any _ _).mono ?_; rintro e w' ⟨rfl, rfl⟩) | (go_at_call 51; refine (isDistance_any _ _).mono ?_; rintro e w' ⟨rfl, rfl⟩) | (go_at_call 52; go_in))
        go_ret2
        exact ⟨rfl, rfl⟩
set_option maxHeartbeats 1000000 in
theorem sTimeGiven_any (a b d : Int) (w : World) :
    Calls Try.prog 23 #[.int .i64 a, .int .i64 b, .int .i64 d] w fun e w' => e = .returned (.tuple #[.int .i64 (tgV a b d).1, .int .i64 (tgV a b d).2]) ∧ w = w' := by
  cases h0 : inB a 0 1000000 with
  | false =>
    have e1 : tgV a b d = (0, 2) := by simp [tgV, h0]
    rw [e1]
    clear e1
    go_enter Try.func23, Try.ntmps23
    go_wp2_with (first | (go_at_call 47; refine (l23Allowance_any _ _).mono ?_; rintro e w' ⟨rfl, rfl⟩) | (go_at_call 48; refine (l23Distance_any _ _).mono ?_; rintro e w' ⟨rfl, rfl⟩) | (go_at_call 49; go_in))
    go_ret2
    exact ⟨rfl, rfl⟩
  | true =>
    cases h1 : inB b 0 1000000 with
    | false =>
      have e1 : tgV a b d = (0, 2) := by simp [tgV, h0, h1]
      rw [e1]
      clear e1
      go_enter Try.func23, Try.ntmps23
      go_wp2_with (first | (go_at_call 47; refine (l23Allowance_any _ _).mono ?_; rintro e w' ⟨rfl, rfl⟩) | (go_at_call 48; refine (l23Distance_any _ _).mono ?_; rintro e w' ⟨rfl, rfl⟩) | (go_at_call 49; go_in))
      go_ret2
      exact ⟨rfl, rfl⟩
    | true =>
      cases h2 : inB d 1 10000000 with
      | false =>
        have e1 : tgV a b d = (0, 2) := by simp [tgV, h0, h1, h2]
        rw [e1]
        clear e1
        go_enter Try.func23, Try.ntmps23
        go_wp2_with (first | (go_at_call 47; refine (l23Allowance_any _ _).mono ?_; rintro e w' ⟨rfl, rfl⟩) | (go_at_call 48; refine (l23Distance_any _ _).mono ?_; rintro e w' ⟨rfl, rfl⟩) | (go_at_call 49; go_in))
        go_ret2
        exact ⟨rfl, rfl⟩
      | true =>
        obtain ⟨l0, u0⟩ := inB_t h0
        obtain ⟨l1, u1⟩ := inB_t h1
        obtain ⟨l2, u2⟩ := inB_t h2
        have m := mul_bd (A := 1000000) (B := 10000000) l0 u0 (show 0 ≤ d by omega) u2
        obtain ⟨m0, m1⟩ := m
        have n := mul_bd (A := 1000000) (B := 10000000) l1 u1 (show 0 ≤ d by omega) u2
        obtain ⟨n0, n1⟩ := n
        have e1 : tgV a b d = (b * d / 10000 - a * d / 10000, 0) := by simp [tgV, h0, h1, h2]
        rw [e1]
        clear e1
        go_enter Try.func23, Try.ntmps23
        go_wp2_with (first | (go_at_call 47; refine (l23Allowance_any _ _).mono ?_; rintro e w' ⟨rfl, rfl⟩) | (go_at_call 48; refine (l23Distance_any _ _).mono ?_; rintro e w' ⟨rfl, rfl⟩) | (go_at_call 49; go_in))
        go_ret2
        exact ⟨rfl, rfl⟩

theorem ret_int {k : IntKind} {a b : Int} (h : a = b) : Ending.returned (.int k a) = .returned (.int k b) := by rw [h]
theorem ret_int2 {k l : IntKind} {a b c d : Int} (h : a = b) (h' : c = d) : Ending.returned (.tuple #[.int k a, .int l c]) = .returned (.tuple #[.int k b, .int l d]) := by rw [h, h']

def corV (t f : Int) : Int := max 1 (min 1000000000 ((t * f + 500) / 1000))
theorem corV_bd (t f : Int) : 1 ≤ corV t f ∧ corV t f ≤ 1000000000 := by unfold corV; omega
theorem corV_mono (t f g : Int) (h : 0 ≤ t) (hfg : f ≤ g) : corV t f ≤ corV t g := by
  have : t * f ≤ t * g := Int.mul_le_mul_of_nonneg_left hfg h
  unfold corV; omega

theorem corrected_any (t f : Int) (w : World) (l0 : 1 ≤ t) (u0 : t ≤ 1000000000) (l1 : 1 ≤ f) (u1 : f ≤ 3000) :
    Calls Try.prog 58 #[.int .i64 t, .int .i64 f] w fun e w' => e = .returned (.int .i64 (corV t f)) ∧ w = w' := by
  have m := mul_bd (A := 1000000000) (B := 3000) (show 0 ≤ t by omega) (by omega) (show 0 ≤ f by omega) u1
  obtain ⟨m0, m1⟩ := m
  have e1 : corV t f = max 1 (min 1000000000 ((2 * t * f + 1000) / 2000)) := by
    have : 2 * t * f = 2 * (t * f) := by rw [Int.mul_assoc]
    unfold corV; rw [this]; omega
  have m := mul_bd (A := 2000000000) (B := 3000) (show 0 ≤ 2 * t by omega) (by omega) (show 0 ≤ f by omega) u1
  obtain ⟨m2, m3⟩ := m
  have e2 := Lib.hid e1
  clear e1
  go_enter Try.func58, Try.ntmps58
  go_wp2
  all_goals (go_ret; exact ⟨ret_int (by rw [e2.out]; omega), rfl⟩)
theorem l22corrected_any (t f : Int) (w : World) (l0 : 1 ≤ t) (u0 : t ≤ 1000000000) (l1 : 1 ≤ f) (u1 : f ≤ 3000) :
    Calls Try.prog 55 #[.int .i64 t, .int .i64 f] w fun e w' => e = .returned (.int .i64 (corV t f)) ∧ w = w' := by
  have m := mul_bd (A := 1000000000) (B := 3000) (show 0 ≤ t by omega) (by omega) (show 0 ≤ f by omega) u1
  obtain ⟨m0, m1⟩ := m
  go_enter Try.func55, Try.ntmps55
  go_wp2
  all_goals (go_ret; exact ⟨ret_int (by unfold corV; omega), rfl⟩)
def sgn (n : Int) : Int := if n < 0 then -1 else if 0 < n then 1 else 0
theorem sgn_eq (n : Int) : sgn n = max (-1) (min 1 n) := by unfold sgn; split <;> (try split) <;> omega
theorem sgn_bd (n : Int) : -1 ≤ sgn n ∧ sgn n ≤ 1 := by rw [sgn_eq]; omega
theorem sign_any (n : Int) (w : World) :
    Calls Try.prog 60 #[.int .i64 n] w fun e w' => e = .returned (.int .i64 (sgn n)) ∧ w = w' := by
  go_enter Try.func60, Try.ntmps60
  go_wp2
  all_goals (go_ret; exact ⟨ret_int (by rw [sgn_eq]; omega), rfl⟩)
theorem tdiv_floor (a b : Int) (hb : 1 ≤ b) (h : 0 ≤ a.tmod b) : a.tdiv b = a / b := by
  have h1 := Int.tdiv_mul_add_tmod a b
  have h2 := Int.tmod_lt_of_pos a (show 0 < b by omega)
  exact (Int.ediv_emod_unique (a := a) (b := b) (r := a.tmod b) (q := a.tdiv b) (by omega)).2 ⟨by rw [Int.mul_comm] at h1; omega, h, h2⟩ |>.1.symm
theorem tdiv_floor' (a b : Int) (hb : 1 ≤ b) (h : a.tmod b < 0) : a.tdiv b - 1 = a / b := by
  have h1 := Int.tdiv_mul_add_tmod a b
  have h2 := Int.lt_tmod_of_pos a (show 0 < b by omega)
  refine (Int.ediv_emod_unique (a := a) (b := b) (r := a.tmod b + b) (q := a.tdiv b - 1) (by omega)).2 ⟨?_, by omega, by omega⟩ |>.1.symm
  rw [Int.mul_sub, Int.mul_comm b]; omega
theorem ediv_bd (a b A : Int) (hb : 1 ≤ b) (hA : 0 ≤ A) (l : -A ≤ a) (u : a ≤ A) : -A ≤ a / b ∧ a / b ≤ A := by
  constructor
  · rw [Int.le_ediv_iff_mul_le (by omega)]
    have : -A * b ≤ -A * 1 := Int.mul_le_mul_of_nonpos_left (by omega) hb
    omega
  · have : a / b < A + 1 := by
      rw [Int.ediv_lt_iff_lt_mul (by omega)]
      have : (A + 1) * 1 ≤ (A + 1) * b := Int.mul_le_mul_of_nonneg_left hb (by omega)
      omega
    omega
theorem floorDiv_any (a b : Int) (w : World) (l0 : -1000000000000000000 ≤ a) (u0 : a ≤ 1000000000000000000) (l1 : 1 ≤ b) :
    Calls Try.prog 70 #[.int .i64 a, .int .i64 b] w fun e w' => e = .returned (.int .i64 (a / b)) ∧ w = w' := by
  have ⟨d0, d1⟩ := ediv_bd a b 1000000000000000000 l1 (by omega) l0 u0
  by_cases h : 0 ≤ a.tmod b
  · have e1 := tdiv_floor a b l1 h
    rw [← e1]
    clear e1
    go_enter Try.func70, Try.ntmps70
    go_wp2
    go_ret
    exact ⟨rfl, rfl⟩
  · have e1 := tdiv_floor' a b l1 (by omega)
    rw [← e1] at d0 d1 ⊢
    clear e1
    go_enter Try.func70, Try.ntmps70
    go_wp2
    go_ret
    exact ⟨rfl, rfl⟩
theorem ceilDiv_any (a b : Int) (w : World) (l0 : -1000000000000000000 ≤ a) (u0 : a ≤ 1000000000000000000) (l1 : 1 ≤ b) :
    Calls Try.prog 63 #[.int .i64 a, .int .i64 b] w fun e w' => e = .returned (.int .i64 (-((-a) / b))) ∧ w = w' := by
  have ⟨d0, d1⟩ := ediv_bd (-a) b 1000000000000000000 l1 (by omega) (by omega) (by omega)
  go_enter Try.func63, Try.ntmps63
  go_wp2_with (go_at_call 70; refine (floorDiv_any _ _ _ (by omega) (by omega) (by omega)).mono ?_; rintro e w' ⟨rfl, rfl⟩)
  go_ret
  exact ⟨rfl, rfl⟩
theorem l22Compare_any (t f t2 f2 : Int) (w : World) (m0 : 0 ≤ t * f) (m1 : t * f ≤ 1000000000 * 3000) (n0 : 0 ≤ t2 * f2) (n1 : t2 * f2 ≤ 1000000000 * 3000) :
    Calls Try.prog 59 #[.int .i64 t, .int .i64 f, .int .i64 t2, .int .i64 f2] w fun e w' => e = .returned (.int .i64 (sgn (t * f - t2 * f2))) ∧ w = w' := by
  go_enter Try.func59, Try.ntmps59
  go_wp2
  all_goals (go_ret; exact ⟨ret_int (by rw [sgn_eq]; omega), rfl⟩)
def dcV (t a d : Int) : Int := max 1 (t - a * d / 10000)
theorem dcV_bd (t a d : Int) (l0 : 1 ≤ t) (h : 0 ≤ a * d) : 1 ≤ dcV t a d ∧ dcV t a d ≤ t := by unfold dcV; omega
theorem correctedBy_any (t a d : Int) (w : World) (l0 : 1 ≤ t) (u0 : t ≤ 1000000000) (l1 : 0 ≤ a) (u1 : a ≤ 1000000) (l2 : 1 ≤ d) (u2 : d ≤ 10000000) :
    Calls Try.prog 62 #[.int .i64 t, .int .i64 a, .int .i64 d] w fun e w' => e = .returned (.int .i64 (dcV t a d)) ∧ w = w' := by
  have m := mul_bd (A := 1000000) (B := 10000000) l1 u1 (show 0 ≤ d by omega) u2
  obtain ⟨m0, m1⟩ := m
  go_enter Try.func62, Try.ntmps62
  go_wp2
  all_goals (go_ret; exact ⟨ret_int (by unfold dcV; omega), rfl⟩)
theorem l23Corrected_any (t a d : Int) (w : World) (l0 : 1 ≤ t) (u0 : t ≤ 1000000000) (l1 : 0 ≤ a) (u1 : a ≤ 1000000) (l2 : 1 ≤ d) (u2 : d ≤ 10000000) :
    Calls Try.prog 61 #[.int .i64 t, .int .i64 a, .int .i64 d] w fun e w' => e = .returned (.int .i64 (dcV t a d)) ∧ w = w' := by
  have m := mul_bd (A := 1000000) (B := 10000000) l1 u1 (show 0 ≤ d by omega) u2
  obtain ⟨m0, m1⟩ := m
  go_enter Try.func61, Try.ntmps61
  go_wp2
  all_goals (go_ret; exact ⟨ret_int (by unfold dcV; omega), rfl⟩)

def ctV (t f : Int) : Int × Int := if inB t 1 1000000000 && inB f 1 3000 then (corV t f, 0) else (0, 2)
set_option maxHeartbeats 1000000 in
theorem correctedTime_any (t f : Int) (w : World) :
    Calls Try.prog 22 #[.int .i64 t, .int .i64 f] w fun e w' => e = .returned (.tuple #[.int .i64 (ctV t f).1, .int .i64 (ctV t f).2]) ∧ w = w' := by
  cases h0 : inB t 1 1000000000 with
  | false =>
    have e1 : ctV t f = (0, 2) := by simp [ctV, h0]
    rw [e1]
    clear e1
    go_enter Try.func22, Try.ntmps22
    go_wp2_with (first | (go_at_call 56; refine (isElapsed_any _ _).mono ?_; rintro e w' ⟨rfl, rfl⟩) | (go_at_call 57; refine (isFactor_any _ _).mono ?_; rintro e w' ⟨rfl, rfl⟩) | (go_at_call 58; refine (corrected_any _ _ _ (by omega) (by omega) (by omega) (by omega)).mono ?_; rintro e w' ⟨rfl, rfl⟩))
    go_ret2
    exact ⟨rfl, rfl⟩
  | true =>
    cases h1 : inB f 1 3000 with
    | false =>
      have e1 : ctV t f = (0, 2) := by simp [ctV, h0, h1]
      rw [e1]
      clear e1
      go_enter Try.func22, Try.ntmps22
      go_wp2_with (first | (go_at_call 56; refine (isElapsed_any _ _).mono ?_; rintro e w' ⟨rfl, rfl⟩) | (go_at_call 57; refine (isFactor_any _ _).mono ?_; rintro e w' ⟨rfl, rfl⟩) | (go_at_call 58; refine (corrected_any _ _ _ (by omega) (by omega) (by omega) (by omega)).mono ?_; rintro e w' ⟨rfl, rfl⟩))
      go_ret2
      exact ⟨rfl, rfl⟩
    | true =>
      obtain ⟨l0, u0⟩ := inB_t h0
      obtain ⟨l1, u1⟩ := inB_t h1
      have e1 : ctV t f = (corV t f, 0) := by simp [ctV, h0, h1]
      rw [e1]
      clear e1
      go_enter Try.func22, Try.ntmps22
      go_wp2_with (first | (go_at_call 56; refine (isElapsed_any _ _).mono ?_; rintro e w' ⟨rfl, rfl⟩) | (go_at_call 57; refine (isFactor_any _ _).mono ?_; rintro e w' ⟨rfl, rfl⟩) | (go_at_call 58; refine (corrected_any _ _ _ (by omega) (by omega) (by omega) (by omega)).mono ?_; rintro e w' ⟨rfl, rfl⟩))
      go_ret2
      exact ⟨rfl, rfl⟩
set_option maxHeartbeats 1000000 in
theorem sCorrectedTime_any (t f : Int) (w : World) :
    Calls Try.prog 21 #[.int .i64 t, .int .i64 f] w fun e w' => e = .returned (.tuple #[.int .i64 (ctV t f).1, .int .i64 (ctV t f).2]) ∧ w = w' := by
  cases h0 : inB t 1 1000000000 with
  | false =>
    have e1 : ctV t f = (0, 2) := by simp [ctV, h0]
    rw [e1]
    clear e1
    go_enter Try.func21, Try.ntmps21
    go_wp2_with (first | (go_at_call 53; refine (l22Time_any _ _).mono ?_; rintro e w' ⟨rfl, rfl⟩) | (go_at_call 54; refine (l22Factor_any _ _).mono ?_; rintro e w' ⟨rfl, rfl⟩) | (go_at_call 55; refine (l22corrected_any _ _ _ (by omega) (by omega) (by omega) (by omega)).mono ?_; rintro e w' ⟨rfl, rfl⟩))
    go_ret2
    exact ⟨rfl, rfl⟩
  | true =>
    cases h1 : inB f 1 3000 with
    | false =>
      have e1 : ctV t f = (0, 2) := by simp [ctV, h0, h1]
      rw [e1]
      clear e1
      go_enter Try.func21, Try.ntmps21
      go_wp2_with (first | (go_at_call 53; refine (l22Time_any _ _).mono ?_; rintro e w' ⟨rfl, rfl⟩) | (go_at_call 54; refine (l22Factor_any _ _).mono ?_; rintro e w' ⟨rfl, rfl⟩) | (go_at_call 55; refine (l22corrected_any _ _ _ (by omega) (by omega) (by omega) (by omega)).mono ?_; rintro e w' ⟨rfl, rfl⟩))
      go_ret2
      exact ⟨rfl, rfl⟩
    | true =>
      obtain ⟨l0, u0⟩ := inB_t h0
      obtain ⟨l1, u1⟩ := inB_t h1
      have e1 : ctV t f = (corV t f, 0) := by simp [ctV, h0, h1]
      rw [e1]
      clear e1
      go_enter Try.func21, Try.ntmps21
      go_wp2_with (first | (go_at_call 53; refine (l22Time_any _ _).mono ?_; rintro e w' ⟨rfl, rfl⟩) | (go_at_call 54; refine (l22Factor_any _ _).mono ?_; rintro e w' ⟨rfl, rfl⟩) | (go_at_call 55; refine (l22corrected_any _ _ _ (by omega) (by omega) (by omega) (by omega)).mono ?_; rintro e w' ⟨rfl, rfl⟩))
      go_ret2
      exact ⟨rfl, rfl⟩
def dctV (t a d : Int) : Int × Int := if inB t 1 1000000000 && inB a 0 1000000 && inB d 1 10000000 then (dcV t a d, 0) else (0, 2)
set_option maxHeartbeats 1000000 in
theorem distanceCorrected_any (t a d : Int) (w : World) :
    Calls Try.prog 30 #[.int .i64 t, .int .i64 a, .int .i64 d] w fun e w' => e = .returned (.tuple #[.int .i64 (dctV t a d).1, .int .i64 (dctV t a d).2]) ∧ w = w' := by
  cases h0 : inB t 1 1000000000 with
  | false =>
    have e1 : dctV t a d = (0, 2) := by simp [dctV, h0]
    rw [e1]
    clear e1
    go_enter Try.func30, Try.ntmps30
    go_wp2_with (first | (go_at_call 56; refine (isElapsed_any _ _).mono ?_; rintro e w' ⟨rfl, rfl⟩) | (go_at_call 50; refine (isAllowance_any _ _).mono ?_; rintro e w' ⟨rfl, rfl⟩) | (go_at_call 51; refine (isDistance_any _ _).mono ?_; rintro e w' ⟨rfl, rfl⟩) | (go_at_call 62; refine (correctedBy_any _ _ _ _ (by omega) (by omega) (by omega) (by omega) (by omega) (by omega)).mono ?_; rintro e w' ⟨rfl, rfl⟩))
    go_ret2
    exact ⟨rfl, rfl⟩
  | true =>
    cases h1 : inB a 0 1000000 with
    | false =>
      have e1 : dctV t a d = (0, 2) := by simp [dctV, h0, h1]
      rw [e1]
      clear e1
      go_enter Try.func30, Try.ntmps30
      go_wp2_with (first | (go_at_call 56; refine (isElapsed_any _ _).mono ?_; rintro e w' ⟨rfl, rfl⟩) | (go_at_call 50; refine (isAllowance_any _ _).mono ?_; rintro e w' ⟨rfl, rfl⟩) | (go_at_call 51; refine (isDistance_any _ _).mono ?_; rintro e w' ⟨rfl, rfl⟩) | (go_at_call 62; refine (correctedBy_any _ _ _ _ (by omega) (by omega) (by omega) (by omega) (by omega) (by omega)).mono ?_; rintro e w' ⟨rfl, rfl⟩))
      go_ret2
      exact ⟨rfl, rfl⟩
    | true =>
      cases h2 : inB d 1 10000000 with
      | false =>
        have e1 : dctV t a d = (0, 2) := by simp [dctV, h0, h1, h2]
        rw [e1]
        clear e1
        go_enter Try.func30, Try.ntmps30
        go_wp2_with (first | (go_at_call 56; refine (isElapsed_any _ _).mono ?_; rintro e w' ⟨rfl, rfl⟩) | (go_at_call 50; refine (isAllowance_any _ _).mono ?_; rintro e w' ⟨rfl, rfl⟩) | (go_at_call 51; refine (isDistance_any _ _).mono ?_; rintro e w' ⟨rfl, rfl⟩) | (go_at_call 62; refine (correctedBy_any _ _ _ _ (by omega) (by omega) (by omega) (by omega) (by omega) (by omega)).mono ?_; rintro e w' ⟨rfl, rfl⟩))
        go_ret2
        exact ⟨rfl, rfl⟩
      | true =>
        obtain ⟨l0, u0⟩ := inB_t h0
        obtain ⟨l1, u1⟩ := inB_t h1
        obtain ⟨l2, u2⟩ := inB_t h2
        have e1 : dctV t a d = (dcV t a d, 0) := by simp [dctV, h0, h1, h2]
        rw [e1]
        clear e1
        go_enter Try.func30, Try.ntmps30
        go_wp2_with (first | (go_at_call 56; refine (isElapsed_any _ _).mono ?_; rintro e w' ⟨rfl, rfl⟩) | (go_at_call 50; refine (isAllowance_any _ _).mono ?_; rintro e w' ⟨rfl, rfl⟩) | (go_at_call 51; refine (isDistance_any _ _).mono ?_; rintro e w' ⟨rfl, rfl⟩) | (go_at_call 62; refine (correctedBy_any _ _ _ _ (by omega) (by omega) (by omega) (by omega) (by omega) (by omega)).mono ?_; rintro e w' ⟨rfl, rfl⟩))
        go_ret2
        exact ⟨rfl, rfl⟩
set_option maxHeartbeats 1000000 in
theorem sDistanceCorrected_any (t a d : Int) (w : World) :
    Calls Try.prog 29 #[.int .i64 t, .int .i64 a, .int .i64 d] w fun e w' => e = .returned (.tuple #[.int .i64 (dctV t a d).1, .int .i64 (dctV t a d).2]) ∧ w = w' := by
  cases h0 : inB t 1 1000000000 with
  | false =>
    have e1 : dctV t a d = (0, 2) := by simp [dctV, h0]
    rw [e1]
    clear e1
    go_enter Try.func29, Try.ntmps29
    go_wp2_with (first | (go_at_call 53; refine (l22Time_any _ _).mono ?_; rintro e w' ⟨rfl, rfl⟩) | (go_at_call 47; refine (l23Allowance_any _ _).mono ?_; rintro e w' ⟨rfl, rfl⟩) | (go_at_call 48; refine (l23Distance_any _ _).mono ?_; rintro e w' ⟨rfl, rfl⟩) | (go_at_call 61; refine (l23Corrected_any _ _ _ _ (by omega) (by omega) (by omega) (by omega) (by omega) (by omega)).mono ?_; rintro e w' ⟨rfl, rfl⟩))
    go_ret2
    exact ⟨rfl, rfl⟩
  | true =>
    cases h1 : inB a 0 1000000 with
    | false =>
      have e1 : dctV t a d = (0, 2) := by simp [dctV, h0, h1]
      rw [e1]
      clear e1
      go_enter Try.func29, Try.ntmps29
      go_wp2_with (first | (go_at_call 53; refine (l22Time_any _ _).mono ?_; rintro e w' ⟨rfl, rfl⟩) | (go_at_call 47; refine (l23Allowance_any _ _).mono ?_; rintro e w' ⟨rfl, rfl⟩) | (go_at_call 48; refine (l23Distance_any _ _).mono ?_; rintro e w' ⟨rfl, rfl⟩) | (go_at_call 61; refine (l23Corrected_any _ _ _ _ (by omega) (by omega) (by omega) (by omega) (by omega) (by omega)).mono ?_; rintro e w' ⟨rfl, rfl⟩))
      go_ret2
      exact ⟨rfl, rfl⟩
    | true =>
      cases h2 : inB d 1 10000000 with
      | false =>
        have e1 : dctV t a d = (0, 2) := by simp [dctV, h0, h1, h2]
        rw [e1]
        clear e1
        go_enter Try.func29, Try.ntmps29
        go_wp2_with (first | (go_at_call 53; refine (l22Time_any _ _).mono ?_; rintro e w' ⟨rfl, rfl⟩) | (go_at_call 47; refine (l23Allowance_any _ _).mono ?_; rintro e w' ⟨rfl, rfl⟩) | (go_at_call 48; refine (l23Distance_any _ _).mono ?_; rintro e w' ⟨rfl, rfl⟩) | (go_at_call 61; refine (l23Corrected_any _ _ _ _ (by omega) (by omega) (by omega) (by omega) (by omega) (by omega)).mono ?_; rintro e w' ⟨rfl, rfl⟩))
        go_ret2
        exact ⟨rfl, rfl⟩
      | true =>
        obtain ⟨l0, u0⟩ := inB_t h0
        obtain ⟨l1, u1⟩ := inB_t h1
        obtain ⟨l2, u2⟩ := inB_t h2
        have e1 : dctV t a d = (dcV t a d, 0) := by simp [dctV, h0, h1, h2]
        rw [e1]
        clear e1
        go_enter Try.func29, Try.ntmps29
        go_wp2_with (first | (go_at_call 53; refine (l22Time_any _ _).mono ?_; rintro e w' ⟨rfl, rfl⟩) | (go_at_call 47; refine (l23Allowance_any _ _).mono ?_; rintro e w' ⟨rfl, rfl⟩) | (go_at_call 48; refine (l23Distance_any _ _).mono ?_; rintro e w' ⟨rfl, rfl⟩) | (go_at_call 61; refine (l23Corrected_any _ _ _ _ (by omega) (by omega) (by omega) (by omega) (by omega) (by omega)).mono ?_; rintro e w' ⟨rfl, rfl⟩))
        go_ret2
        exact ⟨rfl, rfl⟩
def cmpV (t f t2 f2 : Int) : Int × Int := if inB t 1 1000000000 && inB f 1 3000 && inB t2 1 1000000000 && inB f2 1 3000 then (sgn (t * f - t2 * f2), 0) else (0, 2)
set_option maxHeartbeats 1000000 in
theorem sCompareCorrected_any (t f t2 f2 : Int) (w : World) :
    Calls Try.prog 27 #[.int .i64 t, .int .i64 f, .int .i64 t2, .int .i64 f2] w fun e w' => e = .returned (.tuple #[.int .i64 (cmpV t f t2 f2).1, .int .i64 (cmpV t f t2 f2).2]) ∧ w = w' := by
  cases h0 : inB t 1 1000000000 with
  | false =>
    have e1 : cmpV t f t2 f2 = (0, 2) := by simp [cmpV, h0]
    rw [e1]
    clear e1
    go_enter Try.func27, Try.ntmps27
    go_wp2_with (first | (go_at_call 53; refine (l22Time_any _ _).mono ?_; rintro e w' ⟨rfl, rfl⟩) | (go_at_call 54; refine (l22Factor_any _ _).mono ?_; rintro e w' ⟨rfl, rfl⟩) | (go_at_call 59; refine (l22Compare_any _ _ _ _ _ (by omega) (by omega) (by omega) (by omega)).mono ?_; rintro e w' ⟨rfl, rfl⟩))
    go_ret2
    exact ⟨rfl, rfl⟩
  | true =>
    cases h1 : inB f 1 3000 with
    | false =>
      have e1 : cmpV t f t2 f2 = (0, 2) := by simp [cmpV, h0, h1]
      rw [e1]
      clear e1
      go_enter Try.func27, Try.ntmps27
      go_wp2_with (first | (go_at_call 53; refine (l22Time_any _ _).mono ?_; rintro e w' ⟨rfl, rfl⟩) | (go_at_call 54; refine (l22Factor_any _ _).mono ?_; rintro e w' ⟨rfl, rfl⟩) | (go_at_call 59; refine (l22Compare_any _ _ _ _ _ (by omega) (by omega) (by omega) (by omega)).mono ?_; rintro e w' ⟨rfl, rfl⟩))
      go_ret2
      exact ⟨rfl, rfl⟩
    | true =>
      cases h2 : inB t2 1 1000000000 with
      | false =>
        have e1 : cmpV t f t2 f2 = (0, 2) := by simp [cmpV, h0, h1, h2]
        rw [e1]
        clear e1
        go_enter Try.func27, Try.ntmps27
        go_wp2_with (first | (go_at_call 53; refine (l22Time_any _ _).mono ?_; rintro e w' ⟨rfl, rfl⟩) | (go_at_call 54; refine (l22Factor_any _ _).mono ?_; rintro e w' ⟨rfl, rfl⟩) | (go_at_call 59; refine (l22Compare_any _ _ _ _ _ (by omega) (by omega) (by omega) (by omega)).mono ?_; rintro e w' ⟨rfl, rfl⟩))
        go_ret2
        exact ⟨rfl, rfl⟩
      | true =>
        cases h3 : inB f2 1 3000 with
        | false =>
          have e1 : cmpV t f t2 f2 = (0, 2) := by simp [cmpV, h0, h1, h2, h3]
          rw [e1]
          clear e1
          go_enter Try.func27, Try.ntmps27
          go_wp2_with (first | (go_at_call 53; refine (l22Time_any _ _).mono ?_; rintro e w' ⟨rfl, rfl⟩) | (go_at_call 54; refine (l22Factor_any _ _).mono ?_; rintro e w' ⟨rfl, rfl⟩) | (go_at_call 59; refine (l22Compare_any _ _ _ _ _ (by omega) (by omega) (by omega) (by omega)).mono ?_; rintro e w' ⟨rfl, rfl⟩))
          go_ret2
          exact ⟨rfl, rfl⟩
        | true =>
          obtain ⟨l0, u0⟩ := inB_t h0
          obtain ⟨l1, u1⟩ := inB_t h1
          obtain ⟨l2, u2⟩ := inB_t h2
          obtain ⟨l3, u3⟩ := inB_t h3
          have m := mul_bd (A := 1000000000) (B := 3000) (show 0 ≤ t by omega) (by omega) (show 0 ≤ f by omega) (by omega)
          obtain ⟨m0, m1⟩ := m
          have n := mul_bd (A := 1000000000) (B := 3000) (show 0 ≤ t2 by omega) (by omega) (show 0 ≤ f2 by omega) (by omega)
          obtain ⟨n0, n1⟩ := n
          have e1 : cmpV t f t2 f2 = (sgn (t * f - t2 * f2), 0) := by simp [cmpV, h0, h1, h2, h3]
          rw [e1]
          clear e1
          go_enter Try.func27, Try.ntmps27
          go_wp2_with (first | (go_at_call 53; refine (l22Time_any _ _).mono ?_; rintro e w' ⟨rfl, rfl⟩) | (go_at_call 54; refine (l22Factor_any _ _).mono ?_; rintro e w' ⟨rfl, rfl⟩) | (go_at_call 59; refine (l22Compare_any _ _ _ _ _ (by omega) (by omega) (by omega) (by omega)).mono ?_; rintro e w' ⟨rfl, rfl⟩))
          go_ret2
          exact ⟨rfl, rfl⟩
set_option maxHeartbeats 1000000 in
theorem compareCorrected_any (t f t2 f2 : Int) (w : World) :
    Calls Try.prog 28 #[.int .i64 t, .int .i64 f, .int .i64 t2, .int .i64 f2] w fun e w' => e = .returned (.tuple #[.int .i64 (cmpV t f t2 f2).1, .int .i64 (cmpV t f t2 f2).2]) ∧ w = w' := by
  cases h0 : inB t 1 1000000000 with
  | false =>
    have e1 : cmpV t f t2 f2 = (0, 2) := by simp [cmpV, h0]
    rw [e1]
    clear e1
    go_enter Try.func28, Try.ntmps28
    go_wp2_with (first | (go_at_call 56; refine (isElapsed_any _ _).mono ?_; rintro e w' ⟨rfl, rfl⟩) | (go_at_call 57; refine (isFactor_any _ _).mono ?_; rintro e w' ⟨rfl, rfl⟩) | (go_at_call 60; refine (sign_any _ _).mono ?_; rintro e w' ⟨rfl, rfl⟩))
    go_ret2
    exact ⟨rfl, rfl⟩
  | true =>
    cases h1 : inB t2 1 1000000000 with
    | false =>
      have e1 : cmpV t f t2 f2 = (0, 2) := by simp [cmpV, h0, h1]
      rw [e1]
      clear e1
      go_enter Try.func28, Try.ntmps28
      go_wp2_with (first | (go_at_call 56; refine (isElapsed_any _ _).mono ?_; rintro e w' ⟨rfl, rfl⟩) | (go_at_call 57; refine (isFactor_any _ _).mono ?_; rintro e w' ⟨rfl, rfl⟩) | (go_at_call 60; refine (sign_any _ _).mono ?_; rintro e w' ⟨rfl, rfl⟩))
      go_ret2
      exact ⟨rfl, rfl⟩
    | true =>
      cases h2 : inB f 1 3000 with
      | false =>
        have e1 : cmpV t f t2 f2 = (0, 2) := by simp [cmpV, h0, h1, h2]
        rw [e1]
        clear e1
        go_enter Try.func28, Try.ntmps28
        go_wp2_with (first | (go_at_call 56; refine (isElapsed_any _ _).mono ?_; rintro e w' ⟨rfl, rfl⟩) | (go_at_call 57; refine (isFactor_any _ _).mono ?_; rintro e w' ⟨rfl, rfl⟩) | (go_at_call 60; refine (sign_any _ _).mono ?_; rintro e w' ⟨rfl, rfl⟩))
        go_ret2
        exact ⟨rfl, rfl⟩
      | true =>
        cases h3 : inB f2 1 3000 with
        | false =>
          have e1 : cmpV t f t2 f2 = (0, 2) := by simp [cmpV, h0, h1, h2, h3]
          rw [e1]
          clear e1
          go_enter Try.func28, Try.ntmps28
          go_wp2_with (first | (go_at_call 56; refine (isElapsed_any _ _).mono ?_; rintro e w' ⟨rfl, rfl⟩) | (go_at_call 57; refine (isFactor_any _ _).mono ?_; rintro e w' ⟨rfl, rfl⟩) | (go_at_call 60; refine (sign_any _ _).mono ?_; rintro e w' ⟨rfl, rfl⟩))
          go_ret2
          exact ⟨rfl, rfl⟩
        | true =>
          obtain ⟨l0, u0⟩ := inB_t h0
          obtain ⟨l1, u1⟩ := inB_t h1
          obtain ⟨l2, u2⟩ := inB_t h2
          obtain ⟨l3, u3⟩ := inB_t h3
          have m := mul_bd (A := 1000000000) (B := 3000) (show 0 ≤ t by omega) (by omega) (show 0 ≤ f by omega) (by omega)
          obtain ⟨m0, m1⟩ := m
          have n := mul_bd (A := 1000000000) (B := 3000) (show 0 ≤ t2 by omega) (by omega) (show 0 ≤ f2 by omega) (by omega)
          obtain ⟨n0, n1⟩ := n
          have e1 : cmpV t f t2 f2 = (sgn (t * f - t2 * f2), 0) := by simp [cmpV, h0, h1, h2, h3]
          rw [e1]
          clear e1
          go_enter Try.func28, Try.ntmps28
          go_wp2_with (first | (go_at_call 56; refine (isElapsed_any _ _).mono ?_; rintro e w' ⟨rfl, rfl⟩) | (go_at_call 57; refine (isFactor_any _ _).mono ?_; rintro e w' ⟨rfl, rfl⟩) | (go_at_call 60; refine (sign_any _ _).mono ?_; rintro e w' ⟨rfl, rfl⟩))
          go_ret2
          exact ⟨rfl, rfl⟩

def tbV (t f o : Int) : Int × Int := if inB t 1 1000000000 && inB f 1 3000 && inB o 1 3000 then (if (t * f - 1) / o < 1 then (0, 4) else (min 1000000000 ((t * f - 1) / o), 0)) else (0, 2)

set_option maxHeartbeats 1000000 in
theorem timeToBeat_any (t f o : Int) (w : World) :
    Calls Try.prog 26 #[.int .i64 t, .int .i64 f, .int .i64 o] w fun e w' => e = .returned (.tuple #[.int .i64 (tbV t f o).1, .int .i64 (tbV t f o).2]) ∧ w = w' := by
  cases h0 : inB t 1 1000000000 with
  | false =>
    have e1 : tbV t f o = (0, 2) := by simp [tbV, h0]
    rw [e1]
    clear e1
    go_enter Try.func26, Try.ntmps26
    go_wp2_with (first | (go_at_call 56; refine (isElapsed_any _ _).mono ?_; rintro e w' ⟨rfl, rfl⟩) | (go_at_call 57; refine (isFactor_any _ _).mono ?_; rintro e w' ⟨rfl, rfl⟩))
    go_ret2
    exact ⟨rfl, rfl⟩
  | true =>
    cases h1 : inB f 1 3000 with
    | false =>
      have e1 : tbV t f o = (0, 2) := by simp [tbV, h0, h1]
      rw [e1]
      clear e1
      go_enter Try.func26, Try.ntmps26
      go_wp2_with (first | (go_at_call 56; refine (isElapsed_any _ _).mono ?_; rintro e w' ⟨rfl, rfl⟩) | (go_at_call 57; refine (isFactor_any _ _).mono ?_; rintro e w' ⟨rfl, rfl⟩))
      go_ret2
      exact ⟨rfl, rfl⟩
    | true =>
      cases h2 : inB o 1 3000 with
      | false =>
        have e1 : tbV t f o = (0, 2) := by simp [tbV, h0, h1, h2]
        rw [e1]
        clear e1
        go_enter Try.func26, Try.ntmps26
        go_wp2_with (first | (go_at_call 56; refine (isElapsed_any _ _).mono ?_; rintro e w' ⟨rfl, rfl⟩) | (go_at_call 57; refine (isFactor_any _ _).mono ?_; rintro e w' ⟨rfl, rfl⟩))
        go_ret2
        exact ⟨rfl, rfl⟩
      | true =>
        obtain ⟨l0, u0⟩ := inB_t h0
        obtain ⟨l1, u1⟩ := inB_t h1
        obtain ⟨l2, u2⟩ := inB_t h2
        have m := mul_bd (A := 1000000000) (B := 3000) (show 0 ≤ t by omega) (by omega) (show 0 ≤ f by omega) (by omega)
        obtain ⟨m0, m1⟩ := m
        have m2 : 1 ≤ t * f := by have := Int.mul_le_mul (a := 1) (b := 1) l0 l1 (by omega) (by omega); omega
        obtain ⟨d0, d1⟩ := ediv_bd (t * f - 1) o 3000000000000 l2 (by omega) (by omega) (by omega)
        have hv : tbV t f o = if (t * f - 1) / o < 1 then (0, 4) else (min 1000000000 ((t * f - 1) / o), 0) := by simp [tbV, h0, h1, h2]
        by_cases hb : (t * f - 1) / o < 1
        · rw [if_pos hb] at hv
          rw [hv]
          clear hv
          go_enter Try.func26, Try.ntmps26
          go_wp2_with (first | (go_at_call 56; refine (isElapsed_any _ _).mono ?_; rintro e w' ⟨rfl, rfl⟩) | (go_at_call 57; refine (isFactor_any _ _).mono ?_; rintro e w' ⟨rfl, rfl⟩))
          all_goals (go_ret2; exact ⟨ret_int2 (by omega) rfl, rfl⟩)
        · rw [if_neg hb] at hv
          rw [hv]
          clear hv
          go_enter Try.func26, Try.ntmps26
          go_wp2_with (first | (go_at_call 56; refine (isElapsed_any _ _).mono ?_; rintro e w' ⟨rfl, rfl⟩) | (go_at_call 57; refine (isFactor_any _ _).mono ?_; rintro e w' ⟨rfl, rfl⟩))
          all_goals (go_ret2; exact ⟨ret_int2 (by omega) rfl, rfl⟩)
set_option maxHeartbeats 1000000 in
theorem sTimeToBeat_any (t f o : Int) (w : World) :
    Calls Try.prog 25 #[.int .i64 t, .int .i64 f, .int .i64 o] w fun e w' => e = .returned (.tuple #[.int .i64 (tbV t f o).1, .int .i64 (tbV t f o).2]) ∧ w = w' := by
  cases h0 : inB t 1 1000000000 with
  | false =>
    have e1 : tbV t f o = (0, 2) := by simp [tbV, h0]
    rw [e1]
    clear e1
    go_enter Try.func25, Try.ntmps25
    go_wp2_with (first | (go_at_call 53; refine (l22Time_any _ _).mono ?_; rintro e w' ⟨rfl, rfl⟩) | (go_at_call 54; refine (l22Factor_any _ _).mono ?_; rintro e w' ⟨rfl, rfl⟩))
    go_ret2
    exact ⟨rfl, rfl⟩
  | true =>
    cases h1 : inB f 1 3000 with
    | false =>
      have e1 : tbV t f o = (0, 2) := by simp [tbV, h0, h1]
      rw [e1]
      clear e1
      go_enter Try.func25, Try.ntmps25
      go_wp2_with (first | (go_at_call 53; refine (l22Time_any _ _).mono ?_; rintro e w' ⟨rfl, rfl⟩) | (go_at_call 54; refine (l22Factor_any _ _).mono ?_; rintro e w' ⟨rfl, rfl⟩))
      go_ret2
      exact ⟨rfl, rfl⟩
    | true =>
      cases h2 : inB o 1 3000 with
      | false =>
        have e1 : tbV t f o = (0, 2) := by simp [tbV, h0, h1, h2]
        rw [e1]
        clear e1
        go_enter Try.func25, Try.ntmps25
        go_wp2_with (first | (go_at_call 53; refine (l22Time_any _ _).mono ?_; rintro e w' ⟨rfl, rfl⟩) | (go_at_call 54; refine (l22Factor_any _ _).mono ?_; rintro e w' ⟨rfl, rfl⟩))
        go_ret2
        exact ⟨rfl, rfl⟩
      | true =>
        obtain ⟨l0, u0⟩ := inB_t h0
        obtain ⟨l1, u1⟩ := inB_t h1
        obtain ⟨l2, u2⟩ := inB_t h2
        have m := mul_bd (A := 1000000000) (B := 3000) (show 0 ≤ t by omega) (by omega) (show 0 ≤ f by omega) (by omega)
        obtain ⟨m0, m1⟩ := m
        have m2 : 1 ≤ t * f := by have := Int.mul_le_mul (a := 1) (b := 1) l0 l1 (by omega) (by omega); omega
        obtain ⟨d0, d1⟩ := ediv_bd (t * f - 1) o 3000000000000 l2 (by omega) (by omega) (by omega)
        have hv : tbV t f o = if (t * f - 1) / o < 1 then (0, 4) else (min 1000000000 ((t * f - 1) / o), 0) := by simp [tbV, h0, h1, h2]
        by_cases hb : (t * f - 1) / o < 1
        · rw [if_pos hb] at hv
          rw [hv]
          clear hv
          go_enter Try.func25, Try.ntmps25
          go_wp2_with (first | (go_at_call 53; refine (l22Time_any _ _).mono ?_; rintro e w' ⟨rfl, rfl⟩) | (go_at_call 54; refine (l22Factor_any _ _).mono ?_; rintro e w' ⟨rfl, rfl⟩))
          all_goals (go_ret2; exact ⟨ret_int2 (by omega) rfl, rfl⟩)
        · rw [if_neg hb] at hv
          rw [hv]
          clear hv
          go_enter Try.func25, Try.ntmps25
          go_wp2_with (first | (go_at_call 53; refine (l22Time_any _ _).mono ?_; rintro e w' ⟨rfl, rfl⟩) | (go_at_call 54; refine (l22Factor_any _ _).mono ?_; rintro e w' ⟨rfl, rfl⟩))
          all_goals (go_ret2; exact ⟨ret_int2 (by omega) rfl, rfl⟩)
end Go.Proofs.Ytpligajegdaidaa
