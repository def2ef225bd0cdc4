/- Contracts of the small integer functions: sign, rounded division, corrected times. -/
import Derived.Test.YtfllbhgngolfnaaDoorBase
namespace Go.Proofs.YtfllbhgngolfnaaDoor
open Go.RowKit

theorem mul_bd {a b A B : Int} (a0 : 0 ≤ a) (aA : a ≤ A) (b0 : 0 ≤ b) (bB : b ≤ B) : 0 ≤ a * b ∧ a * b ≤ A * B :=
  ⟨Int.mul_nonneg a0 b0, Int.mul_le_mul aA bB b0 (by omega)⟩

theorem ret_int {k : IntKind} {a b : Int} (h : a = b) : Ending.returned (.int k a) = .returned (.int k b) := by rw [h]
theorem ret_int2 {k l : IntKind} {a b c d : Int} (h : a = b) (h' : c = d) : Ending.returned (.tuple #[.int k a, .int l c]) = .returned (.tuple #[.int k b, .int l d]) := by rw [h, h']

def corV (t f : Int) : Int := max 1 (min 1000000000 ((t * f + 500) / 1000))
theorem corV_bd (t f : Int) : 1 ≤ corV t f ∧ corV t f ≤ 1000000000 := by unfold corV; omega
theorem corV_mono (t f g : Int) (h : 0 ≤ t) (hfg : f ≤ g) : corV t f ≤ corV t g := by
  have : t * f ≤ t * g := Int.mul_le_mul_of_nonneg_left hfg h
  unfold corV; omega

def sgn (n : Int) : Int := if n < 0 then -1 else if 0 < n then 1 else 0
theorem sgn_eq (n : Int) : sgn n = max (-1) (min 1 n) := by unfold sgn; split <;> (try split) <;> omega
theorem sgn_bd (n : Int) : -1 ≤ sgn n ∧ sgn n ≤ 1 := by rw [sgn_eq]; omega
theorem tdiv_floor (a b : Int) (hb : 1 ≤ b) (h : 0 ≤ a.tmod b) : a.tdiv b = a / b := by
  have h1 := Int.tdiv_mul_add_tmod a b
  have h2 := Int.tmod_lt_of_pos a (show 0 < b by omega)
  exact (Int.ediv_emod_unique (a := a) (b := b) (r := a.tmod b) (q := a.tdiv b) (by omega)).2 ⟨by rw [Int.mul_comm] at h1; omega, h, h2⟩ |>.1.symm
theorem tdiv_floor' (a b : Int) (hb : 1 ≤ b) (h : a.tmod b < 0) : a.tdiv b - 1 = a / b := by
  have h1 := Int.tdiv_mul_add_tmod a b
  have h2 := Int.lt_tmod_of_pos a (show 0 < b by omega)
  refine (Int.ediv_emod_unique (a := a) (b := b) (r := a.tmod b + b) (q := a.tdiv b - 1) (by omega)).2 ⟨?_, by omega, by omega⟩ |>.1.symm
  rw [Int.mul_sub, Int.mul_comm b]; omega
theorem ediv_bd (a b A : Int) (hb : 1 ≤ b) (hA : 0 ≤ A) (l : -A ≤ a) (u : a ≤ A) : -A ≤ a / b ∧ a / b ≤ A := by
  constructor
  · rw [Int.le_ediv_iff_mul_le (by omega)]
    have : -A * b ≤ -A * 1 := Int.mul_le_mul_of_nonpos_left (by omega) hb
    omega
  · have : a / b < A + 1 := by
      rw [Int.ediv_lt_iff_lt_mul (by omega)]
      have : (A + 1) * 1 ≤ (A + 1) * b := Int.mul_le_mul_of_nonneg_left hb (by omega)
      omega
    omega
theorem floorDiv_any (a b : Int) (w : World) (l0 : -1000000000000000000 ≤ a) (u0 : a ≤ 1000000000000000000) (l1 : 1 ≤ b) :
    Calls Tryd.prog 51 #[.int .i64 a, .int .i64 b] w fun e w' => e = .returned (.int .i64 (a / b)) ∧ w = w' := by
  have ⟨d0, d1⟩ := ediv_bd a b 1000000000000000000 l1 (by omega) l0 u0
  by_cases h : 0 ≤ a.tmod b
  · have e1 := tdiv_floor a b l1 h
    rw [← e1]
    clear e1
    go_enter Tryd.func51, Tryd.ntmps51
    go_wp2
    go_ret
    exact ⟨rfl, rfl⟩
  · have e1 := tdiv_floor' a b l1 (by omega)
    rw [← e1] at d0 d1 ⊢
    clear e1
    go_enter Tryd.func51, Tryd.ntmps51
    go_wp2
    go_ret
    exact ⟨rfl, rfl⟩
theorem l01Floor_any (a b : Int) (w : World) (l0 : -1000000000000000000 ≤ a) (u0 : a ≤ 1000000000000000000) (l1 : 1 ≤ b) :
    Calls Tryd.prog 44 #[.int .i64 a, .int .i64 b] w fun e w' => e = .returned (.int .i64 (a / b)) ∧ w = w' := by
  have ⟨d0, d1⟩ := ediv_bd a b 1000000000000000000 l1 (by omega) l0 u0
  by_cases h : 0 ≤ a.tmod b
  · have e1 := tdiv_floor a b l1 h
    rw [← e1]
    clear e1
    go_enter Tryd.func44, Tryd.ntmps44
    go_wp2
    go_ret
    exact ⟨rfl, rfl⟩
  · have e1 := tdiv_floor' a b l1 (by omega)
    rw [← e1] at d0 d1 ⊢
    clear e1
    go_enter Tryd.func44, Tryd.ntmps44
    go_wp2
    go_ret
    exact ⟨rfl, rfl⟩
def dcV (t a d : Int) : Int := max 1 (t - a * d / 10000)
theorem dcV_bd (t a d : Int) (l0 : 1 ≤ t) (h : 0 ≤ a * d) : 1 ≤ dcV t a d ∧ dcV t a d ≤ t := by unfold dcV; omega

/-- The least number m with y at most m * d. -/
def cdV (y d : Int) : Int := -((-y) / d)
theorem cdV_le (y d m : Int) (hd : 1 ≤ d) : cdV y d ≤ m ↔ y ≤ m * d := by
  unfold cdV
  have h := Int.le_ediv_iff_mul_le (a := -m) (b := -y) (c := d) (by omega)
  rw [Int.neg_mul] at h
  omega
theorem cdV_bd (y d : Int) (hd : 1 ≤ d) (hy : 0 ≤ y) : 0 ≤ cdV y d ∧ cdV y d ≤ y := by
  constructor
  · have h := (cdV_le y d (-1) hd)
    have : ¬ y ≤ -1 * d := by omega
    have := mt h.1 this
    omega
  · rw [cdV_le y d y hd]
    have := Int.mul_le_mul_of_nonneg_left hd hy
    omega
theorem cdV_bd2 (y d : Int) (hd : 1 ≤ d) (hy : 0 ≤ y) (hY : y ≤ 1000000000000000000) : 0 ≤ cdV y d ∧ cdV y d ≤ 1000000000000000000 := by
  have := cdV_bd y d hd hy; omega

end Go.Proofs.YtfllbhgngolfnaaDoor
