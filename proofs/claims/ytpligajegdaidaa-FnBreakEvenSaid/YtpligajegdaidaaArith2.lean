/- Contracts of FactorToTie, AllowanceFor and BreakEven: the program's and the reference's return one value. -/
import Derived.Test.YtpligajegdaidaaArith
import Derived.LoopTactic
namespace Go.Proofs.Ytpligajegdaidaa
open Go.RowKit

/-- The least number m with y at most m * d. -/
def cdV (y d : Int) : Int := -((-y) / d)
theorem cdV_le (y d m : Int) (hd : 1 ≤ d) : cdV y d ≤ m ↔ y ≤ m * d := by
  unfold cdV
  have h := Int.le_ediv_iff_mul_le (a := -m) (b := -y) (c := d) (by omega)
  rw [Int.neg_mul] at h
  omega
theorem cdV_bd (y d : Int) (hd : 1 ≤ d) (hy : 0 ≤ y) : 0 ≤ cdV y d ∧ cdV y d ≤ y := by
  constructor
  · have h := (cdV_le y d (-1) hd)
    have : ¬ y ≤ -1 * d := by omega
    have := mt h.1 this
    omega
  · rw [cdV_le y d y hd]
    have := Int.mul_le_mul_of_nonneg_left hd hy
    omega
theorem cdV_bd2 (y d : Int) (hd : 1 ≤ d) (hy : 0 ≤ y) (hY : y ≤ 1000000000000000000) : 0 ≤ cdV y d ∧ cdV y d ≤ 1000000000000000000 := by
  have := cdV_bd y d hd hy; omega
theorem ceilDiv_cd (a b : Int) (w : World) (l0 : -1000000000000000000 ≤ a) (u0 : a ≤ 1000000000000000000) (l1 : 1 ≤ b) :
    Calls Try.prog 63 #[.int .i64 a, .int .i64 b] w fun e w' => e = .returned (.int .i64 (cdV a b)) ∧ w = w' := ceilDiv_any a b w l0 u0 l1

/-- The first number from s on (of k numbers) for which p holds. -/
def firstF (p : Int → Bool) (s : Int) : Nat → Option Int
  | 0 => none
  | k + 1 => if p s then some s else firstF p (s + 1) k
theorem firstF_some (p : Int → Bool) (k : Nat) : ∀ (s r : Int), s ≤ r → r < s + k → p r = true → (∀ g, s ≤ g → g < r → p g = false) → firstF p s k = some r := by
  induction k with
  | zero => intro s r h1 h2; omega
  | succ k ih =>
    intro s r h1 h2 hp hn
    unfold firstF
    by_cases e : s = r
    · subst e; rw [if_pos hp]
    · rw [hn s (Int.le_refl _) (by omega)]
      simp only [Bool.false_eq_true, if_false]
      exact ih (s + 1) r (by omega) (by omega) hp (fun g h3 h4 => hn g (by omega) h4)
theorem firstF_none (p : Int → Bool) (k : Nat) : ∀ (s : Int), (∀ g, s ≤ g → g < s + k → p g = false) → firstF p s k = none := by
  induction k with
  | zero => intro s _; rfl
  | succ k ih =>
    intro s hn
    unfold firstF
    rw [hn s (Int.le_refl _) (by omega)]
    simp only [Bool.false_eq_true, if_false]
    exact ih (s + 1) (fun g h3 h4 => hn g (by omega) (by omega))

def optV (o : Option Int) : Int × Int := match o with | some r => (r, 0) | none => (0, 4)
def tieV (t g : Int) : Int × Int := if inB t 1 1000000000 && inB g 1 1000000000 then optV (firstF (fun f => decide (g ≤ corV t f)) 1 3000) else (0, 2)


theorem factorToTie_any (t g : Int) (w : World) :
    Calls Try.prog 32 #[.int .i64 t, .int .i64 g] w fun e w' => e = .returned (.tuple #[.int .i64 (tieV t g).1, .int .i64 (tieV t g).2]) ∧ w = w' := by
  cases h0 : inB t 1 1000000000 with
  | false =>
    have e1 : tieV t g = (0, 2) := by simp [tieV, h0]
    rw [e1]
    clear e1
    go_enter Try.func32, Try.ntmps32
    go_wp2_with (go_at_call 56; refine (isElapsed_any _ _).mono ?_; rintro e w' ⟨rfl, rfl⟩)
    go_ret2
    exact ⟨rfl, rfl⟩
  | true =>
  cases h1 : inB g 1 1000000000 with
  | false =>
    have e1 : tieV t g = (0, 2) := by simp [tieV, h1]
    rw [e1]
    clear e1
    go_enter Try.func32, Try.ntmps32
    go_wp2_with (go_at_call 56; refine (isElapsed_any _ _).mono ?_; rintro e w' ⟨rfl, rfl⟩)
    go_ret2
    exact ⟨rfl, rfl⟩
  | true =>
  obtain ⟨l0, u0⟩ := inB_t h0
  obtain ⟨l1, u1⟩ := inB_t h1
  have hv : tieV t g = optV (firstF (fun f => decide (g ≤ corV t f)) 1 3000) := by simp [tieV, h0, h1]
  rw [hv]
  clear hv
  generalize hX : firstF (fun f => decide (g ≤ corV t f)) 1 3000 = X
  have hX := Lib.hid hX
  go_enter Try.func32, Try.ntmps32
  go_wp2_with (go_at_call 56; refine (isElapsed_any _ _).mono ?_; rintro e w' ⟨rfl, rfl⟩)
  go_loop [6] (fun v => ∃ f : Int, 1 ≤ f ∧ f ≤ 3001 ∧ v = .int .i64 f ∧ Hid (∀ q, 1 ≤ q → q < f → corV t q < g)) (fun v => (3001 - intOf v).toNat)
  case atStart => exact ⟨1, by omega, by omega, rfl, Lib.hid (fun q _ _ => by omega)⟩
  case round =>
    obtain ⟨f, hf1, hf2, rfl, hlt⟩ := hrel
    by_cases hb : f ≤ 3000
    · by_cases hc : g ≤ corV t f
      · have hx : X = some f := by
          rw [← hX.out]
          refine firstF_some _ _ _ _ hf1 (by omega) (by simp [hc]) (fun q h3 h4 => ?_)
          have := hlt.out q h3 h4
          simp; omega
        subst hx
        go_wp2_with (go_at_call 58; refine (corrected_any _ _ _ (by omega) (by omega) (by omega) (by omega)).mono ?_; rintro e w' ⟨rfl, rfl⟩)
        go_ret2
        exact ⟨rfl, rfl⟩
      · go_wp2_with (go_at_call 58; refine (corrected_any _ _ _ (by omega) (by omega) (by omega) (by omega)).mono ?_; rintro e w' ⟨rfl, rfl⟩)
        go_round
        case rel => exact ⟨f + 1, by omega, by omega, rfl, Lib.hid (fun q h3 h4 => by
          by_cases e : q = f
          · subst e; omega
          · exact hlt.out q h3 (by omega))⟩
        case measure => simp [intOf]; omega
    · have hx : X = none := by
        rw [← hX.out]
        refine firstF_none _ _ _ (fun q h3 h4 => ?_)
        have := hlt.out q h3 (by omega)
        simp; omega
      subst hx
      go_wp2
      go_ret2
      exact ⟨rfl, rfl⟩

theorem sFactorToTie_any (t g : Int) (w : World) :
    Calls Try.prog 31 #[.int .i64 t, .int .i64 g] w fun e w' => e = .returned (.tuple #[.int .i64 (tieV t g).1, .int .i64 (tieV t g).2]) ∧ w = w' := by
  cases h0 : inB t 1 1000000000 with
  | false =>
    have e1 : tieV t g = (0, 2) := by simp [tieV, h0]
    rw [e1]
    clear e1
    go_enter Try.func31, Try.ntmps31
    go_wp2_with (go_at_call 53; refine (l22Time_any _ _).mono ?_; rintro e w' ⟨rfl, rfl⟩)
    go_ret2
    exact ⟨rfl, rfl⟩
  | true =>
  cases h1 : inB g 1 1000000000 with
  | false =>
    have e1 : tieV t g = (0, 2) := by simp [tieV, h1]
    rw [e1]
    clear e1
    go_enter Try.func31, Try.ntmps31
    go_wp2_with (go_at_call 53; refine (l22Time_any _ _).mono ?_; rintro e w' ⟨rfl, rfl⟩)
    go_ret2
    exact ⟨rfl, rfl⟩
  | true =>
  obtain ⟨l0, u0⟩ := inB_t h0
  obtain ⟨l1, u1⟩ := inB_t h1
  have hv : tieV t g = optV (firstF (fun f => decide (g ≤ corV t f)) 1 3000) := by simp [tieV, h0, h1]
  rw [hv]
  clear hv
  generalize hX : firstF (fun f => decide (g ≤ corV t f)) 1 3000 = X
  have hX := Lib.hid hX
  by_cases hc : corV t 3000 < g
  · have hx : X = none := by
      rw [← hX.out]
      refine firstF_none _ _ _ (fun q h3 h4 => ?_)
      have := corV_mono t q 3000 (by omega) (by omega)
      simp; omega
    subst hx
    go_enter Try.func31, Try.ntmps31
    go_wp2_with (first | (go_at_call 53; refine (l22Time_any _ _).mono ?_; rintro e w' ⟨rfl, rfl⟩) | (go_at_call 55; refine (l22corrected_any _ _ _ (by omega) (by omega) (by omega) (by omega)).mono ?_; rintro e w' ⟨rfl, rfl⟩))
    go_ret2
    exact ⟨rfl, rfl⟩
  · go_enter Try.func31, Try.ntmps31
    go_wp2_with (first | (go_at_call 53; refine (l22Time_any _ _).mono ?_; rintro e w' ⟨rfl, rfl⟩) | (go_at_call 55; refine (l22corrected_any _ _ _ (by omega) (by omega) (by omega) (by omega)).mono ?_; rintro e w' ⟨rfl, rfl⟩))
    go_loop [7, 6] (fun v7 v6 => ∃ lo hi : Int, 1 ≤ lo ∧ lo ≤ hi ∧ hi ≤ 3000 ∧ v6 = .int .i64 lo ∧ v7 = .int .i64 hi ∧ g ≤ corV t hi ∧ Hid (∀ q, 1 ≤ q → q < lo → corV t q < g)) (fun v7 v6 => (intOf v7 - intOf v6).toNat)
    case atStart => exact ⟨1, 3000, by omega, by omega, by omega, rfl, rfl, by omega, Lib.hid (fun q _ _ => by omega)⟩
    case round =>
      obtain ⟨lo, hi, hl1, hl2, hl3, rfl, rfl, hg, hlt⟩ := hrel
      by_cases hb : lo < hi
      · by_cases hm : g ≤ corV t ((lo + hi) / 2)
        · go_wp2_with (go_at_call 55; refine (l22corrected_any _ _ _ (by omega) (by omega) (by omega) (by omega)).mono ?_; rintro e w' ⟨rfl, rfl⟩)
          go_round
          case rel => exact ⟨lo, (lo + hi) / 2, by omega, by omega, by omega, rfl, rfl, by omega, hlt⟩
          case measure => simp [intOf]; omega
        · go_wp2_with (go_at_call 55; refine (l22corrected_any _ _ _ (by omega) (by omega) (by omega) (by omega)).mono ?_; rintro e w' ⟨rfl, rfl⟩)
          go_round
          case rel => exact ⟨(lo + hi) / 2 + 1, hi, by omega, by omega, by omega, rfl, rfl, by omega, Lib.hid (fun q h3 h4 => by
            have := corV_mono t q ((lo + hi) / 2) (by omega) (by omega)
            omega)⟩
          case measure => simp [intOf]; omega
      · have hx : X = some lo := by
          rw [← hX.out]
          obtain rfl : hi = lo := by omega
          refine firstF_some _ _ _ _ hl1 (by omega) (by simp [hg]) (fun q h3 h4 => ?_)
          have := hlt.out q h3 h4
          simp; omega
        subst hx
        go_wp2
        go_ret2
        exact ⟨rfl, rfl⟩


def alY (t g : Int) : Int := if g < t then (t - g) * 10000 else 0
theorem alY_bd (t g : Int) (l1 : 1 ≤ g) (u0 : t ≤ 1000000000) : 0 ≤ alY t g ∧ alY t g ≤ 10000000000000 := by unfold alY; split <;> omega
def alV (t g d : Int) : Int × Int := if inB t 1 1000000000 && inB g 1 1000000000 && inB d 1 10000000 then (if cdV (alY t g) d ≤ 1000000 then (cdV (alY t g) d, 0) else (0, 4)) else (0, 2)
theorem dcV_le (t g d m : Int) (hd : 1 ≤ d) (hm : 0 ≤ m) (hg : 1 ≤ g) : dcV t m d ≤ g ↔ cdV (alY t g) d ≤ m := by
  rw [cdV_le _ _ _ hd]
  have := Int.mul_nonneg hm (show 0 ≤ d by omega)
  unfold dcV alY
  generalize m * d = x at *
  split <;> omega

set_option maxHeartbeats 1000000 in
theorem allowanceFor_any (t g d : Int) (w : World) :
    Calls Try.prog 36 #[.int .i64 t, .int .i64 g, .int .i64 d] w fun e w' => e = .returned (.tuple #[.int .i64 (alV t g d).1, .int .i64 (alV t g d).2]) ∧ w = w' := by
  cases h0 : inB t 1 1000000000 with
  | false =>
    have e1 : alV t g d = (0, 2) := by simp [alV, h0]
    rw [e1]
    clear e1
    go_enter Try.func36, Try.ntmps36
    go_wp2_with (first | (go_at_call 56; refine (isElapsed_any _ _).mono ?_; rintro e w' ⟨rfl, rfl⟩) | (go_at_call 51; refine (isDistance_any _ _).mono ?_; rintro e w' ⟨rfl, rfl⟩))
    go_ret2
    exact ⟨rfl, rfl⟩
  | true =>
  cases h1 : inB g 1 1000000000 with
  | false =>
    have e1 : alV t g d = (0, 2) := by simp [alV, h1]
    rw [e1]
    clear e1
    go_enter Try.func36, Try.ntmps36
    go_wp2_with (first | (go_at_call 56; refine (isElapsed_any _ _).mono ?_; rintro e w' ⟨rfl, rfl⟩) | (go_at_call 51; refine (isDistance_any _ _).mono ?_; rintro e w' ⟨rfl, rfl⟩))
    go_ret2
    exact ⟨rfl, rfl⟩
  | true =>
  cases h2 : inB d 1 10000000 with
  | false =>
    have e1 : alV t g d = (0, 2) := by simp [alV, h2]
    rw [e1]
    clear e1
    go_enter Try.func36, Try.ntmps36
    go_wp2_with (first | (go_at_call 56; refine (isElapsed_any _ _).mono ?_; rintro e w' ⟨rfl, rfl⟩) | (go_at_call 51; refine (isDistance_any _ _).mono ?_; rintro e w' ⟨rfl, rfl⟩))
    go_ret2
    exact ⟨rfl, rfl⟩
  | true =>
  obtain ⟨l0, u0⟩ := inB_t h0
  obtain ⟨l1, u1⟩ := inB_t h1
  obtain ⟨l2, u2⟩ := inB_t h2
  have hv : alV t g d = if cdV (alY t g) d ≤ 1000000 then (cdV (alY t g) d, 0) else (0, 4) := by simp [alV, h0, h1, h2]
  rw [hv]
  clear hv
  by_cases hc : g < t
  · have hy : alY t g = (t - g) * 10000 := by simp [alY, hc]
    rw [hy]
    obtain ⟨b0, b1⟩ := cdV_bd2 ((t - g) * 10000) d l2 (by omega) (by omega)
    clear hy
    by_cases hq : cdV ((t - g) * 10000) d ≤ 1000000
    · rw [if_pos hq]
      go_enter Try.func36, Try.ntmps36
      go_wp2_with (first | (go_at_call 56; refine (isElapsed_any _ _).mono ?_; rintro e w' ⟨rfl, rfl⟩) | (go_at_call 51; refine (isDistance_any _ _).mono ?_; rintro e w' ⟨rfl, rfl⟩) | (go_at_call 63; refine (ceilDiv_cd _ _ _ (by omega) (by omega) (by omega)).mono ?_; rintro e w' ⟨rfl, rfl⟩))
      go_ret2
      exact ⟨rfl, rfl⟩
    · rw [if_neg hq]
      go_enter Try.func36, Try.ntmps36
      go_wp2_with (first | (go_at_call 56; refine (isElapsed_any _ _).mono ?_; rintro e w' ⟨rfl, rfl⟩) | (go_at_call 51; refine (isDistance_any _ _).mono ?_; rintro e w' ⟨rfl, rfl⟩) | (go_at_call 63; refine (ceilDiv_cd _ _ _ (by omega) (by omega) (by omega)).mono ?_; rintro e w' ⟨rfl, rfl⟩))
      go_ret2
      exact ⟨rfl, rfl⟩
  · have hy : alY t g = 0 := by simp [alY, hc]
    rw [hy]
    have b0 : cdV 0 d = 0 := by simp [cdV]
    rw [b0, if_pos (by omega)]
    go_enter Try.func36, Try.ntmps36
    go_wp2_with (first | (go_at_call 56; refine (isElapsed_any _ _).mono ?_; rintro e w' ⟨rfl, rfl⟩) | (go_at_call 51; refine (isDistance_any _ _).mono ?_; rintro e w' ⟨rfl, rfl⟩) | (go_at_call 63; refine (ceilDiv_cd _ _ _ (by omega) (by omega) (by omega)).mono ?_; rintro e w' ⟨rfl, rfl⟩))
    go_ret2
    exact ⟨rfl, rfl⟩

set_option maxHeartbeats 1000000 in
theorem sAllowanceFor_any (t g d : Int) (w : World) :
    Calls Try.prog 35 #[.int .i64 t, .int .i64 g, .int .i64 d] w fun e w' => e = .returned (.tuple #[.int .i64 (alV t g d).1, .int .i64 (alV t g d).2]) ∧ w = w' := by
  cases h0 : inB t 1 1000000000 with
  | false =>
    have e1 : alV t g d = (0, 2) := by simp [alV, h0]
    rw [e1]
    clear e1
    go_enter Try.func35, Try.ntmps35
    go_wp2_with (first | (go_at_call 53; refine (l22Time_any _ _).mono ?_; rintro e w' ⟨rfl, rfl⟩) | (go_at_call 48; refine (l23Distance_any _ _).mono ?_; rintro e w' ⟨rfl, rfl⟩))
    go_ret2
    exact ⟨rfl, rfl⟩
  | true =>
  cases h1 : inB g 1 1000000000 with
  | false =>
    have e1 : alV t g d = (0, 2) := by simp [alV, h1]
    rw [e1]
    clear e1
    go_enter Try.func35, Try.ntmps35
    go_wp2_with (first | (go_at_call 53; refine (l22Time_any _ _).mono ?_; rintro e w' ⟨rfl, rfl⟩) | (go_at_call 48; refine (l23Distance_any _ _).mono ?_; rintro e w' ⟨rfl, rfl⟩))
    go_ret2
    exact ⟨rfl, rfl⟩
  | true =>
  cases h2 : inB d 1 10000000 with
  | false =>
    have e1 : alV t g d = (0, 2) := by simp [alV, h2]
    rw [e1]
    clear e1
    go_enter Try.func35, Try.ntmps35
    go_wp2_with (first | (go_at_call 53; refine (l22Time_any _ _).mono ?_; rintro e w' ⟨rfl, rfl⟩) | (go_at_call 48; refine (l23Distance_any _ _).mono ?_; rintro e w' ⟨rfl, rfl⟩))
    go_ret2
    exact ⟨rfl, rfl⟩
  | true =>
  obtain ⟨l0, u0⟩ := inB_t h0
  obtain ⟨l1, u1⟩ := inB_t h1
  obtain ⟨l2, u2⟩ := inB_t h2
  have hv : alV t g d = if cdV (alY t g) d ≤ 1000000 then (cdV (alY t g) d, 0) else (0, 4) := by simp [alV, h0, h1, h2]
  rw [hv]
  clear hv
  have hk := fun m hm => dcV_le t g d m l2 hm l1
  have hy := alY_bd t g l1 u0
  have hq := cdV_bd (alY t g) d l2 hy.1
  generalize cdV (alY t g) d = q at *
  obtain ⟨q0, q1⟩ := hq
  have q2 : q ≤ 10000000000000 := by omega
  clear hy q1
  have hk := Lib.hid hk
  have k1 := hk.out 1000000 (by omega)
  have k1 := Lib.hid k1
  by_cases hc : q ≤ 1000000
  · rw [if_pos hc]
    have kk := k1.out.2 hc
    go_enter Try.func35, Try.ntmps35
    go_wp2_with (first | (go_at_call 53; refine (l22Time_any _ _).mono ?_; rintro e w' ⟨rfl, rfl⟩) | (go_at_call 48; refine (l23Distance_any _ _).mono ?_; rintro e w' ⟨rfl, rfl⟩) | (go_at_call 61; refine (l23Corrected_any _ _ _ _ (by omega) (by omega) (by omega) (by omega) (by omega) (by omega)).mono ?_; rintro e w' ⟨rfl, rfl⟩))

    go_loop [9, 8] (fun v8 v7 => ∃ lo hi : Int, 0 ≤ lo ∧ lo ≤ q ∧ q ≤ hi ∧ hi ≤ 1000000 ∧ v7 = .int .i64 lo ∧ v8 = .int .i64 hi) (fun v8 v7 => (intOf v8 - intOf v7).toNat)
    case atStart => exact ⟨0, 1000000, by omega, by omega, by omega, by omega, rfl, rfl⟩
    case round =>
      obtain ⟨lo, hi, hl1, hl2, hl3, hl4, rfl, rfl⟩ := hrel
      by_cases hb : lo < hi
      · have hm := hk.out ((lo + hi) / 2) (by omega)
        have hm := Lib.hid hm
        by_cases hd : q ≤ (lo + hi) / 2
        · have hd2 := hm.out.2 hd
          go_wp2_with (go_at_call 61; refine (l23Corrected_any _ _ _ _ (by omega) (by omega) (by omega) (by omega) (by omega) (by omega)).mono ?_; rintro e w' ⟨rfl, rfl⟩)
          go_round
          case rel => exact ⟨lo, (lo + hi) / 2, by omega, by omega, by omega, by omega, rfl, rfl⟩
          case measure => simp [intOf]; omega
        · have hd2 := mt hm.out.1 hd
          go_wp2_with (go_at_call 61; refine (l23Corrected_any _ _ _ _ (by omega) (by omega) (by omega) (by omega) (by omega) (by omega)).mono ?_; rintro e w' ⟨rfl, rfl⟩)
          go_round
          case rel => exact ⟨(lo + hi) / 2 + 1, hi, by omega, by omega, by omega, by omega, rfl, rfl⟩
          case measure => simp [intOf]; omega
      · obtain rfl : lo = q := by omega
        go_wp2
        go_ret2
        exact ⟨rfl, rfl⟩
  · rw [if_neg hc]
    have kk := mt k1.out.1 hc
    go_enter Try.func35, Try.ntmps35
    go_wp2_with (first | (go_at_call 53; refine (l22Time_any _ _).mono ?_; rintro e w' ⟨rfl, rfl⟩) | (go_at_call 48; refine (l23Distance_any _ _).mono ?_; rintro e w' ⟨rfl, rfl⟩) | (go_at_call 61; refine (l23Corrected_any _ _ _ _ (by omega) (by omega) (by omega) (by omega) (by omega) (by omega)).mono ?_; rintro e w' ⟨rfl, rfl⟩))
    go_ret2
    exact ⟨rfl, rfl⟩
/-- The break-even distance. -/
def beV (t a t2 b : Int) : Int × Int := if inB t 1 1000000000 && inB t2 1 1000000000 && inB a 0 1000000 && inB b 0 1000000 then
  (if (t2 - t) * 10000 ≤ b - a then (1, 0) else if b - a ≤ 0 then (0, 4) else if cdV ((t2 - t) * 10000) (b - a) ≤ 10000000 then (cdV ((t2 - t) * 10000) (b - a), 0) else (0, 4)) else (0, 2)
theorem cd_facts (Y D : Int) (hD : 1 ≤ D) (hY : 0 < Y) : 1 ≤ cdV Y D ∧ Y ≤ D * cdV Y D ∧ D * cdV Y D ≤ Y + D - 1 ∧ cdV Y D ≤ Y ∧ (Y ≤ D → cdV Y D = 1) := by
  have hk := (cdV_le Y D (cdV Y D) hD).1 (Int.le_refl _)
  have hk1 := (cdV_le Y D (cdV Y D - 1) hD)
  have hk2 := (cdV_le Y D 1 hD)
  have hk3 := (cdV_le Y D 0 hD)
  have hb := cdV_bd Y D hD (by omega)
  rw [Int.sub_mul] at hk1
  rw [Int.mul_comm D]
  omega
theorem cdV_other (y d : Int) (hd : 1 ≤ d) : (y + d - 1) / d = cdV y d := by
  have h1 := fun m => cdV_le y d m hd
  have h2 : ∀ m, (y + d - 1) / d ≤ m ↔ y ≤ m * d := fun m => by
    rw [← Int.lt_add_one_iff, Int.ediv_lt_iff_lt_mul (by omega), Int.add_mul]
    omega
  have a1 := (h2 (cdV y d)).2 ((h1 _).1 (Int.le_refl _))
  have a2 := (h1 ((y + d - 1) / d)).2 ((h2 _).1 (Int.le_refl _))
  omega

set_option maxHeartbeats 1000000 in
theorem breakEven_any (t a t2 b : Int) (w : World) :
    Calls Try.prog 34 #[.int .i64 t, .int .i64 a, .int .i64 t2, .int .i64 b] w fun e w' => e = .returned (.tuple #[.int .i64 (beV t a t2 b).1, .int .i64 (beV t a t2 b).2]) ∧ w = w' := by
  cases h0 : inB t 1 1000000000 with
  | false =>
    have e1 : beV t a t2 b = (0, 2) := by simp [beV, h0]
    rw [e1]
    clear e1
    go_enter Try.func34, Try.ntmps34
    go_wp2_with (first | (go_at_call 56; refine (isElapsed_any _ _).mono ?_; rintro e w' ⟨rfl, rfl⟩) | (go_at_call 50; refine (isAllowance_any _ _).mono ?_; rintro e w' ⟨rfl, rfl⟩))
    go_ret2
    exact ⟨rfl, rfl⟩
  | true =>
  cases h1 : inB t2 1 1000000000 with
  | false =>
    have e1 : beV t a t2 b = (0, 2) := by simp [beV, h1]
    rw [e1]
    clear e1
    go_enter Try.func34, Try.ntmps34
    go_wp2_with (first | (go_at_call 56; refine (isElapsed_any _ _).mono ?_; rintro e w' ⟨rfl, rfl⟩) | (go_at_call 50; refine (isAllowance_any _ _).mono ?_; rintro e w' ⟨rfl, rfl⟩))
    go_ret2
    exact ⟨rfl, rfl⟩
  | true =>
  cases h2 : inB a 0 1000000 with
  | false =>
    have e1 : beV t a t2 b = (0, 2) := by simp [beV, h2]
    rw [e1]
    clear e1
    go_enter Try.func34, Try.ntmps34
    go_wp2_with (first | (go_at_call 56; refine (isElapsed_any _ _).mono ?_; rintro e w' ⟨rfl, rfl⟩) | (go_at_call 50; refine (isAllowance_any _ _).mono ?_; rintro e w' ⟨rfl, rfl⟩))
    go_ret2
    exact ⟨rfl, rfl⟩
  | true =>
  cases h3 : inB b 0 1000000 with
  | false =>
    have e1 : beV t a t2 b = (0, 2) := by simp [beV, h3]
    rw [e1]
    clear e1
    go_enter Try.func34, Try.ntmps34
    go_wp2_with (first | (go_at_call 56; refine (isElapsed_any _ _).mono ?_; rintro e w' ⟨rfl, rfl⟩) | (go_at_call 50; refine (isAllowance_any _ _).mono ?_; rintro e w' ⟨rfl, rfl⟩))
    go_ret2
    exact ⟨rfl, rfl⟩
  | true =>
  obtain ⟨l0, u0⟩ := inB_t h0
  obtain ⟨l1, u1⟩ := inB_t h1
  obtain ⟨l2, u2⟩ := inB_t h2
  obtain ⟨l3, u3⟩ := inB_t h3
  have hv : beV t a t2 b = (if (t2 - t) * 10000 ≤ b - a then (1, 0) else if b - a ≤ 0 then (0, 4) else if cdV ((t2 - t) * 10000) (b - a) ≤ 10000000 then (cdV ((t2 - t) * 10000) (b - a), 0) else (0, 4)) := by simp [beV, h0, h1, h2, h3]
  rw [hv]
  clear hv
  by_cases c1 : (t2 - t) * 10000 ≤ b - a
  · rw [if_pos c1]
    go_enter Try.func34, Try.ntmps34
    go_wp2_with (first | (go_at_call 56; refine (isElapsed_any _ _).mono ?_; rintro e w' ⟨rfl, rfl⟩) | (go_at_call 50; refine (isAllowance_any _ _).mono ?_; rintro e w' ⟨rfl, rfl⟩))
    go_ret2
    exact ⟨rfl, rfl⟩
  rw [if_neg c1]
  by_cases c2 : b - a ≤ 0
  · rw [if_pos c2]
    go_enter Try.func34, Try.ntmps34
    go_wp2_with (first | (go_at_call 56; refine (isElapsed_any _ _).mono ?_; rintro e w' ⟨rfl, rfl⟩) | (go_at_call 50; refine (isAllowance_any _ _).mono ?_; rintro e w' ⟨rfl, rfl⟩))
    go_ret2
    exact ⟨rfl, rfl⟩
  rw [if_neg c2]
  obtain ⟨b0, b1⟩ := cdV_bd2 ((t2 - t) * 10000) (b - a) (by omega) (by omega) (by omega)
  by_cases c3 : cdV ((t2 - t) * 10000) (b - a) ≤ 10000000
  · rw [if_pos c3]
    go_enter Try.func34, Try.ntmps34
    go_wp2_with (first | (go_at_call 56; refine (isElapsed_any _ _).mono ?_; rintro e w' ⟨rfl, rfl⟩) | (go_at_call 50; refine (isAllowance_any _ _).mono ?_; rintro e w' ⟨rfl, rfl⟩) | (go_at_call 63; refine (ceilDiv_cd _ _ _ (by omega) (by omega) (by omega)).mono ?_; rintro e w' ⟨rfl, rfl⟩))
    go_ret2
    exact ⟨rfl, rfl⟩
  · rw [if_neg c3]
    go_enter Try.func34, Try.ntmps34
    go_wp2_with (first | (go_at_call 56; refine (isElapsed_any _ _).mono ?_; rintro e w' ⟨rfl, rfl⟩) | (go_at_call 50; refine (isAllowance_any _ _).mono ?_; rintro e w' ⟨rfl, rfl⟩) | (go_at_call 63; refine (ceilDiv_cd _ _ _ (by omega) (by omega) (by omega)).mono ?_; rintro e w' ⟨rfl, rfl⟩))
    go_ret2
    exact ⟨rfl, rfl⟩

set_option maxHeartbeats 1000000 in
theorem sBreakEven_any (t a t2 b : Int) (w : World) :
    Calls Try.prog 33 #[.int .i64 t, .int .i64 a, .int .i64 t2, .int .i64 b] w fun e w' => e = .returned (.tuple #[.int .i64 (beV t a t2 b).1, .int .i64 (beV t a t2 b).2]) ∧ w = w' := by
  cases h0 : inB t 1 1000000000 with
  | false =>
    have e1 : beV t a t2 b = (0, 2) := by simp [beV, h0]
    rw [e1]
    clear e1
    go_enter Try.func33, Try.ntmps33
    go_wp2_with (first | (go_at_call 53; refine (l22Time_any _ _).mono ?_; rintro e w' ⟨rfl, rfl⟩) | (go_at_call 47; refine (l23Allowance_any _ _).mono ?_; rintro e w' ⟨rfl, rfl⟩))
    go_ret2
    exact ⟨rfl, rfl⟩
  | true =>
  cases h1 : inB t2 1 1000000000 with
  | false =>
    have e1 : beV t a t2 b = (0, 2) := by simp [beV, h1]
    rw [e1]
    clear e1
    go_enter Try.func33, Try.ntmps33
    go_wp2_with (first | (go_at_call 53; refine (l22Time_any _ _).mono ?_; rintro e w' ⟨rfl, rfl⟩) | (go_at_call 47; refine (l23Allowance_any _ _).mono ?_; rintro e w' ⟨rfl, rfl⟩))
    go_ret2
    exact ⟨rfl, rfl⟩
  | true =>
  cases h2 : inB a 0 1000000 with
  | false =>
    have e1 : beV t a t2 b = (0, 2) := by simp [beV, h2]
    rw [e1]
    clear e1
    go_enter Try.func33, Try.ntmps33
    go_wp2_with (first | (go_at_call 53; refine (l22Time_any _ _).mono ?_; rintro e w' ⟨rfl, rfl⟩) | (go_at_call 47; refine (l23Allowance_any _ _).mono ?_; rintro e w' ⟨rfl, rfl⟩))
    go_ret2
    exact ⟨rfl, rfl⟩
  | true =>
  cases h3 : inB b 0 1000000 with
  | false =>
    have e1 : beV t a t2 b = (0, 2) := by simp [beV, h3]
    rw [e1]
    clear e1
    go_enter Try.func33, Try.ntmps33
    go_wp2_with (first | (go_at_call 53; refine (l22Time_any _ _).mono ?_; rintro e w' ⟨rfl, rfl⟩) | (go_at_call 47; refine (l23Allowance_any _ _).mono ?_; rintro e w' ⟨rfl, rfl⟩))
    go_ret2
    exact ⟨rfl, rfl⟩
  | true =>
  obtain ⟨l0, u0⟩ := inB_t h0
  obtain ⟨l1, u1⟩ := inB_t h1
  obtain ⟨l2, u2⟩ := inB_t h2
  obtain ⟨l3, u3⟩ := inB_t h3
  have hv : beV t a t2 b = (if (t2 - t) * 10000 ≤ b - a then (1, 0) else if b - a ≤ 0 then (0, 4) else if cdV ((t2 - t) * 10000) (b - a) ≤ 10000000 then (cdV ((t2 - t) * 10000) (b - a), 0) else (0, 4)) := by simp [beV, h0, h1, h2, h3]
  rw [hv]
  clear hv
  by_cases c0 : b > a ∧ (t2 - t) * 10000 > 0
  · obtain ⟨c01, c02⟩ := c0
    obtain ⟨q0, q1, q2, q4, q5⟩ := cd_facts ((t2 - t) * 10000) (b - a) (by omega) (by omega)
    have ho : ((t2 - t) * 10000 + b - a - 1) / (b - a) = cdV ((t2 - t) * 10000) (b - a) := by
      rw [← cdV_other _ _ (by omega)]; congr 1; omega
    generalize cdV ((t2 - t) * 10000) (b - a) = q at *
    have q2 : (b - a) * q ≤ 20000000000000 := by omega
    have q3 : q ≤ 10000000000000 := by omega
    have hsame : (if (t2 - t) * 10000 ≤ b - a then ((1 : Int), (0 : Int)) else if b - a ≤ 0 then (0, 4) else if q ≤ 10000000 then (q, 0) else (0, 4)) = if q ≤ 10000000 then (q, 0) else (0, 4) := by
      by_cases c1 : (t2 - t) * 10000 ≤ b - a
      · have := q5 c1
        subst this
        simp [c1]
      · rw [if_neg c1, if_neg (by omega)]
    rw [hsame]
    clear hsame q4 q5
    by_cases c3 : q ≤ 10000000
    · rw [if_pos c3]
      go_enter Try.func33, Try.ntmps33
      go_wp2_with (first | (go_at_call 53; refine (l22Time_any _ _).mono ?_; rintro e w' ⟨rfl, rfl⟩) | (go_at_call 47; refine (l23Allowance_any _ _).mono ?_; rintro e w' ⟨rfl, rfl⟩))
      go_ret2
      exact ⟨rfl, rfl⟩
    · rw [if_neg c3]
      go_enter Try.func33, Try.ntmps33
      go_wp2_with (first | (go_at_call 53; refine (l22Time_any _ _).mono ?_; rintro e w' ⟨rfl, rfl⟩) | (go_at_call 47; refine (l23Allowance_any _ _).mono ?_; rintro e w' ⟨rfl, rfl⟩))
      go_ret2
      exact ⟨rfl, rfl⟩
  · have c01 : b ≤ a ∨ (t2 - t) * 10000 ≤ 0 := by omega
    clear c0
    by_cases c1 : (t2 - t) * 10000 ≤ b - a
    · rw [if_pos c1]
      by_cases ca : b ≤ a
      · go_enter Try.func33, Try.ntmps33
        go_wp2_with (first | (go_at_call 53; refine (l22Time_any _ _).mono ?_; rintro e w' ⟨rfl, rfl⟩) | (go_at_call 47; refine (l23Allowance_any _ _).mono ?_; rintro e w' ⟨rfl, rfl⟩))
        go_ret2
        exact ⟨rfl, rfl⟩
      · go_enter Try.func33, Try.ntmps33
        go_wp2_with (first | (go_at_call 53; refine (l22Time_any _ _).mono ?_; rintro e w' ⟨rfl, rfl⟩) | (go_at_call 47; refine (l23Allowance_any _ _).mono ?_; rintro e w' ⟨rfl, rfl⟩))
        go_ret2
        exact ⟨rfl, rfl⟩
    · have e1 : (if b - a ≤ 0 then ((0 : Int), (4 : Int)) else if cdV ((t2 - t) * 10000) (b - a) ≤ 10000000 then (cdV ((t2 - t) * 10000) (b - a), 0) else (0, 4)) = (0, 4) := by
        rw [if_pos (by omega)]
      rw [if_neg c1, e1]
      clear e1
      have ca : b ≤ a := by omega
      go_enter Try.func33, Try.ntmps33
      go_wp2_with (first | (go_at_call 53; refine (l22Time_any _ _).mono ?_; rintro e w' ⟨rfl, rfl⟩) | (go_at_call 47; refine (l23Allowance_any _ _).mono ?_; rintro e w' ⟨rfl, rfl⟩))
      go_ret2
      exact ⟨rfl, rfl⟩
end Go.Proofs.Ytpligajegdaidaa
