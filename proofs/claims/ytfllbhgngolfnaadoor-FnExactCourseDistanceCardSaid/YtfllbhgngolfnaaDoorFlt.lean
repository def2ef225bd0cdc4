/- The library's square root of a whole number, read as a whole number: at least 0 and less than 2^53. -/
import Derived.Test.YtfllbhgngolfnaaDoorProg
set_option linter.unusedSimpArgs false
set_option linter.unusedVariables false
namespace Go.Proofs.YtfllbhgngolfnaaDoor
open Ieee

theorem cut_le (neg : Bool) (n drop : Nat) (h : n < 2 ^ (53 + drop)) : Toward.even.cut neg n drop ≤ 2 ^ 53 := by
  unfold Toward.cut
  simp only
  have hg : ∀ d, (1 <<< d : Nat) = 2 ^ d := fun d => by rw [Nat.shiftLeft_eq, Nat.one_mul]
  rw [hg]
  by_cases hd : drop ≤ n.log2 + 2
  · rw [Nat.min_eq_left hd]
    have hlow : n / 2 ^ drop < 2 ^ 53 := by
      rw [Nat.div_lt_iff_lt_mul (Nat.two_pow_pos _), ← Nat.pow_add]; exact h
    have hb : ∀ b : Bool, b.toNat ≤ 1 := fun b => by cases b <;> simp
    have := hb (decide (2 ^ drop < 2 * (n % 2 ^ drop)) || (2 ^ drop == 2 * (n % 2 ^ drop) && n / 2 ^ drop % 2 == 1))
    omega
  · rw [Nat.min_eq_right (by omega)]
    have hn : n < 2 ^ (n.log2 + 2) := by
      have := Nat.lt_log2_self (n := n)
      have h2 : 2 ^ (n.log2 + 1) ≤ 2 ^ (n.log2 + 2) := Nat.pow_le_pow_right (by decide) (by omega)
      omega
    have hlow : n / 2 ^ (n.log2 + 2) = 0 := Nat.div_eq_of_lt hn
    rw [hlow]
    have hb : ∀ b : Bool, b.toNat ≤ 1 := fun b => by cases b <;> simp
    have := hb (decide (2 ^ (n.log2 + 2) < 2 * (n % 2 ^ (n.log2 + 2))) || (2 ^ (n.log2 + 2) == 2 * (n % 2 ^ (n.log2 + 2)) && 0 % 2 == 1))
    have h53 : 1 ≤ 2 ^ 53 := by decide
    omega
/-- A number's rung, bounded by the place of its first digit. -/
theorem rung_le (mag : Nat) (place : Int) (e : Int) (h : place + mag.log2 - 52 ≤ e) (he : -1074 ≤ e) : Format.nearest double false mag place ≤ (e + 1074).toNat * 2 ^ 52 + 2 ^ 53 := by
  unfold Format.nearest
  have hl : double.leastPlace = -1074 := by decide
  have hb : double.binade = 2 ^ 52 := by decide
  have hf : (double.fractionBits : Int) = 52 := by decide
  have hw : ∀ r, double.word false r = r := fun r => rfl
  by_cases h0 : mag = 0
  · rw [if_pos h0, hw]; omega
  · rw [if_neg h0]
    simp only [hl, hb, hf, hw]
    obtain ⟨last, hlast⟩ : ∃ l, max (place + (mag.log2 : Int) - 52) (-1074) = l := ⟨_, rfl⟩
    rw [hlast]
    have hk : Toward.even.cut false (mag <<< (place - last).toNat) (last - place).toNat ≤ 2 ^ 53 := by
      apply cut_le
      rw [Nat.shiftLeft_eq]
      have h1 := Nat.lt_log2_self (n := mag)
      have h2 : 2 ^ (mag.log2 + 1) * 2 ^ (place - last).toNat ≤ 2 ^ (53 + (last - place).toNat) := by
        rw [← Nat.pow_add]
        exact Nat.pow_le_pow_right (by decide) (by omega)
      exact Nat.lt_of_lt_of_le (Nat.mul_lt_mul_of_pos_right h1 (Nat.two_pow_pos _)) h2
    have hle : (last - -1074).toNat ≤ (e + 1074).toNat := by omega
    exact Nat.le_trans (Nat.min_le_left _ _) (Nat.add_le_add (Nat.mul_le_mul_right (2 ^ 52) hle) hk)
/-- What a word of a bounded rung reads as. -/
theorem read_le (w : Nat) (q : Nat) (h : w < q * 2 ^ 52) (hq : q ≤ 2047) : ∃ (m : Nat) (i : Int), double.read w = .number false m i ∧ m < 2 ^ 53 ∧ (m = 0 ∨ i + m.log2 ≤ (q : Int) - 1024) ∧ i ≤ (q : Int) - 1076 ∨ (∃ m : Nat, double.read w = .number false m (-1074) ∧ m < 2 ^ 52) := by
  have hs : double.signWeight = 2 ^ 63 := by decide
  have hb : double.binade = 2 ^ 52 := by decide
  have hi : double.infRung = 2047 * 2 ^ 52 := by decide
  have hl : double.leastPlace = -1074 := by decide
  have hw : w < 2047 * 2 ^ 52 := Nat.lt_of_lt_of_le h (Nat.mul_le_mul_right _ hq)
  have hw2 : w < 2 ^ 63 := by omega
  have hneg : (w / 2 ^ 63 % 2 == 1) = false := by rw [Nat.div_eq_of_lt hw2]; rfl
  unfold Format.read
  simp only [hs, hb, hi, hl, hneg, Nat.mod_eq_of_lt hw2]
  by_cases h1 : w < 2 ^ 52
  · exact ⟨0, 0, .inr ⟨w, by rw [if_pos h1], h1⟩⟩
  · refine ⟨2 ^ 52 + w % 2 ^ 52, -1074 + (w / 2 ^ 52 - 1 : Nat), .inl ⟨by rw [if_neg h1, if_pos hw], ?_, ?_, ?_⟩⟩
    · have := Nat.mod_lt w (Nat.two_pow_pos 52); omega
    · right
      have hm := Nat.mod_lt w (Nat.two_pow_pos 52)
      have hlg : (2 ^ 52 + w % 2 ^ 52).log2 = 52 := by
        rw [Nat.log2_eq_iff (by omega)]
        omega
      rw [hlg]
      have hdiv : w / 2 ^ 52 < q := by rw [Nat.div_lt_iff_lt_mul (Nat.two_pow_pos _)]; exact h
      omega
    · have hdiv : w / 2 ^ 52 < q := by rw [Nat.div_lt_iff_lt_mul (Nat.two_pow_pos _)]; exact h
      omega
theorem rootFrom_sq (n : Nat) : ∀ todo root, root * root ≤ n → Datum.rootFrom n todo root * Datum.rootFrom n todo root ≤ n
  | 0, root, h => h
  | todo + 1, root, h => by
    unfold Datum.rootFrom
    simp only
    split
    · rename_i h2
      exact rootFrom_sq n todo _ h2
    · exact rootFrom_sq n todo _ h
/-- Toward zero: no more than the magnitude. -/
theorem toInt_le (m : Nat) (i : Int) (hi : i ≤ 0) : ∃ k : Nat, (Datum.number false m i).toInt .zero = some (k : Int) ∧ k ≤ m := by
  have h0 : i.toNat = 0 := by omega
  refine ⟨Toward.zero.cut false m (-i).toNat, ?_, ?_⟩
  · unfold Datum.toInt Datum.integral
    simp only [h0, Nat.shiftLeft_zero]
    unfold signed
    simp
  · unfold Toward.cut
    simp only [Bool.toNat_false, Nat.add_zero]
    exact Nat.div_le_self _ _
theorem sqrt_whole (n : Nat) (hn : n < 2 ^ 63) : ∃ (r k : Nat), double.sqrt (Format.nearest double false n 0) = some r ∧ (double.read r).toInt .zero = some (k : Int) ∧ k < 2 ^ 53 := by
  have hlg : n.log2 ≤ 62 := by
    by_cases h0 : n = 0
    · subst h0; decide
    · have := (Nat.log2_lt h0 (k := 63)).2 hn
      omega
  have hx := rung_le n 0 10 (by omega) (by omega)
  have hx2 : Format.nearest double false n 0 < 1087 * 2 ^ 52 := by
    refine Nat.lt_of_le_of_lt hx ?_
    decide
  obtain ⟨m, i, hread, hb1, hb2⟩ : ∃ (m : Nat) (i : Int), double.read (Format.nearest double false n 0) = .number false m i ∧ m < 2 ^ 53 ∧ (m = 0 ∨ i + m.log2 ≤ 63) := by
    obtain ⟨m, i, h | ⟨m', h1, h2⟩⟩ := read_le _ 1087 hx2 (by decide)
    · exact ⟨m, i, h.1, h.2.1, by rcases h.2.2.1 with h | h; exact .inl h; exact .inr (by omega)⟩
    · refine ⟨m', -1074, h1, by omega, ?_⟩
      by_cases h0 : m' = 0
      · exact .inl h0
      · have := (Nat.log2_lt h0 (k := 52)).2 h2
        exact .inr (by omega)
  clear hx hx2
  unfold Format.sqrt
  rw [hread]
  have fin : ∀ (mag : Nat) (place : Int), place + mag.log2 ≤ 51 → ∃ (r k : Nat), Option.map double.write (some (Datum.number false mag place)) = some r ∧ (double.read r).toInt .zero = some (k : Int) ∧ k < 2 ^ 53 := by
    intro mag place h
    refine ⟨Format.nearest double false mag place, ?_⟩
    have hr := rung_le mag place (-1) (by omega) (by omega)
    have hr2 : Format.nearest double false mag place < 1076 * 2 ^ 52 := by
      refine Nat.lt_of_le_of_lt hr ?_
      decide
    obtain ⟨m2, i2, h | ⟨m3, h1, h2⟩⟩ := read_le _ 1076 hr2 (by decide)
    · obtain ⟨k, hk, hk2⟩ := toInt_le m2 i2 (by have := h.2.2.2; omega)
      exact ⟨k, rfl, by rw [h.1]; exact hk, by have := h.2.1; omega⟩
    · obtain ⟨k, hk, hk2⟩ := toInt_le m3 (-1074) (by decide)
      exact ⟨k, rfl, by rw [h1]; exact hk, by omega⟩
  unfold Datum.root
  by_cases h0 : m = 0
  · subst h0
    simp only [if_pos]
    have hz : ∃ (r k : Nat), Option.map double.write (some (Datum.number false 0 i)) = some r ∧ (double.read r).toInt .zero = some (k : Int) ∧ k < 2 ^ 53 := ⟨0, 0, rfl, by decide, by decide⟩
    exact hz
  · simp only [if_neg h0, Bool.false_eq_true, if_false]
    rcases hb2 with hb2 | hb2
    · exact absurd hb2 h0
    obtain ⟨more, hmore⟩ : ∃ z, 2 * (double.fractionBits + 2) - m.log2 + ((i - ((2 * (double.fractionBits + 2) - m.log2 : Nat) : Int)) % 2).toNat = z := ⟨_, rfl⟩
    rw [hmore]
    obtain ⟨whole, hwhole⟩ : ∃ z, Datum.rootFrom (m <<< more) ((m <<< more).log2 / 2 + 1) 0 = z := ⟨_, rfl⟩
    have hsq := rootFrom_sq (m <<< more) ((m <<< more).log2 / 2 + 1) 0 (Nat.zero_le _)
    rw [hwhole] at hsq ⊢
    obtain ⟨b, hb⟩ : ∃ b : Bool, (whole * whole != m <<< more) = b := ⟨_, rfl⟩
    rw [hb]
    refine fin _ _ ?_
    have hbn : b.toNat ≤ 1 := by cases b <;> simp
    have hN : m <<< more < 2 ^ (m.log2 + 1 + more) := by
      rw [Nat.shiftLeft_eq, Nat.pow_add]
      exact Nat.mul_lt_mul_of_pos_right Nat.lt_log2_self (Nat.two_pow_pos _)
    have hm0 : 0 ≤ (m.log2 : Int) := by omega
    by_cases hw0 : whole = 0
    · subst hw0
      have hl0 : (2 * 0 + b.toNat).log2 = 0 := by cases b <;> decide
      rw [hl0]
      omega
    · have hl1 : (2 * whole + b.toNat).log2 ≤ whole.log2 + 1 := by
        have h1 := Nat.lt_log2_self (n := whole)
        have h2 : 2 * whole + b.toNat < 2 ^ (whole.log2 + 2) := by
          have : 2 ^ (whole.log2 + 2) = 2 * 2 ^ (whole.log2 + 1) := by rw [Nat.pow_succ]; omega
          omega
        have := (Nat.log2_lt (by omega) (k := whole.log2 + 2)).2 h2
        omega
      have hl2 : 2 * whole.log2 < m.log2 + 1 + more := by
        have h1 := Nat.log2_self_le hw0
        have h2 : 2 ^ whole.log2 * 2 ^ whole.log2 ≤ whole * whole := Nat.mul_le_mul h1 h1
        rw [← Nat.pow_add] at h2
        have h3 : 2 ^ (whole.log2 + whole.log2) < 2 ^ (m.log2 + 1 + more) := Nat.lt_of_le_of_lt (Nat.le_trans h2 hsq) hN
        have := (Nat.pow_lt_pow_iff_right (by decide : 1 < 2)).1 h3
        omega
      omega
end Go.Proofs.YtfllbhgngolfnaaDoor
