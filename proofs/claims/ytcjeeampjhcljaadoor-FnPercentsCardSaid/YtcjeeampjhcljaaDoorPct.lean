/- The law on percentages, plain; what a drawn test keeps. -/
import Derived.Test.YtcjeeampjhcljaaDoorPenD
import Derived.Test.YtcjeeampjhcljaaDoorArith
set_option linter.unusedSimpArgs false
set_option linter.unusedVariables false
namespace Go.Proofs.YtcjeeampjhcljaaDoor
open Go.RowKit Go.Shelf

theorem pp_law (b q : Int) (hb : 0 ≤ b ∧ b < 18) (hq : 0 ≤ q ∧ q < 102) : (-1 ≤ ppV b q ∧ ppV b q ≤ 200) ∧ ((ppV b q < 0 ∨ q = 100) → ppV b q = -1 ∨ ppV b q = 10 * b) ∧ (¬ (ppV b q < 0 ∨ q = 100) → ppV b q ≤ ppV b (q + 1)) := by
  unfold ppV inB
  by_cases h1 : 1 ≤ b ∧ b ≤ 16
  · by_cases h2 : 1 ≤ q ∧ q ≤ 100
    · obtain ⟨c, hc⟩ : ∃ c, b * q = c := ⟨_, rfl⟩
      have hc1 : 0 ≤ c := by rw [← hc]; exact Int.mul_nonneg (by omega) (by omega)
      have hc2 : c ≤ 16 * 100 := by rw [← hc]; exact Int.mul_le_mul h1.2 h2.2 (by omega) (by omega)
      have e1 : 20 * b * q = 20 * c := by rw [Int.mul_assoc, hc]
      have e2 : 20 * b * (q + 1) = 20 * c + 20 * b := by rw [Int.mul_add, e1]; omega
      rw [e1, e2]
      have t1 : (decide (1 ≤ b ∧ b ≤ 16) && decide (1 ≤ q ∧ q ≤ 100)) = true := by simp [h1, h2]
      rw [if_pos t1]
      refine ⟨by omega, fun h => ?_, fun h => ?_⟩
      · right
        have hq : q = 100 := by omega
        subst hq
        omega
      · have t2 : (decide (1 ≤ b ∧ b ≤ 16) && decide (1 ≤ q + 1 ∧ q + 1 ≤ 100)) = true := by simp; omega
        rw [if_pos t2]
        omega
    · have t1 : ¬ (decide (1 ≤ b ∧ b ≤ 16) && decide (1 ≤ q ∧ q ≤ 100)) = true := by simp; omega
      rw [if_neg t1]
      exact ⟨by omega, fun _ => .inl rfl, fun h => by omega⟩
  · have t1 : ¬ (decide (1 ≤ b ∧ b ≤ 16) && decide (1 ≤ q ∧ q ≤ 100)) = true := by simp; omega
    rw [if_neg t1]
    exact ⟨by omega, fun _ => .inl rfl, fun h => by omega⟩
def pcPD : Nat → Nat
  | 0 => 19
  | 1 => 20
  | 2 => 21
  | 3 => 22
  | 4 => 23
  | 5 => 24
  | 6 => 25
  | 7 => 26
  | 8 => 27
  | 9 => 28
  | 10 => 29
  | 11 => 30
  | _ => 0
def pcPG (n b q r bo k v : Int) (S : ByteArray) : Nat → Value → World → Prop
  | 0, y, W => y = .int .i64 n
  | 1, y, W => y = .int .i64 b
  | 2, y, W => y = .int .i64 q
  | 3, y, W => y = .int .i64 n
  | 4, y, W => y = .bool false
  | 5, y, W => y = .bool false
  | 6, y, W => y = .agg #[.int .i64 r, .int .i64 bo, .int .i64 k, .int .i64 v]
  | 7, y, W => y = .string S
  | 8, y, W => y = .agg #[.int .i64 r, .int .i64 bo, .int .i64 k, .int .i64 v]
  | 9, y, W => y = .string S
  | 10, y, W => y = .bool false
  | 11, y, W => y = .bool false
  | _, _, _ => True
theorem pcP_any {n b q r bo k v : Int} {S : ByteArray} {w w' : World} : ∀ {j : Nat} {y : Value}, pcPG n b q r bo k v S j y w → pcPG n b q r bo k v S j y w'
  | 0, _, h => h
  | 1, _, h => h
  | 2, _, h => h
  | 3, _, h => h
  | 4, _, h => h
  | 5, _, h => h
  | 6, _, h => h
  | 7, _, h => h
  | 8, _, h => h
  | 9, _, h => h
  | 10, _, h => h
  | 11, _, h => h
  | _ + 12, _, h => h
end Go.Proofs.YtcjeeampjhcljaaDoor
