/- The whole root of a number: the reference's by halving. -/
import Derived.Test.YtfllbhgngolfnaaDoorFlt
import Derived.Test.YtfllbhgngolfnaaDoorBase
import Derived.Test.YtfllbhgngolfnaaDoorMem
import Derived.Test.YtfllbhgngolfnaaDoorOwn
set_option linter.unusedSimpArgs false
set_option linter.unusedVariables false
namespace Go.Proofs.YtfllbhgngolfnaaDoor
open Go.RowKit

/-- r is the whole root of n. -/
def IsRoot (n r : Nat) : Prop := r * r ≤ n ∧ n < (r + 1) * (r + 1)
theorem root_ex (n : Nat) : ∃ r, IsRoot n r := by
  induction n with
  | zero => exact ⟨0, by decide, by decide⟩
  | succ n ih =>
    obtain ⟨r, h1, h2⟩ := ih
    by_cases h : n + 1 < (r + 1) * (r + 1)
    · exact ⟨r, by omega, h⟩
    · refine ⟨r + 1, by omega, ?_⟩
      have : (r + 1 + 1) * (r + 1 + 1) = (r + 1) * (r + 1) + 2 * (r + 1) + 1 := by rw [Nat.add_mul, Nat.mul_add]; omega
      omega
theorem root_le {n r a : Nat} (h : IsRoot n r) (ha : a * a ≤ n) : a ≤ r := by
  rcases Nat.lt_or_ge r a with h1 | h1
  · have := Nat.mul_le_mul (show r + 1 ≤ a from h1) (show r + 1 ≤ a from h1)
    have := h.2
    omega
  · exact h1
theorem root_lt {n r a : Nat} (h : IsRoot n r) (ha : n < a * a) : r < a := by
  rcases Nat.lt_or_ge r a with h1 | h1
  · exact h1
  · have := Nat.mul_le_mul h1 h1
    have := h.1
    omega
set_option maxHeartbeats 4000000 in
theorem l01Root_any (n r : Nat) (h : IsRoot n r) (hn : n ≤ 1000000000000000000) (w : World) :
    Calls Tryd.prog 19 #[.int .i64 n] w fun e w' => e = .returned (.int .i64 r) ∧ Below w.heap.size w w' := by
  replace h := Lib.hid h
  go_enter Tryd.func19, Tryd.ntmps19
  go_wp2_with fail
  go_loopw [3, 4, 5] (fun v3 v4 _ wr => ∃ a b : Nat, v3 = .int .i64 a ∧ v4 = .int .i64 b ∧ a ≤ r ∧ r < b ∧ b ≤ 1000000001 ∧ Below w.heap.size w wr) (fun v3 v4 _ _ => (intOf v4 - intOf v3).toNat)
  case atStart => exact ⟨0, 1000000001, rfl, rfl, by omega, root_lt h.out (by omega), by omega, Below.refl _ _⟩
  case round =>
    obtain ⟨a, b, rfl, rfl, ha, hb, hb2, hbel⟩ := hrel
    have hw1 : IntKind.i64.wrap ((a : Int) + 1) = a + 1 := by rw [IntKind.wrap_i64]; omega
    by_cases hlt : a + 1 < b
    · have hlt' : (a : Int) + 1 < b := by omega
      obtain ⟨m, hm⟩ : ∃ m, (a + b) / 2 = m := ⟨_, rfl⟩
      have hw2 : IntKind.i64.wrap ((a : Int) + b) = a + b := by rw [IntKind.wrap_i64]; omega
      have hq : ((a : Int) + b).tdiv 2 = m := by rw [Int.tdiv_eq_ediv_of_nonneg (by omega)]; omega
      have hq2 : ((a : Int) + b) / 2 = m := by omega
      have hw3 : IntKind.i64.wrap (m : Int) = m := by rw [IntKind.wrap_i64]; omega
      obtain ⟨s, hs⟩ : ∃ s, m * m = s := ⟨_, rfl⟩
      have hsb : s ≤ 1000000001 * 1000000001 := by rw [← hs]; exact Nat.mul_le_mul (by omega) (by omega)
      have hms : (m : Int) * m = s := by rw [← hs]; push_cast; rfl
      have hw4 : IntKind.i64.wrap (s : Int) = s := by rw [IntKind.wrap_i64]; omega
      by_cases hle : s ≤ n
      · have hle' : (s : Int) ≤ n := by omega
        have har := root_le h.out (hs ▸ hle)
        go_wp2
        go_roundw
        case rel => exact ⟨m, b, rfl, rfl, har, hb, hb2, hbel⟩
        case measure => simp [intOf]; omega
      · have hle' : ¬ ((s : Int) ≤ n) := by omega
        have har := root_lt (a := m) h.out (by omega)
        go_wp2
        go_roundw
        case rel => exact ⟨a, m, rfl, rfl, ha, har, by omega, hbel⟩
        case measure => simp [intOf]; omega
    · have hlt' : ¬ ((a : Int) + 1 < b) := by omega
      obtain rfl : a = r := by omega
      go_wp2
      go_ret
      exact ⟨rfl, hbel⟩
end Go.Proofs.YtfllbhgngolfnaaDoor
