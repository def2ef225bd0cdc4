/- The whole root of a number: the program's, off the library's square root. -/
import Derived.Test.YtfllbhgngolfnaaDoorRoot
import Derived.Laws.FloatArith
import Derived.Laws.Externs
set_option linter.unusedSimpArgs false
set_option linter.unusedVariables false
namespace Go.Proofs.YtfllbhgngolfnaaDoor
open Go.RowKit

theorem mathSqrt_any (x r : Nat) (h : Ieee.Format.sqrt Ieee.double x = some r) (w : World) :
    Calls Tryd.prog 40 #[.float .f64 x] w fun e w' => e = .returned (.float .f64 r) ∧ Below w.heap.size w w' := by
  have hrun : ∀ W, (callFunc 52 #[.float .f64 x]).run Tryd.prog W = .ok (.value (.float .f64 r)) W := fun W => by
    rw [run_callFunc_extern (e := Extern.MathSqrt.sqrt) Tryd.func52 (by kernel_rfl) (by kernel_rfl) (by kernel_rfl) (by kernel_rfl)]
    have e : Extern.MathSqrt.sqrt #[.float .f64 x] = pure (.float .f64 r) := by
      unfold Extern.MathSqrt.sqrt
      show (match Ieee.Format.sqrt Ieee.double x with | some r => _ | none => _) = _
      rw [h]
    rw [e]
    rfl
  go_enter Tryd.func40, Tryd.ntmps40
  go_wp2
  go_ret
  exact ⟨rfl, Below.refl _ _⟩
set_option maxRecDepth 100000 in
set_option maxHeartbeats 4000000 in
theorem rootOf_any (n r : Nat) (h : IsRoot n r) (hn : n ≤ 1000000000000000000) (w : World) :
    Calls Tryd.prog 25 #[.int .i64 n] w fun e w' => e = .returned (.int .i64 r) ∧ Below w.heap.size w w' := by
  obtain ⟨q, k, hq, hk, hk2⟩ := sqrt_whole n (by omega)
  have hfl : floatOfInt .f64 (n : Int) = Ieee.Format.nearest Ieee.double false n 0 := by
    unfold floatOfInt FloatKind.nearest FloatKind.encode FloatKind.format
    have h1 : decide ((n : Int) < 0) = false := decide_eq_false (by omega)
    simp only [h1, Int.natAbs_natCast]
    rfl
  have hto : floatToIntVal .f64 q .i64 = some (k : Int) := by
    unfold floatToIntVal FloatKind.decode FloatKind.format
    simp only [hk]
    simp [IntKind.min, IntKind.max, IntKind.signed, IntKind.bits]
    omega
  have hc : ∀ W, (convert 70 2 (.float .f64 q)).run Tryd.prog W = .ok (.int .i64 k) W := fun W => run_convert_float_int W 70 2 .f64 .i64 q k (by rw [Tryd.underlying70]; rfl) Tryd.underlying2 hto
  have hcall := fun W => mathSqrt_any _ q hq W
  rw [← hfl] at hcall
  replace h := Lib.hid h
  replace hcall := Lib.hid hcall
  clear hq hk hto
  go_enter Tryd.func25, Tryd.ntmps25
  go_wp2_with fail
  refine (hcall.out _).mono ?_
  rintro e w1 ⟨rfl, hb1⟩
  clear hcall
  go_wp2_with fail
  go_loopw [3] (fun v3 wr => ∃ a : Nat, v3 = .int .i64 a ∧ a < 9007199254740992 ∧ Below w.heap.size w wr) (fun v3 _ => (intOf v3).toNat)
  case atStart => exact ⟨k, rfl, by omega, hb1⟩
  case round =>
    obtain ⟨a, rfl, ha, hbel⟩ := hrel
    clear hb1
    by_cases hbig : 3037000499 < a
    · have hbig' : (3037000499 : Int) < a := by omega
      have hw5 : IntKind.i64.wrap ((a : Int) - 1) = ((a - 1 : Nat) : Int) := by rw [IntKind.wrap_i64]; omega
      go_wp2
      go_roundw
      case rel => exact ⟨a - 1, by go_num, by omega, hbel⟩
      case measure => first | (simp [intOf]; done) | (simp [intOf]; omega)
    · have hbig' : ¬ ((3037000499 : Int) < a) := by omega
      obtain ⟨s, hs⟩ : ∃ s, a * a = s := ⟨_, rfl⟩
      have hsb : s ≤ 3037000499 * 3037000499 := by rw [← hs]; exact Nat.mul_le_mul (by omega) (by omega)
      have hms : (a : Int) * a = s := by rw [← hs]; push_cast; rfl
      have hw4 : IntKind.i64.wrap (s : Int) = s := by rw [IntKind.wrap_i64]; omega
      by_cases hgt : n < s
      · have hgt' : (n : Int) < s := by omega
        have ha0 : 0 < a := by
          rcases Nat.eq_zero_or_pos a with h0 | h0
          · subst h0; simp at hs; omega
          · exact h0
        have hw5 : IntKind.i64.wrap ((a : Int) - 1) = ((a - 1 : Nat) : Int) := by rw [IntKind.wrap_i64]; omega
        go_wp2
        go_roundw
        case rel => exact ⟨a - 1, by go_num, by omega, hbel⟩
        case measure => first | (simp [intOf]; done) | (simp [intOf]; omega)
      · have hgt' : ¬ ((n : Int) < s) := by omega
        have har := root_le (a := a) h.out (by omega)
        have hr9 := root_lt (a := 1000000001) h.out (by omega)
        go_wp2_with fail
        clear hs hms hsb hw4
        go_loopw [3] (fun v3 wx => ∃ a : Nat, v3 = .int .i64 a ∧ a ≤ r ∧ Below w.heap.size w wx) (fun v3 _ => (r - intOf v3).toNat)
        case atStart => exact ⟨a, rfl, har, hbel⟩
        case round =>
          clear hbel har
          clear hbig hbig' hgt hgt' ha
          obtain ⟨a, rfl, har, hbel⟩ := hrel
          have hlt' : (a : Int) < 3037000499 := by omega
          have hw2 : IntKind.i64.wrap ((a : Int) + 1) = a + 1 := by rw [IntKind.wrap_i64]; omega
          obtain ⟨s, hs⟩ : ∃ s, (a + 1) * (a + 1) = s := ⟨_, rfl⟩
          have hsb : s ≤ 1000000002 * 1000000002 := by rw [← hs]; exact Nat.mul_le_mul (by omega) (by omega)
          have hms : ((a : Int) + 1) * ((a : Int) + 1) = s := by rw [← hs]; push_cast; rfl
          have hw4 : IntKind.i64.wrap (s : Int) = s := by rw [IntKind.wrap_i64]; omega
          by_cases hle : s ≤ n
          · have hle' : (s : Int) ≤ n := by omega
            have har2 := root_le (a := a + 1) h.out (by omega)
            go_wp2
            go_roundw
            case rel => exact ⟨a + 1, by go_num, har2, hbel⟩
            case measure => first | (simp [intOf]; done) | (simp [intOf]; omega)
          · have hle' : ¬ ((s : Int) ≤ n) := by omega
            have har2 := root_lt (a := a + 1) h.out (by omega)
            obtain rfl : a = r := by omega
            go_wp2
            go_ret
            exact ⟨rfl, hbel⟩
end Go.Proofs.YtfllbhgngolfnaaDoor
