/- Points and lines: the program's and the reference's. -/
import Derived.Test.YtfllbhgngolfnaaDoorRoot2
import Derived.Test.YtfllbhgngolfnaaDoorOver
import Derived.Test.YtfllbhgngolfnaaDoorNum
set_option linter.unusedSimpArgs false
set_option linter.unusedVariables false
namespace Go.Proofs.YtfllbhgngolfnaaDoor
open Go.RowKit

def ptB (x y : Int) : Bool := inB x (-1000000) 1000000 && inB y (-1000000) 1000000
def lnB (a b c d : Int) : Bool := ptB a b && ptB c d && !(decide (a = c) && decide (b = d))
theorem ptB_t {x y : Int} (h : ptB x y = true) : -1000000 ≤ x ∧ x ≤ 1000000 ∧ -1000000 ≤ y ∧ y ≤ 1000000 := by
  unfold ptB at h
  rw [Bool.and_eq_true] at h
  have := inB_t h.1
  have := inB_t h.2
  omega
set_option maxHeartbeats 2000000 in
theorem isPoint_any (x y : Int) (w : World) : Calls Tryd.prog 47 #[.agg #[.int .i64 x, .int .i64 y]] w fun e w' => e = .returned (.bool (ptB x y)) ∧ Below w.heap.size w w' := by
  cases h1 : inB x (-1000000) 1000000 with
  | false =>
    have e : ptB x y = false := by unfold ptB; rw [h1]; rfl
    rw [e]
    go_enter Tryd.func47, Tryd.ntmps47
    go_wp2_with (go_at_call 48; refine (within_any _ _ _ _).mono ?_; rintro e w' ⟨rfl, rfl⟩)
    go_ret
    exact ⟨rfl, (Below.refl _ _).alloc (Nat.le_refl _) _⟩
  | true =>
    have e : ptB x y = inB y (-1000000) 1000000 := by unfold ptB; rw [h1]; rfl
    rw [e]
    generalize h2 : inB y (-1000000) 1000000 = v
    go_enter Tryd.func47, Tryd.ntmps47
    go_wp2_with (go_at_call 48; refine (within_any _ _ _ _).mono ?_; rintro e w' ⟨rfl, rfl⟩)
    go_ret
    exact ⟨rfl, (Below.refl _ _).alloc (Nat.le_refl _) _⟩
set_option maxHeartbeats 2000000 in
theorem sIsPoint_any (x y : Int) (w : World) : Calls Tryd.prog 41 #[.agg #[.int .i64 x, .int .i64 y]] w fun e w' => e = .returned (.bool (ptB x y)) ∧ Below w.heap.size w w' := by
  cases h1 : inB x (-1000000) 1000000 with
  | false =>
    have e : ptB x y = false := by unfold ptB; rw [h1]; rfl
    rw [e]
    go_enter Tryd.func41, Tryd.ntmps41
    go_wp2_with (go_at_call 43; refine (l01In_any _ _ _ _).mono ?_; rintro e w' ⟨rfl, rfl⟩)
    go_ret
    exact ⟨rfl, (Below.refl _ _).alloc (Nat.le_refl _) _⟩
  | true =>
    have e : ptB x y = inB y (-1000000) 1000000 := by unfold ptB; rw [h1]; rfl
    rw [e]
    generalize h2 : inB y (-1000000) 1000000 = v
    go_enter Tryd.func41, Tryd.ntmps41
    go_wp2_with (go_at_call 43; refine (l01In_any _ _ _ _).mono ?_; rintro e w' ⟨rfl, rfl⟩)
    go_ret
    exact ⟨rfl, (Below.refl _ _).alloc (Nat.le_refl _) _⟩
/-- The square of a distance. -/
def sqD (a b c d : Int) : Int := (a - c) * (a - c) + (b - d) * (b - d)
theorem sqD_bd {a b c d : Int} (h : ptB a b = true) (h2 : ptB c d = true) : 0 ≤ sqD a b c d ∧ sqD a b c d ≤ 8000000000000 ∧ 0 ≤ (a - c) * (a - c) ∧ (a - c) * (a - c) ≤ 4000000000000 ∧ 0 ≤ (b - d) * (b - d) ∧ (b - d) * (b - d) ≤ 4000000000000 := by
  have h3 := ptB_t h
  have h4 := ptB_t h2
  have key : ∀ x : Int, -2000000 ≤ x → x ≤ 2000000 → 0 ≤ x * x ∧ x * x ≤ 4000000000000 := fun x h1 h2 => by
    rcases Int.le_total 0 x with h | h
    · have := Int.mul_le_mul h2 h2 h (by omega)
      have := Int.mul_nonneg h h
      omega
    · have e : x * x = (-x) * (-x) := by rw [Int.neg_mul_neg]
      have := Int.mul_le_mul (show -x ≤ 2000000 by omega) (show -x ≤ 2000000 by omega) (by omega) (by omega)
      have := Int.mul_nonneg (show 0 ≤ -x by omega) (show 0 ≤ -x by omega)
      omega
  have k1 := key (a - c) (by omega) (by omega)
  have k2 := key (b - d) (by omega) (by omega)
  unfold sqD
  omega
set_option maxHeartbeats 2000000 in
theorem squareDistance_any (a b c d : Int) (h : ptB a b = true) (h2 : ptB c d = true) (w : World) : Calls Tryd.prog 26 #[.agg #[.int .i64 a, .int .i64 b], .agg #[.int .i64 c, .int .i64 d]] w fun e w' => e = .returned (.int .i64 (sqD a b c d)) ∧ Below w.heap.size w w' := by
  obtain ⟨s0, s1, p0, p1, q0, q1⟩ := sqD_bd h h2
  have h3 := ptB_t h
  have h4 := ptB_t h2
  unfold sqD at *
  obtain ⟨x, hx⟩ : ∃ x, a - c = x := ⟨_, rfl⟩
  obtain ⟨y, hy⟩ : ∃ y, b - d = y := ⟨_, rfl⟩
  rw [hx] at s0 s1 p0 p1 ⊢
  rw [hy] at s0 s1 q0 q1 ⊢
  have w1 : IntKind.i64.wrap x = x := by rw [IntKind.wrap_i64]; omega
  have w2 : IntKind.i64.wrap y = y := by rw [IntKind.wrap_i64]; omega
  obtain ⟨p, hp⟩ : ∃ p, x * x = p := ⟨_, rfl⟩
  obtain ⟨q, hq⟩ : ∃ q, y * y = q := ⟨_, rfl⟩
  rw [hp] at s0 s1 p0 p1 ⊢
  rw [hq] at s0 s1 q0 q1 ⊢
  have w3 : IntKind.i64.wrap p = p := by rw [IntKind.wrap_i64]; omega
  have w4 : IntKind.i64.wrap q = q := by rw [IntKind.wrap_i64]; omega
  have w5 : IntKind.i64.wrap (p + q) = p + q := by rw [IntKind.wrap_i64]; omega
  have hW := (Whole.new w 32 #[.int .i64 a, .int .i64 b]).alloc (.cells #[.int .i64 c, .int .i64 d] 32)
  have hW2 := Whole.new (w.alloc (.cells #[.int .i64 a, .int .i64 b] 32)) 32 #[.int .i64 c, .int .i64 d]
  simp only [World.size_alloc] at hW2
  have hb : Below w.heap.size w ((w.alloc (.cells #[.int .i64 a, .int .i64 b] 32)).alloc (.cells #[.int .i64 c, .int .i64 d] 32)) := ((Below.refl _ _).alloc (Nat.le_refl _) _).alloc (by simp) _
  have C0 : ∀ u : Over ((w.alloc (.cells #[.int .i64 a, .int .i64 b] 32)).alloc (.cells #[.int .i64 c, .int .i64 d] 32)), u.w.cell? ⟨w.heap.size, 0, none⟩ = some (.int .i64 a) := fun u => u.cell (by simp; omega) (by first | simp | simpa using hW.cell 0)
  have C1 : ∀ u : Over ((w.alloc (.cells #[.int .i64 a, .int .i64 b] 32)).alloc (.cells #[.int .i64 c, .int .i64 d] 32)), u.w.cell? ⟨w.heap.size, 1, none⟩ = some (.int .i64 b) := fun u => u.cell (by simp; omega) (by first | simp | simpa using hW.cell 1)
  have C2 : ∀ u : Over ((w.alloc (.cells #[.int .i64 a, .int .i64 b] 32)).alloc (.cells #[.int .i64 c, .int .i64 d] 32)), u.w.cell? ⟨w.heap.size + 1, 0, none⟩ = some (.int .i64 c) := fun u => u.cell (by simp) (by simp)
  have C3 : ∀ u : Over ((w.alloc (.cells #[.int .i64 a, .int .i64 b] 32)).alloc (.cells #[.int .i64 c, .int .i64 d] 32)), u.w.cell? ⟨w.heap.size + 1, 1, none⟩ = some (.int .i64 d) := fun u => u.cell (by simp) (by simp)
  replace hb := Lib.hid hb
  clear h h2 hW hW2
  go_enter Tryd.func26, Tryd.ntmps26
  go_wp2_with fail
  refine wp_region_over (by kernel_rfl) (by kernel_rfl) ?_
  repeat (go_big_quiet_step (fail))
  refine wpQuiet_nil ?_
  rintro _ ⟨u, rfl⟩
  clear C0 C1 C2 C3
  have hbu := hb.out.trans (u.ok.mono (by simp; omega))
  go_wp2
  go_ret
  exact ⟨rfl, hbu⟩
end Go.Proofs.YtfllbhgngolfnaaDoor
