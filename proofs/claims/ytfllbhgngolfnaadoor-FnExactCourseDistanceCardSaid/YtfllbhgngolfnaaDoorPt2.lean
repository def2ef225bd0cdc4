/- Lines, and the reference's square of a distance. -/
import Derived.Test.YtfllbhgngolfnaaDoorPt
set_option linter.unusedSimpArgs false
set_option linter.unusedVariables false
namespace Go.Proofs.YtfllbhgngolfnaaDoor
open Go.RowKit

set_option maxHeartbeats 2000000 in
theorem l01Minus_any (a b c d : Int) (h : ptB a b = true) (h2 : ptB c d = true) (w : World) : Calls Tryd.prog 34 #[.agg #[.int .i64 a, .int .i64 b], .agg #[.int .i64 c, .int .i64 d]] w fun e w' => e = .returned (.agg #[.int .i64 (a - c), .int .i64 (b - d)]) ∧ Below w.heap.size w w' := by
  have h3 := ptB_t h
  have h4 := ptB_t h2
  have w1 : IntKind.i64.wrap (a - c) = a - c := by rw [IntKind.wrap_i64]; omega
  have w2 : IntKind.i64.wrap (b - d) = b - d := by rw [IntKind.wrap_i64]; omega
  go_enter Tryd.func34, Tryd.ntmps34
  go_wp2
  refine bodyPost_ret (v := .agg #[.int .i64 (a - c), .int .i64 (b - d)]) (by simp [results, Tryd.results34, go_sem]) rfl ?_
  exact ⟨rfl, (((Below.refl _ _).alloc (Nat.le_refl _) _).alloc (by simp) _).alloc (by simp; omega) _⟩
set_option maxHeartbeats 2000000 in
theorem l01Dot_any (a b c d p q : Int) (hp : a * c = p) (hq : b * d = q) (p0 : 0 ≤ p) (p1 : p ≤ 4000000000000) (q0 : 0 ≤ q) (q1 : q ≤ 4000000000000) (w : World) : Calls Tryd.prog 33 #[.agg #[.int .i64 a, .int .i64 b], .agg #[.int .i64 c, .int .i64 d]] w fun e w' => e = .returned (.int .i64 (p + q)) ∧ Below w.heap.size w w' := by
  have w3 : IntKind.i64.wrap p = p := by rw [IntKind.wrap_i64]; omega
  have w4 : IntKind.i64.wrap q = q := by rw [IntKind.wrap_i64]; omega
  have w5 : IntKind.i64.wrap (p + q) = p + q := by rw [IntKind.wrap_i64]; omega
  go_enter Tryd.func33, Tryd.ntmps33
  go_wp2
  go_ret
  exact ⟨rfl, ((Below.refl _ _).alloc (Nat.le_refl _) _).alloc (by simp) _⟩
set_option maxHeartbeats 2000000 in
theorem l01Square_any (a b c d : Int) (h : ptB a b = true) (h2 : ptB c d = true) (w : World) : Calls Tryd.prog 20 #[.agg #[.int .i64 a, .int .i64 b], .agg #[.int .i64 c, .int .i64 d]] w fun e w' => e = .returned (.int .i64 (sqD a b c d)) ∧ Below w.heap.size w w' := by
  obtain ⟨s0, s1, p0, p1, q0, q1⟩ := sqD_bd h h2
  have hm := fun W => l01Minus_any a b c d h h2 W
  have hd := fun W => l01Dot_any (a - c) (b - d) (a - c) (b - d) _ _ rfl rfl p0 p1 q0 q1 W
  unfold sqD
  have hW := (Whole.new w 32 #[.int .i64 a, .int .i64 b]).alloc (.cells #[.int .i64 c, .int .i64 d] 32)
  have hW2 := Whole.new (w.alloc (.cells #[.int .i64 a, .int .i64 b] 32)) 32 #[.int .i64 c, .int .i64 d]
  simp only [World.size_alloc] at hW2
  have hb : Below w.heap.size w ((w.alloc (.cells #[.int .i64 a, .int .i64 b] 32)).alloc (.cells #[.int .i64 c, .int .i64 d] 32)) := ((Below.refl _ _).alloc (Nat.le_refl _) _).alloc (by simp) _
  have C0 : ∀ u : Over ((w.alloc (.cells #[.int .i64 a, .int .i64 b] 32)).alloc (.cells #[.int .i64 c, .int .i64 d] 32)), u.w.cell? ⟨w.heap.size, 0, none⟩ = some (.int .i64 a) := fun u => u.cell (by simp; omega) (by first | simp | simpa using hW.cell 0)
  have C1 : ∀ u : Over ((w.alloc (.cells #[.int .i64 a, .int .i64 b] 32)).alloc (.cells #[.int .i64 c, .int .i64 d] 32)), u.w.cell? ⟨w.heap.size, 1, none⟩ = some (.int .i64 b) := fun u => u.cell (by simp; omega) (by first | simp | simpa using hW.cell 1)
  have C2 : ∀ u : Over ((w.alloc (.cells #[.int .i64 a, .int .i64 b] 32)).alloc (.cells #[.int .i64 c, .int .i64 d] 32)), u.w.cell? ⟨w.heap.size + 1, 0, none⟩ = some (.int .i64 c) := fun u => u.cell (by simp) (by simp)
  have C3 : ∀ u : Over ((w.alloc (.cells #[.int .i64 a, .int .i64 b] 32)).alloc (.cells #[.int .i64 c, .int .i64 d] 32)), u.w.cell? ⟨w.heap.size + 1, 1, none⟩ = some (.int .i64 d) := fun u => u.cell (by simp) (by simp)
  replace hb := Lib.hid hb
  generalize (a - c) * (a - c) = p at *
  generalize (b - d) * (b - d) = q at *
  replace hm := Lib.hid hm
  replace hd := Lib.hid hd
  clear h h2 hW hW2
  go_enter Tryd.func20, Tryd.ntmps20
  go_wp2_with fail
  refine wp_region_over (by kernel_rfl) (by kernel_rfl) ?_
  repeat (go_big_quiet_step (first | (go_at_call 34; exact over_call (hm.out _)) | (go_at_call 33; exact over_call (hd.out _))))
  refine wpQuiet_nil ?_
  rintro _ ⟨u, rfl⟩
  clear C0 C1 C2 C3
  have hbu := hb.out.trans (u.ok.mono (by simp; omega))
  go_wp2
  go_ret
  exact ⟨rfl, hbu⟩
end Go.Proofs.YtfllbhgngolfnaaDoor
