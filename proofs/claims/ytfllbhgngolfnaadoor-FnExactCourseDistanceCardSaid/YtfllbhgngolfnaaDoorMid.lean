/- The middle of a line: the program's and the reference's. -/
import Derived.Test.YtfllbhgngolfnaaDoorPt3
import Derived.StillTailTactics
set_option linter.unusedSimpArgs false
set_option linter.unusedVariables false
namespace Go.Proofs.YtfllbhgngolfnaaDoor
open Go.RowKit

theorem lnB_t {a b c d : Int} (h : lnB a b c d = true) : ptB a b = true ∧ ptB c d = true := by
  unfold lnB at h
  simp only [Bool.and_eq_true] at h
  exact ⟨h.1.1, h.1.2⟩
theorem mid_bd {a b c d : Int} (h : lnB a b c d = true) : ptB ((a + c) / 2) ((b + d) / 2) = true := by
  obtain ⟨h1, h2⟩ := lnB_t h
  have h3 := ptB_t h1
  have h4 := ptB_t h2
  unfold ptB
  rw [inB_mk (by omega) (by omega), inB_mk (by omega) (by omega)]; rfl
/-- A region that draws its order, reads and calls quietly, and writes at its end alone. -/
theorem wp_still_tail {P : Program} {id : Nat} {Q : Exit → Act → World → Prop} {a : Act} {w : World} {l : List Oper} (n : Nat) (hm : P.follows .mixedOrders = true) (hB : Region.lexTailB .any l.toArray n = true)
    (h : ∀ W, W = w.drew → wpStill P l.toArray W (fun a' => wpList P l.toArray Q (l.drop n) a' W) (l.take n) a) : (Code.region id l.toArray true).wp P Q a w :=
  wp_region_still_tail n hm hB (h _ rfl)
set_option maxRecDepth 100000 in
set_option maxHeartbeats 4000000 in
theorem middleOf_any (a b c d p q : Int) (h : lnB a b c d = true) (hp : (a + c) / 2 = p) (hq : (b + d) / 2 = q) (w : World) : Calls Tryd.prog 39 #[.agg #[.int .i64 a, .int .i64 b, .int .i64 c, .int .i64 d]] w fun e w' => e = .returned (.agg #[.int .i64 p, .int .i64 q]) ∧ Below w.heap.size w w' := by
  obtain ⟨h1, h2⟩ := lnB_t h
  have h3 := ptB_t h1
  have h4 := ptB_t h2
  have w1 : IntKind.i64.wrap (a + c) = a + c := by rw [IntKind.wrap_i64]; omega
  have w2 : IntKind.i64.wrap (b + d) = b + d := by rw [IntKind.wrap_i64]; omega
  have f1 : ∀ W, Calls Tryd.prog 51 #[.int .i64 (a + c), .int .i64 2] W fun e w' => e = .returned (.int .i64 p) ∧ w' = W := fun W => by
    rw [← hp]; exact (floorDiv_any (a + c) 2 W (by omega) (by omega) (by omega)).mono fun e w' ⟨x, y⟩ => ⟨x, y.symm⟩
  have f2 : ∀ W, Calls Tryd.prog 51 #[.int .i64 (b + d), .int .i64 2] W fun e w' => e = .returned (.int .i64 q) ∧ w' = W := fun W => by
    rw [← hq]; exact (floorDiv_any (b + d) 2 W (by omega) (by omega) (by omega)).mono fun e w' ⟨x, y⟩ => ⟨x, y.symm⟩
  have hb : Below w.heap.size w (((w.alloc (.cells #[.int .i64 a, .int .i64 b, .int .i64 c, .int .i64 d] 34)).alloc (.cells #[.int .i64 0, .int .i64 0] 32)).drew) := (((Below.refl _ _).alloc (Nat.le_refl _) _).alloc (by simp) _).drew
  have hW0 : Whole (((w.alloc (.cells #[.int .i64 a, .int .i64 b, .int .i64 c, .int .i64 d] 34)).alloc (.cells #[.int .i64 0, .int .i64 0] 32)).drew) w.heap.size 34 #[.int .i64 a, .int .i64 b, .int .i64 c, .int .i64 d] := ((Whole.new w 34 #[.int .i64 a, .int .i64 b, .int .i64 c, .int .i64 d]).alloc _).drew
  have hW1 : Whole (((w.alloc (.cells #[.int .i64 a, .int .i64 b, .int .i64 c, .int .i64 d] 34)).alloc (.cells #[.int .i64 0, .int .i64 0] 32)).drew) (w.heap.size + 1) 32 #[.int .i64 0, .int .i64 0] := by
    have := (Whole.new (w.alloc (.cells #[.int .i64 a, .int .i64 b, .int .i64 c, .int .i64 d] 34)) 32 #[.int .i64 0, .int .i64 0]).drew
    simpa only [World.size_alloc] using this
  replace f1 := Lib.hid f1
  replace f2 := Lib.hid f2
  have hpack := Lib.hid (And.intro hb (And.intro hW0 hW1))
  clear h h1 h2 h3 h4 hp hq hb hW0 hW1
  go_enter Tryd.func39, Tryd.ntmps39
  go_wp2_with fail
  refine wp_still_tail 17 (by kernel_rfl) (by kernel_rfl) (fun W hW => ?_)
  replace hpack := hpack.out
  rw [← hW] at hpack
  obtain ⟨hb, hW0, hW1⟩ := hpack
  have c0 := hW0.cell 0
  have c1 := hW0.cell 1
  have c2 := hW0.cell 2
  have c3 := hW0.cell 3
  have d0 := hW1.cell 0
  have d1 := hW1.cell 1
  have e0 := hW1.frz 0
  have e1 := hW1.frz 1
  simp at c0 c1 c2 c3 d0 d1
  replace hb := Lib.hid hb
  have hW2 := (hW1.put 0 (.int .i64 p)).put 1 (.int .i64 q)
  have z0 := hW2.cell 0
  have z1 := hW2.cell 1
  simp [Array.getElem?_setIfInBounds] at z0 z1
  clear hW hW0 hW1 hW2
  simp only [List.take_succ_cons, List.take_zero, List.drop_succ_cons, List.drop_zero]
  repeat still_step
  still_call (f1.out _)
  repeat still_step
  still_call (f2.out _)
  repeat still_step
  refine wpStill_nil ?_
  go_wp2
  refine bodyPost_ret (v := .agg #[.int .i64 p, .int .i64 q]) (by simp [results, Tryd.results39, go_sem, z0, z1]) rfl ?_
  exact ⟨rfl, (hb.out.setCell (p := ⟨w.heap.size + 1, 0, none⟩) (by simp) _).setCell (p := ⟨w.heap.size + 1, 1, none⟩) (by simp) _⟩
set_option maxRecDepth 100000 in
set_option maxHeartbeats 4000000 in
theorem l04Middle_any (a b c d p q : Int) (h : lnB a b c d = true) (hp : (a + c) / 2 = p) (hq : (b + d) / 2 = q) (w : World) : Calls Tryd.prog 32 #[.agg #[.int .i64 a, .int .i64 b, .int .i64 c, .int .i64 d]] w fun e w' => e = .returned (.agg #[.int .i64 p, .int .i64 q]) ∧ Below w.heap.size w w' := by
  obtain ⟨h1, h2⟩ := lnB_t h
  have h3 := ptB_t h1
  have h4 := ptB_t h2
  have w1 : IntKind.i64.wrap (a + c) = a + c := by rw [IntKind.wrap_i64]; omega
  have w2 : IntKind.i64.wrap (b + d) = b + d := by rw [IntKind.wrap_i64]; omega
  have f1 : ∀ W, Calls Tryd.prog 44 #[.int .i64 (a + c), .int .i64 2] W fun e w' => e = .returned (.int .i64 p) ∧ w' = W := fun W => by
    rw [← hp]; exact (l01Floor_any (a + c) 2 W (by omega) (by omega) (by omega)).mono fun e w' ⟨x, y⟩ => ⟨x, y.symm⟩
  have f2 : ∀ W, Calls Tryd.prog 44 #[.int .i64 (b + d), .int .i64 2] W fun e w' => e = .returned (.int .i64 q) ∧ w' = W := fun W => by
    rw [← hq]; exact (l01Floor_any (b + d) 2 W (by omega) (by omega) (by omega)).mono fun e w' ⟨x, y⟩ => ⟨x, y.symm⟩
  have hb : Below w.heap.size w (((w.alloc (.cells #[.int .i64 a, .int .i64 b, .int .i64 c, .int .i64 d] 34)).alloc (.cells #[.int .i64 0, .int .i64 0] 32)).drew) := (((Below.refl _ _).alloc (Nat.le_refl _) _).alloc (by simp) _).drew
  have hW0 : Whole (((w.alloc (.cells #[.int .i64 a, .int .i64 b, .int .i64 c, .int .i64 d] 34)).alloc (.cells #[.int .i64 0, .int .i64 0] 32)).drew) w.heap.size 34 #[.int .i64 a, .int .i64 b, .int .i64 c, .int .i64 d] := ((Whole.new w 34 #[.int .i64 a, .int .i64 b, .int .i64 c, .int .i64 d]).alloc _).drew
  have hW1 : Whole (((w.alloc (.cells #[.int .i64 a, .int .i64 b, .int .i64 c, .int .i64 d] 34)).alloc (.cells #[.int .i64 0, .int .i64 0] 32)).drew) (w.heap.size + 1) 32 #[.int .i64 0, .int .i64 0] := by
    have := (Whole.new (w.alloc (.cells #[.int .i64 a, .int .i64 b, .int .i64 c, .int .i64 d] 34)) 32 #[.int .i64 0, .int .i64 0]).drew
    simpa only [World.size_alloc] using this
  replace f1 := Lib.hid f1
  replace f2 := Lib.hid f2
  have hpack := Lib.hid (And.intro hb (And.intro hW0 hW1))
  clear h h1 h2 h3 h4 hp hq hb hW0 hW1
  go_enter Tryd.func32, Tryd.ntmps32
  go_wp2_with fail
  refine wp_still_tail 17 (by kernel_rfl) (by kernel_rfl) (fun W hW => ?_)
  replace hpack := hpack.out
  rw [← hW] at hpack
  obtain ⟨hb, hW0, hW1⟩ := hpack
  have c0 := hW0.cell 0
  have c1 := hW0.cell 1
  have c2 := hW0.cell 2
  have c3 := hW0.cell 3
  have d0 := hW1.cell 0
  have d1 := hW1.cell 1
  have e0 := hW1.frz 0
  have e1 := hW1.frz 1
  simp at c0 c1 c2 c3 d0 d1
  replace hb := Lib.hid hb
  have hW2 := (hW1.put 0 (.int .i64 p)).put 1 (.int .i64 q)
  have z0 := hW2.cell 0
  have z1 := hW2.cell 1
  simp [Array.getElem?_setIfInBounds] at z0 z1
  clear hW hW0 hW1 hW2
  simp only [List.take_succ_cons, List.take_zero, List.drop_succ_cons, List.drop_zero]
  repeat still_step
  still_call (f1.out _)
  repeat still_step
  still_call (f2.out _)
  repeat still_step
  refine wpStill_nil ?_
  go_wp2
  refine bodyPost_ret (v := .agg #[.int .i64 p, .int .i64 q]) (by simp [results, Tryd.results32, go_sem, z0, z1]) rfl ?_
  exact ⟨rfl, (hb.out.setCell (p := ⟨w.heap.size + 1, 0, none⟩) (by simp) _).setCell (p := ⟨w.heap.size + 1, 1, none⟩) (by simp) _⟩
end Go.Proofs.YtfllbhgngolfnaaDoor
