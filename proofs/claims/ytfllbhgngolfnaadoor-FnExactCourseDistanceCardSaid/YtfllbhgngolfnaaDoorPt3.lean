/- Lines: the program's and the reference's. -/
import Derived.Test.YtfllbhgngolfnaaDoorPt2
import Derived.Laws.StructEq
set_option linter.unusedSimpArgs false
set_option linter.unusedVariables false
namespace Go.Proofs.YtfllbhgngolfnaaDoor
open Go.RowKit

/-- Two points compared. -/
theorem eqPt (a b c d : Int) (w : World) : (Op.equalIn 10000 32 (.agg #[.int .i64 a, .int .i64 b]) (.agg #[.int .i64 c, .int .i64 d])).run Tryd.prog w = .ok (a == c && b == d) w := by
  have u3 := Tryd.underlying2
  have a3 := Tryd.isAgg2
  have z3 := Tryd.sizeOf2
  have hS : Tryd.prog.underlying 32 = some (.struct (Tryd.prog.fieldsOf 32)) := by kernel_rfl
  rw [show (10000 : Nat) = 9999 + 1 from rfl, run_equalIn_agg w 9999 32 _ _ hS (by kernel_rfl)]
  simp only [Program.fieldsOf, Tryd.underlying32]
  go_simp
  by_cases h1 : a = c <;> by_cases h2 : b = d <;> simp [h1, h2]
set_option maxRecDepth 100000 in
set_option maxHeartbeats 4000000 in
theorem isSegment_any (a b c d : Int) (v : Bool) (hv : lnB a b c d = v) (w : World) : Calls Tryd.prog 45 #[.agg #[.int .i64 a, .int .i64 b, .int .i64 c, .int .i64 d]] w fun e w' => e = .returned (.bool v) ∧ Below w.heap.size w w' := by
  have hW := Whole.new w 77 #[.int .i64 a, .int .i64 b, .int .i64 c, .int .i64 d]
  have hb := (Below.refl w.heap.size w).alloc (Nat.le_refl _) (.cells #[.int .i64 a, .int .i64 b, .int .i64 c, .int .i64 d] 77)
  have hp := fun W => isPoint_any a b W
  have hp2 := fun W => isPoint_any c d W
  unfold lnB at hv
  cases h1 : ptB a b with
  | false =>
    rw [h1] at hv hp
    have hv : v = false := by rw [← hv]; rfl
    subst hv
    replace hp := Lib.hid hp
    clear hW
    go_enter Tryd.func45, Tryd.ntmps45
    go_wp2_with fail
    refine (hp.out _).mono ?_
    rintro e w1 ⟨rfl, hb1⟩
    go_wp2
    go_ret
    exact ⟨rfl, hb.trans (hb1.mono hb.size)⟩
  | true =>
    rw [h1] at hv hp
    replace hp := Lib.hid hp
    cases h2 : ptB c d with
    | false =>
      rw [h2] at hv hp2
      have hv : v = false := by rw [← hv]; rfl
      subst hv
      replace hp2 := Lib.hid hp2
      go_enter Tryd.func45, Tryd.ntmps45
      go_wp2_with fail
      refine (hp.out _).mono ?_
      rintro e w1 ⟨rfl, hb1⟩
      have hW1 := hW.below hb1 (by simp)
      have hbb := hb.trans (hb1.mono hb.size)
      have y2 : w1.cell? ⟨w.heap.size, 2, none⟩ = some (.int .i64 c) := by simpa using hW1.cell 2
      have y3 : w1.cell? ⟨w.heap.size, 3, none⟩ = some (.int .i64 d) := by simpa using hW1.cell 3
      clear hW hW1 hb hb1
      go_wp2_with fail
      refine (hp2.out _).mono ?_
      rintro e w2 ⟨rfl, hb2⟩
      go_wp2
      go_ret
      exact ⟨rfl, hbb.trans (hb2.mono hbb.size)⟩
    | true =>
      rw [h2] at hv hp2
      replace hp2 := Lib.hid hp2
      have hv : v = !(decide (a = c) && decide (b = d)) := by rw [← hv]; rfl
      clear h1 h2
      have hop : ∀ W, (binOp .neq 32 (.agg #[.int .i64 a, .int .i64 b]) (.agg #[.int .i64 c, .int .i64 d])).run Tryd.prog W = .ok (.bool v) W := fun W => by
        rw [run_neq_struct, eqPt, hv]
        by_cases e1 : a = c <;> by_cases e2 : b = d <;> simp [e1, e2]
      replace hop := Lib.hid hop
      go_enter Tryd.func45, Tryd.ntmps45
      go_wp2_with fail
      refine (hp.out _).mono ?_
      rintro e w1 ⟨rfl, hb1⟩
      have hW1 := hW.below hb1 (by simp)
      have hbb := hb.trans (hb1.mono hb.size)
      have y2 : w1.cell? ⟨w.heap.size, 2, none⟩ = some (.int .i64 c) := by simpa using hW1.cell 2
      have y3 : w1.cell? ⟨w.heap.size, 3, none⟩ = some (.int .i64 d) := by simpa using hW1.cell 3
      clear hW hb
      go_wp2_with fail
      refine (hp2.out _).mono ?_
      rintro e w2 ⟨rfl, hb2⟩
      have hW2 := hW1.below hb2 hW1.lt
      have hbb2 := hbb.trans (hb2.mono hbb.size)
      have z0 : w2.cell? ⟨w.heap.size, 0, none⟩ = some (.int .i64 a) := by simpa using hW2.cell 0
      have z1 : w2.cell? ⟨w.heap.size, 1, none⟩ = some (.int .i64 b) := by simpa using hW2.cell 1
      have z2 : w2.cell? ⟨w.heap.size, 2, none⟩ = some (.int .i64 c) := by simpa using hW2.cell 2
      have z3 : w2.cell? ⟨w.heap.size, 3, none⟩ = some (.int .i64 d) := by simpa using hW2.cell 3
      clear hW1 hW2 hb1 hb2 hbb y2 y3 hp hp2
      have hop := hop.out
      clear hv
      go_wp2_with (simp only [hop])
      go_ret
      exact ⟨rfl, hbb2⟩
set_option maxRecDepth 100000 in
set_option maxHeartbeats 4000000 in
theorem sIsLine_any (a b c d : Int) (v : Bool) (hv : lnB a b c d = v) (w : World) : Calls Tryd.prog 29 #[.agg #[.int .i64 a, .int .i64 b, .int .i64 c, .int .i64 d]] w fun e w' => e = .returned (.bool v) ∧ Below w.heap.size w w' := by
  have hW := Whole.new w 34 #[.int .i64 a, .int .i64 b, .int .i64 c, .int .i64 d]
  have hb := (Below.refl w.heap.size w).alloc (Nat.le_refl _) (.cells #[.int .i64 a, .int .i64 b, .int .i64 c, .int .i64 d] 34)
  have hp := fun W => sIsPoint_any a b W
  have hp2 := fun W => sIsPoint_any c d W
  unfold lnB at hv
  cases h1 : ptB a b with
  | false =>
    rw [h1] at hv hp
    have hv : v = false := by rw [← hv]; rfl
    subst hv
    replace hp := Lib.hid hp
    clear hW
    go_enter Tryd.func29, Tryd.ntmps29
    go_wp2_with fail
    refine (hp.out _).mono ?_
    rintro e w1 ⟨rfl, hb1⟩
    go_wp2
    go_ret
    exact ⟨rfl, hb.trans (hb1.mono hb.size)⟩
  | true =>
    rw [h1] at hv hp
    replace hp := Lib.hid hp
    cases h2 : ptB c d with
    | false =>
      rw [h2] at hv hp2
      have hv : v = false := by rw [← hv]; rfl
      subst hv
      replace hp2 := Lib.hid hp2
      go_enter Tryd.func29, Tryd.ntmps29
      go_wp2_with fail
      refine (hp.out _).mono ?_
      rintro e w1 ⟨rfl, hb1⟩
      have hW1 := hW.below hb1 (by simp)
      have hbb := hb.trans (hb1.mono hb.size)
      have y2 : w1.cell? ⟨w.heap.size, 2, none⟩ = some (.int .i64 c) := by simpa using hW1.cell 2
      have y3 : w1.cell? ⟨w.heap.size, 3, none⟩ = some (.int .i64 d) := by simpa using hW1.cell 3
      clear hW hW1 hb hb1
      go_wp2_with fail
      refine (hp2.out _).mono ?_
      rintro e w2 ⟨rfl, hb2⟩
      go_wp2
      go_ret
      exact ⟨rfl, hbb.trans (hb2.mono hbb.size)⟩
    | true =>
      rw [h2] at hv hp2
      replace hp2 := Lib.hid hp2
      have hv : v = !(decide (a = c) && decide (b = d)) := by rw [← hv]; rfl
      clear h1 h2
      have hop : ∀ W, (binOp .neq 32 (.agg #[.int .i64 a, .int .i64 b]) (.agg #[.int .i64 c, .int .i64 d])).run Tryd.prog W = .ok (.bool v) W := fun W => by
        rw [run_neq_struct, eqPt, hv]
        by_cases e1 : a = c <;> by_cases e2 : b = d <;> simp [e1, e2]
      replace hop := Lib.hid hop
      go_enter Tryd.func29, Tryd.ntmps29
      go_wp2_with fail
      refine (hp.out _).mono ?_
      rintro e w1 ⟨rfl, hb1⟩
      have hW1 := hW.below hb1 (by simp)
      have hbb := hb.trans (hb1.mono hb.size)
      have y2 : w1.cell? ⟨w.heap.size, 2, none⟩ = some (.int .i64 c) := by simpa using hW1.cell 2
      have y3 : w1.cell? ⟨w.heap.size, 3, none⟩ = some (.int .i64 d) := by simpa using hW1.cell 3
      clear hW hb
      go_wp2_with fail
      refine (hp2.out _).mono ?_
      rintro e w2 ⟨rfl, hb2⟩
      have hW2 := hW1.below hb2 hW1.lt
      have hbb2 := hbb.trans (hb2.mono hbb.size)
      have z0 : w2.cell? ⟨w.heap.size, 0, none⟩ = some (.int .i64 a) := by simpa using hW2.cell 0
      have z1 : w2.cell? ⟨w.heap.size, 1, none⟩ = some (.int .i64 b) := by simpa using hW2.cell 1
      have z2 : w2.cell? ⟨w.heap.size, 2, none⟩ = some (.int .i64 c) := by simpa using hW2.cell 2
      have z3 : w2.cell? ⟨w.heap.size, 3, none⟩ = some (.int .i64 d) := by simpa using hW2.cell 3
      clear hW1 hW2 hb1 hb2 hbb y2 y3 hp hp2
      have hop := hop.out
      clear hv
      go_wp2_with (simp only [hop])
      go_ret
      exact ⟨rfl, hbb2⟩
theorem isLine_any (a b c d : Int) (v : Bool) (hv : lnB a b c d = v) (w : World) : Calls Tryd.prog 35 #[.agg #[.int .i64 a, .int .i64 b, .int .i64 c, .int .i64 d]] w fun e w' => e = .returned (.bool v) ∧ Below w.heap.size w w' := by
  have hb := (Below.refl w.heap.size w).alloc (Nat.le_refl _) (.cells #[.int .i64 a, .int .i64 b, .int .i64 c, .int .i64 d] 34)
  have hp := fun W => isSegment_any a b c d v hv W
  replace hp := Lib.hid hp
  clear hv
  go_enter Tryd.func35, Tryd.ntmps35
  go_wp2_with fail
  refine (hp.out _).mono ?_
  rintro e w1 ⟨rfl, hb1⟩
  go_wp2
  go_ret
  exact ⟨rfl, hb.trans (hb1.mono hb.size)⟩
end Go.Proofs.YtfllbhgngolfnaaDoor
