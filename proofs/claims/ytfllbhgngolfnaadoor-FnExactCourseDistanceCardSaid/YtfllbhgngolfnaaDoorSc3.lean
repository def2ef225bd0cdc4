/- Courses: the copy and the comparison that the law uses (lines, courses). -/
import Derived.Test.YtfllbhgngolfnaaDoorSc2
import Derived.Test.YtfllbhgngolfnaaDoorSta
set_option linter.unusedSimpArgs false
set_option linter.unusedVariables false
namespace Go.Proofs.YtfllbhgngolfnaaDoor
open Go.RowKit

set_option maxRecDepth 100000 in
set_option maxHeartbeats 4000000 in
theorem toLine_any (a b c d : Int) (w : World) : Calls Tryd.prog 11 #[.agg #[.int .i64 a, .int .i64 b, .int .i64 c, .int .i64 d]] w fun e' w' => e' = .returned (.agg #[.int .i64 a, .int .i64 b, .int .i64 c, .int .i64 d]) ∧ Below w.heap.size w w' := by
  have m1 := Lib.hid (fun W => toPoint_any a b W)
  have m2 := Lib.hid (fun W => toPoint_any c d W)
  have hbel := Lib.hid ((((Below.refl w.heap.size w).alloc (Nat.le_refl _) (.cells #[.int .i64 a, .int .i64 b, .int .i64 c, .int .i64 d] 25)).alloc (by simp) (.cells #[.int .i64 0, .int .i64 0, .int .i64 0, .int .i64 0] 34)).alloc (by simp; omega) (.cells #[.int .i64 0, .int .i64 0, .int .i64 0, .int .i64 0] 34))
  have hX := Lib.hid (((Whole.new w 25 #[.int .i64 a, .int .i64 b, .int .i64 c, .int .i64 d]).alloc (.cells #[.int .i64 0, .int .i64 0, .int .i64 0, .int .i64 0] 34)).alloc (.cells #[.int .i64 0, .int .i64 0, .int .i64 0, .int .i64 0] 34))
  have hR := (Whole.new (w.alloc (.cells #[.int .i64 a, .int .i64 b, .int .i64 c, .int .i64 d] 25)) 34 #[.int .i64 0, .int .i64 0, .int .i64 0, .int .i64 0]).alloc (.cells #[.int .i64 0, .int .i64 0, .int .i64 0, .int .i64 0] 34)
  have hO := Whole.new ((w.alloc (.cells #[.int .i64 a, .int .i64 b, .int .i64 c, .int .i64 d] 25)).alloc (.cells #[.int .i64 0, .int .i64 0, .int .i64 0, .int .i64 0] 34)) 34 #[.int .i64 0, .int .i64 0, .int .i64 0, .int .i64 0]
  simp only [World.size_alloc] at hR hO
  replace hR := Lib.hid hR
  replace hO := Lib.hid hO
  go_enter Tryd.func11, Tryd.ntmps11
  go_wp2_with fail
  refine (m1.out _).mono ?_
  rintro e1 v0 ⟨rfl, hb0⟩
  have hX0 := Lib.hid (hX.out.below hb0 (by simp; omega))
  have hR0 := Lib.hid (hR.out.below hb0 (by simp))
  have hO0 := Lib.hid (hO.out.below hb0 (by simp))
  have hs0 := hb0.size
  have hbel0 := Lib.hid (hbel.out.trans (hb0.mono (by simp; omega)))
  clear hX hR hO hbel
  have hX := hX0
  have hR := hR0
  have hO := hO0
  have hbel := hbel0
  clear hX0 hR0 hO0 hbel0
  simp only [World.size_alloc] at hs0
  have o0 := hO.out.cell 0
  have f0 := hO.out.frz 0
  have o1 := hO.out.cell 1
  have f1 := hO.out.frz 1
  have hbs0 := Lib.hid ((hbel.out.setCell (p := ⟨w.heap.size + 1 + 1, 0, none⟩) (by simp; omega) (.int .i64 a)).setCell (p := ⟨w.heap.size + 1 + 1, 1, none⟩) (by simp; omega) (.int .i64 b))
  have hXs0 := Lib.hid ((hX.out.far (p := ⟨w.heap.size + 1 + 1, 0, none⟩) (by simp; omega) (.int .i64 a)).far (p := ⟨w.heap.size + 1 + 1, 1, none⟩) (by simp; omega) (.int .i64 b))
  have hRs0 := Lib.hid ((hR.out.far (p := ⟨w.heap.size + 1 + 1, 0, none⟩) (by simp) (.int .i64 a)).far (p := ⟨w.heap.size + 1 + 1, 1, none⟩) (by simp) (.int .i64 b))
  have hOs0 := Lib.hid ((hO.out.put 0 (.int .i64 a)).put 1 (.int .i64 b))
  simp at o0 o1
  clear hX hR hO hbel
  have hX := hXs0
  have hR := hRs0
  have hO := hOs0
  have hbel := hbs0
  clear hXs0 hRs0 hOs0 hbs0
  have x2 := hX.out.cell 2
  have x3 := hX.out.cell 3
  simp at x2 x3
  clear hb0
  go_wp2_with fail
  clear o0 f0 o1 f1 x2 x3
  refine (m2.out _).mono ?_
  rintro e1 v1 ⟨rfl, hb1⟩
  have hX1 := Lib.hid (hX.out.below hb1 hX.out.lt)
  have hR1 := Lib.hid (hR.out.below hb1 hR.out.lt)
  have hO1 := Lib.hid (hO.out.below hb1 hO.out.lt)
  have hs1 := hb1.size
  have hbel1 := Lib.hid (hbel.out.trans (hb1.mono hbel.out.size))
  clear hX hR hO hbel
  have hX := hX1
  have hR := hR1
  have hO := hO1
  have hbel := hbel1
  clear hX1 hR1 hO1 hbel1
  have o2 := hO.out.cell 2
  have f2 := hO.out.frz 2
  have o3 := hO.out.cell 3
  have f3 := hO.out.frz 3
  have hbs1 := Lib.hid ((hbel.out.setCell (p := ⟨w.heap.size + 1 + 1, 2, none⟩) (by simp; omega) (.int .i64 c)).setCell (p := ⟨w.heap.size + 1 + 1, 3, none⟩) (by simp; omega) (.int .i64 d))
  have hXs1 := Lib.hid ((hX.out.far (p := ⟨w.heap.size + 1 + 1, 2, none⟩) (by simp; omega) (.int .i64 c)).far (p := ⟨w.heap.size + 1 + 1, 3, none⟩) (by simp; omega) (.int .i64 d))
  have hRs1 := Lib.hid ((hR.out.far (p := ⟨w.heap.size + 1 + 1, 2, none⟩) (by simp) (.int .i64 c)).far (p := ⟨w.heap.size + 1 + 1, 3, none⟩) (by simp) (.int .i64 d))
  have hOs1 := Lib.hid ((hO.out.put 2 (.int .i64 c)).put 3 (.int .i64 d))
  simp at o2 o3
  clear hX hR hO hbel
  have hX := hXs1
  have hR := hRs1
  have hO := hOs1
  have hbel := hbs1
  clear hXs1 hRs1 hOs1 hbs1
  have q0 := hO.out.cell 0
  have r0 := hR.out.cell 0
  have s0 := hR.out.frz 0
  have q1 := hO.out.cell 1
  have r1 := hR.out.cell 1
  have s1 := hR.out.frz 1
  have q2 := hO.out.cell 2
  have r2 := hR.out.cell 2
  have s2 := hR.out.frz 2
  have q3 := hO.out.cell 3
  have r3 := hR.out.cell 3
  have s3 := hR.out.frz 3
  simp [Array.getElem?_setIfInBounds] at q0 r0 q1 r1 q2 r2 q3 r3
  have hbF := Lib.hid ((((hbel.out.setCell (p := ⟨w.heap.size + 1, 0, none⟩) (by simp) (.int .i64 a)).setCell (p := ⟨w.heap.size + 1, 1, none⟩) (by simp) (.int .i64 b)).setCell (p := ⟨w.heap.size + 1, 2, none⟩) (by simp) (.int .i64 c)).setCell (p := ⟨w.heap.size + 1, 3, none⟩) (by simp) (.int .i64 d))
  have hRF := ((((hR.out.put 0 (.int .i64 a)).put 1 (.int .i64 b)).put 2 (.int .i64 c)).put 3 (.int .i64 d))
  have z0 := hRF.cell 0
  have z1 := hRF.cell 1
  have z2 := hRF.cell 2
  have z3 := hRF.cell 3
  simp [Array.getElem?_setIfInBounds] at z0 z1 z2 z3
  have hz := Lib.hid (And.intro z0 (And.intro z1 (And.intro z2 z3)))
  clear hRF z0 z1 z2 z3
  clear hb1
  go_wp2
  obtain ⟨z0, z1, z2, z3⟩ := hz.out
  refine bodyPost_ret (v := .agg #[.int .i64 a, .int .i64 b, .int .i64 c, .int .i64 d]) (by simp [results, Tryd.results11, go_sem, z0, z1, z2, z3]) rfl ⟨rfl, hbF.out⟩
theorem Mks.far {w : World} {B n g o : Nat} {M : Nat → MkV} {p : Addr} (h : Mks w B (some ⟨g, o, none⟩) n M) (hp : g ≠ p.block) (u : Value) : Mks (w.setCell p u) B (some ⟨g, o, none⟩) n M := fun hn => by
  obtain ⟨b, o', e, hb, hc⟩ := h hn
  injection e with e
  injection e with e1 e2 _
  subst e1 e2
  refine ⟨g, o, rfl, hb, fun j hj => ?_⟩
  have ho : ∀ k, (w.setCell p u).cell? ⟨g, k, none⟩ = w.cell? ⟨g, k, none⟩ := fun k => World.cell?_setCell_other _ _ _ _ (fun e => hp (by rw [e]))
  rw [ho, ho, ho, ho, ho]
  exact hc j hj

set_option maxRecDepth 100000 in
set_option maxHeartbeats 16000000 in
theorem toCourse_any (a b c d e f g h : Int) (A : Option Addr) (n cp B : Nat) (M : Nat → MkV) (w : World) (hx : Mks w B A n M) (hB : B ≤ w.heap.size) (hn : n ≤ 1048576) : Calls Tryd.prog 6 #[.agg #[.int .i64 a, .int .i64 b, .int .i64 c, .int .i64 d, .int .i64 e, .int .i64 f, .int .i64 g, .int .i64 h, .slice A n cp]] w fun e' w' => ∃ g3, e' = .returned (.agg #[.int .i64 a, .int .i64 b, .int .i64 c, .int .i64 d, .int .i64 e, .int .i64 f, .int .i64 g, .int .i64 h, .slice (some ⟨g3, 0, none⟩) n n]) ∧ Mks w' w'.heap.size (some ⟨g3, 0, none⟩) n M ∧ Below w.heap.size w w' := by
  have m1 := Lib.hid (fun W => toLine_any a b c d W)
  have m2 := Lib.hid (fun W => toLine_any e f g h W)
  have m3 : ∀ W, Mks W B A n M → B ≤ W.heap.size → Calls Tryd.prog 12 #[.slice A n cp] W fun e w' => ∃ g3, e = .returned (.slice (some ⟨g3, 0, none⟩) n n) ∧ Mks w' w'.heap.size (some ⟨g3, 0, none⟩) n M ∧ W.heap.size ≤ g3 ∧ Below W.heap.size W w' := fun W hW hb => (toMarkS_any A n cp B M W hW hb hn).mono fun e w' ⟨h1, h2, h3⟩ => ⟨_, h1, h2, Nat.le_refl _, h3⟩
  replace m3 := Lib.hid m3
  replace hx := Lib.hid hx
  have hbel := Lib.hid ((((Below.refl w.heap.size w).alloc (Nat.le_refl _) (.cells #[.int .i64 a, .int .i64 b, .int .i64 c, .int .i64 d, .int .i64 e, .int .i64 f, .int .i64 g, .int .i64 h, .slice A n cp] 28)).alloc (by simp) (.cells #[.int .i64 0, .int .i64 0, .int .i64 0, .int .i64 0, .int .i64 0, .int .i64 0, .int .i64 0, .int .i64 0, .slice none 0 0] 37)).alloc (by simp; omega) (.cells #[.int .i64 0, .int .i64 0, .int .i64 0, .int .i64 0, .int .i64 0, .int .i64 0, .int .i64 0, .int .i64 0, .slice none 0 0] 37))
  have hX := Lib.hid (((Whole.new w 28 #[.int .i64 a, .int .i64 b, .int .i64 c, .int .i64 d, .int .i64 e, .int .i64 f, .int .i64 g, .int .i64 h, .slice A n cp]).alloc (.cells #[.int .i64 0, .int .i64 0, .int .i64 0, .int .i64 0, .int .i64 0, .int .i64 0, .int .i64 0, .int .i64 0, .slice none 0 0] 37)).alloc (.cells #[.int .i64 0, .int .i64 0, .int .i64 0, .int .i64 0, .int .i64 0, .int .i64 0, .int .i64 0, .int .i64 0, .slice none 0 0] 37))
  have hR := (Whole.new (w.alloc (.cells #[.int .i64 a, .int .i64 b, .int .i64 c, .int .i64 d, .int .i64 e, .int .i64 f, .int .i64 g, .int .i64 h, .slice A n cp] 28)) 37 #[.int .i64 0, .int .i64 0, .int .i64 0, .int .i64 0, .int .i64 0, .int .i64 0, .int .i64 0, .int .i64 0, .slice none 0 0]).alloc (.cells #[.int .i64 0, .int .i64 0, .int .i64 0, .int .i64 0, .int .i64 0, .int .i64 0, .int .i64 0, .int .i64 0, .slice none 0 0] 37)
  have hO := Whole.new ((w.alloc (.cells #[.int .i64 a, .int .i64 b, .int .i64 c, .int .i64 d, .int .i64 e, .int .i64 f, .int .i64 g, .int .i64 h, .slice A n cp] 28)).alloc (.cells #[.int .i64 0, .int .i64 0, .int .i64 0, .int .i64 0, .int .i64 0, .int .i64 0, .int .i64 0, .int .i64 0, .slice none 0 0] 37)) 37 #[.int .i64 0, .int .i64 0, .int .i64 0, .int .i64 0, .int .i64 0, .int .i64 0, .int .i64 0, .int .i64 0, .slice none 0 0]
  simp only [World.size_alloc] at hR hO
  replace hR := Lib.hid hR
  replace hO := Lib.hid hO
  go_enter Tryd.func6, Tryd.ntmps6
  go_wp2_with fail
  refine (m1.out _).mono ?_
  rintro e1 v0 ⟨rfl, hb0⟩
  have hX0 := Lib.hid (hX.out.below hb0 (by simp; omega))
  have hR0 := Lib.hid (hR.out.below hb0 (by simp))
  have hO0 := Lib.hid (hO.out.below hb0 (by simp))
  have hs0 := hb0.size
  have hbel0 := Lib.hid (hbel.out.trans (hb0.mono (by simp; omega)))
  clear hX hR hO hbel
  have hX := hX0
  have hR := hR0
  have hO := hO0
  have hbel := hbel0
  clear hX0 hR0 hO0 hbel0
  simp only [World.size_alloc] at hs0
  have o0 := hO.out.cell 0
  have f0 := hO.out.frz 0
  have o1 := hO.out.cell 1
  have f1 := hO.out.frz 1
  have o2 := hO.out.cell 2
  have f2 := hO.out.frz 2
  have o3 := hO.out.cell 3
  have f3 := hO.out.frz 3
  have hbs0 := Lib.hid ((((hbel.out.setCell (p := ⟨w.heap.size + 1 + 1, 0, none⟩) (by simp; omega) (.int .i64 a)).setCell (p := ⟨w.heap.size + 1 + 1, 1, none⟩) (by simp; omega) (.int .i64 b)).setCell (p := ⟨w.heap.size + 1 + 1, 2, none⟩) (by simp; omega) (.int .i64 c)).setCell (p := ⟨w.heap.size + 1 + 1, 3, none⟩) (by simp; omega) (.int .i64 d))
  have hXs0 := Lib.hid ((((hX.out.far (p := ⟨w.heap.size + 1 + 1, 0, none⟩) (by simp; omega) (.int .i64 a)).far (p := ⟨w.heap.size + 1 + 1, 1, none⟩) (by simp; omega) (.int .i64 b)).far (p := ⟨w.heap.size + 1 + 1, 2, none⟩) (by simp; omega) (.int .i64 c)).far (p := ⟨w.heap.size + 1 + 1, 3, none⟩) (by simp; omega) (.int .i64 d))
  have hRs0 := Lib.hid ((((hR.out.far (p := ⟨w.heap.size + 1 + 1, 0, none⟩) (by simp) (.int .i64 a)).far (p := ⟨w.heap.size + 1 + 1, 1, none⟩) (by simp) (.int .i64 b)).far (p := ⟨w.heap.size + 1 + 1, 2, none⟩) (by simp) (.int .i64 c)).far (p := ⟨w.heap.size + 1 + 1, 3, none⟩) (by simp) (.int .i64 d))
  have hOs0 := Lib.hid ((((hO.out.put 0 (.int .i64 a)).put 1 (.int .i64 b)).put 2 (.int .i64 c)).put 3 (.int .i64 d))
  simp at o0 o1 o2 o3
  clear hX hR hO hbel
  have hX := hXs0
  have hR := hRs0
  have hO := hOs0
  have hbel := hbs0
  clear hXs0 hRs0 hOs0 hbs0
  have x4 := hX.out.cell 4
  have x5 := hX.out.cell 5
  have x6 := hX.out.cell 6
  have x7 := hX.out.cell 7
  simp at x4 x5 x6 x7
  clear hb0
  go_wp2_with fail
  clear o0 f0 o1 f1 o2 f2 o3 f3 x4 x5 x6 x7
  refine (m2.out _).mono ?_
  rintro e1 v1 ⟨rfl, hb1⟩
  have hX1 := Lib.hid (hX.out.below hb1 hX.out.lt)
  have hR1 := Lib.hid (hR.out.below hb1 hR.out.lt)
  have hO1 := Lib.hid (hO.out.below hb1 hO.out.lt)
  have hs1 := hb1.size
  have hbel1 := Lib.hid (hbel.out.trans (hb1.mono hbel.out.size))
  clear hX hR hO hbel
  have hX := hX1
  have hR := hR1
  have hO := hO1
  have hbel := hbel1
  clear hX1 hR1 hO1 hbel1
  have o4 := hO.out.cell 4
  have f4 := hO.out.frz 4
  have o5 := hO.out.cell 5
  have f5 := hO.out.frz 5
  have o6 := hO.out.cell 6
  have f6 := hO.out.frz 6
  have o7 := hO.out.cell 7
  have f7 := hO.out.frz 7
  have hbs1 := Lib.hid ((((hbel.out.setCell (p := ⟨w.heap.size + 1 + 1, 4, none⟩) (by simp; omega) (.int .i64 e)).setCell (p := ⟨w.heap.size + 1 + 1, 5, none⟩) (by simp; omega) (.int .i64 f)).setCell (p := ⟨w.heap.size + 1 + 1, 6, none⟩) (by simp; omega) (.int .i64 g)).setCell (p := ⟨w.heap.size + 1 + 1, 7, none⟩) (by simp; omega) (.int .i64 h))
  have hXs1 := Lib.hid ((((hX.out.far (p := ⟨w.heap.size + 1 + 1, 4, none⟩) (by simp; omega) (.int .i64 e)).far (p := ⟨w.heap.size + 1 + 1, 5, none⟩) (by simp; omega) (.int .i64 f)).far (p := ⟨w.heap.size + 1 + 1, 6, none⟩) (by simp; omega) (.int .i64 g)).far (p := ⟨w.heap.size + 1 + 1, 7, none⟩) (by simp; omega) (.int .i64 h))
  have hRs1 := Lib.hid ((((hR.out.far (p := ⟨w.heap.size + 1 + 1, 4, none⟩) (by simp) (.int .i64 e)).far (p := ⟨w.heap.size + 1 + 1, 5, none⟩) (by simp) (.int .i64 f)).far (p := ⟨w.heap.size + 1 + 1, 6, none⟩) (by simp) (.int .i64 g)).far (p := ⟨w.heap.size + 1 + 1, 7, none⟩) (by simp) (.int .i64 h))
  have hOs1 := Lib.hid ((((hO.out.put 4 (.int .i64 e)).put 5 (.int .i64 f)).put 6 (.int .i64 g)).put 7 (.int .i64 h))
  simp at o4 o5 o6 o7
  clear hX hR hO hbel
  have hX := hXs1
  have hR := hRs1
  have hO := hOs1
  have hbel := hbs1
  clear hXs1 hRs1 hOs1 hbs1
  have x8 := hX.out.cell 8
  simp at x8
  have hgz := hO.out.lt
  clear hb1
  go_wp2_with fail
  clear o4 f4 o5 f5 o6 f6 o7 f7 x8
  refine (m3.out _ (hx.out.below (hbel.out.mono hB)) (Nat.le_trans hB hbel.out.size)).mono ?_
  rintro e1 v2 ⟨g3, rfl, hM, hg3, hb2⟩
  have hX2 := Lib.hid (hX.out.below hb2 hX.out.lt)
  have hR2 := Lib.hid (hR.out.below hb2 hR.out.lt)
  have hO2 := Lib.hid (hO.out.below hb2 hO.out.lt)
  have hs2 := hb2.size
  have hbel2 := Lib.hid (hbel.out.trans (hb2.mono hbel.out.size))
  clear hX hR hO hbel
  have hX := hX2
  have hR := hR2
  have hO := hO2
  have hbel := hbel2
  clear hX2 hR2 hO2 hbel2
  have hg4 : w.heap.size + 1 + 1 < g3 := Nat.lt_of_lt_of_le hgz hg3
  replace hM := Lib.hid hM
  have o8 := hO.out.cell 8
  have f8 := hO.out.frz 8
  have hbs2 := Lib.hid (hbel.out.setCell (p := ⟨w.heap.size + 1 + 1, 8, none⟩) (by simp; omega) (.slice (some ⟨g3, 0, none⟩) n n))
  have hXs2 := Lib.hid (hX.out.far (p := ⟨w.heap.size + 1 + 1, 8, none⟩) (by simp; omega) (.slice (some ⟨g3, 0, none⟩) n n))
  have hRs2 := Lib.hid (hR.out.far (p := ⟨w.heap.size + 1 + 1, 8, none⟩) (by simp) (.slice (some ⟨g3, 0, none⟩) n n))
  have hOs2 := Lib.hid (hO.out.put 8 (.slice (some ⟨g3, 0, none⟩) n n))
  simp at o8
  clear hX hR hO hbel
  have hX := hXs2
  have hR := hRs2
  have hO := hOs2
  have hbel := hbs2
  clear hXs2 hRs2 hOs2 hbs2
  have q0 := hO.out.cell 0
  have r0 := hR.out.cell 0
  have s0 := hR.out.frz 0
  have q1 := hO.out.cell 1
  have r1 := hR.out.cell 1
  have s1 := hR.out.frz 1
  have q2 := hO.out.cell 2
  have r2 := hR.out.cell 2
  have s2 := hR.out.frz 2
  have q3 := hO.out.cell 3
  have r3 := hR.out.cell 3
  have s3 := hR.out.frz 3
  have q4 := hO.out.cell 4
  have r4 := hR.out.cell 4
  have s4 := hR.out.frz 4
  have q5 := hO.out.cell 5
  have r5 := hR.out.cell 5
  have s5 := hR.out.frz 5
  have q6 := hO.out.cell 6
  have r6 := hR.out.cell 6
  have s6 := hR.out.frz 6
  have q7 := hO.out.cell 7
  have r7 := hR.out.cell 7
  have s7 := hR.out.frz 7
  have q8 := hO.out.cell 8
  have r8 := hR.out.cell 8
  have s8 := hR.out.frz 8
  simp [Array.getElem?_setIfInBounds] at q0 r0 q1 r1 q2 r2 q3 r3 q4 r4 q5 r5 q6 r6 q7 r7 q8 r8
  have hbF := Lib.hid (((((((((hbel.out.setCell (p := ⟨w.heap.size + 1, 0, none⟩) (by simp) (.int .i64 a)).setCell (p := ⟨w.heap.size + 1, 1, none⟩) (by simp) (.int .i64 b)).setCell (p := ⟨w.heap.size + 1, 2, none⟩) (by simp) (.int .i64 c)).setCell (p := ⟨w.heap.size + 1, 3, none⟩) (by simp) (.int .i64 d)).setCell (p := ⟨w.heap.size + 1, 4, none⟩) (by simp) (.int .i64 e)).setCell (p := ⟨w.heap.size + 1, 5, none⟩) (by simp) (.int .i64 f)).setCell (p := ⟨w.heap.size + 1, 6, none⟩) (by simp) (.int .i64 g)).setCell (p := ⟨w.heap.size + 1, 7, none⟩) (by simp) (.int .i64 h)).setCell (p := ⟨w.heap.size + 1, 8, none⟩) (by simp) (.slice (some ⟨g3, 0, none⟩) n n))
  have hRF := (((((((((hR.out.put 0 (.int .i64 a)).put 1 (.int .i64 b)).put 2 (.int .i64 c)).put 3 (.int .i64 d)).put 4 (.int .i64 e)).put 5 (.int .i64 f)).put 6 (.int .i64 g)).put 7 (.int .i64 h)).put 8 (.slice (some ⟨g3, 0, none⟩) n n))
  have z0 := hRF.cell 0
  have z1 := hRF.cell 1
  have z2 := hRF.cell 2
  have z3 := hRF.cell 3
  have z4 := hRF.cell 4
  have z5 := hRF.cell 5
  have z6 := hRF.cell 6
  have z7 := hRF.cell 7
  have z8 := hRF.cell 8
  simp [Array.getElem?_setIfInBounds] at z0 z1 z2 z3 z4 z5 z6 z7 z8
  have hz := Lib.hid (And.intro z0 (And.intro z1 (And.intro z2 (And.intro z3 (And.intro z4 (And.intro z5 (And.intro z6 (And.intro z7 z8))))))))
  clear hRF z0 z1 z2 z3 z4 z5 z6 z7 z8
  clear hb2
  have hMF := Lib.hid ((((((((((hM.out.far (p := ⟨w.heap.size + 1 + 1, 8, none⟩) (by simp; omega) (.slice (some ⟨g3, 0, none⟩) n n)).far (p := ⟨w.heap.size + 1, 0, none⟩) (by simp; omega) (.int .i64 a)).far (p := ⟨w.heap.size + 1, 1, none⟩) (by simp; omega) (.int .i64 b)).far (p := ⟨w.heap.size + 1, 2, none⟩) (by simp; omega) (.int .i64 c)).far (p := ⟨w.heap.size + 1, 3, none⟩) (by simp; omega) (.int .i64 d)).far (p := ⟨w.heap.size + 1, 4, none⟩) (by simp; omega) (.int .i64 e)).far (p := ⟨w.heap.size + 1, 5, none⟩) (by simp; omega) (.int .i64 f)).far (p := ⟨w.heap.size + 1, 6, none⟩) (by simp; omega) (.int .i64 g)).far (p := ⟨w.heap.size + 1, 7, none⟩) (by simp; omega) (.int .i64 h)).far (p := ⟨w.heap.size + 1, 8, none⟩) (by simp; omega) (.slice (some ⟨g3, 0, none⟩) n n))
  go_wp2
  obtain ⟨z0, z1, z2, z3, z4, z5, z6, z7, z8⟩ := hz.out
  refine bodyPost_ret (v := .agg #[.int .i64 a, .int .i64 b, .int .i64 c, .int .i64 d, .int .i64 e, .int .i64 f, .int .i64 g, .int .i64 h, .slice (some ⟨g3, 0, none⟩) n n]) (by simp [results, Tryd.results6, go_sem, z0, z1, z2, z3, z4, z5, z6, z7, z8]) rfl ⟨g3, rfl, hMF.out.more (by simp), hbF.out⟩
set_option maxRecDepth 100000 in
set_option maxHeartbeats 4000000 in
theorem eqLine_same (a b c d : Int) (w : World) : Calls Tryd.prog 14 #[.agg #[.int .i64 a, .int .i64 b, .int .i64 c, .int .i64 d], .agg #[.int .i64 a, .int .i64 b, .int .i64 c, .int .i64 d]] w fun e w' => e = .returned (.bool true) ∧ Below w.heap.size w w' := by
  have m1 := Lib.hid (fun W => eqPoint_same a b W)
  have m2 := Lib.hid (fun W => eqPoint_same c d W)
  have hbel := Lib.hid (((Below.refl w.heap.size w).alloc (Nat.le_refl _) (.cells #[.int .i64 a, .int .i64 b, .int .i64 c, .int .i64 d] 34)).alloc (by simp) (.cells #[.int .i64 a, .int .i64 b, .int .i64 c, .int .i64 d] 34))
  have hX := Lib.hid ((Whole.new w 34 #[.int .i64 a, .int .i64 b, .int .i64 c, .int .i64 d]).alloc (.cells #[.int .i64 a, .int .i64 b, .int .i64 c, .int .i64 d] 34))
  have hY := Whole.new (w.alloc (.cells #[.int .i64 a, .int .i64 b, .int .i64 c, .int .i64 d] 34)) 34 #[.int .i64 a, .int .i64 b, .int .i64 c, .int .i64 d]
  simp only [World.size_alloc] at hY
  replace hY := Lib.hid hY
  go_enter Tryd.func14, Tryd.ntmps14
  go_wp2_with fail
  refine (m1.out _).mono ?_
  rintro e1 w1 ⟨rfl, hb1⟩
  have hX1 := hX.out.below hb1 (by simp; omega)
  have hY1 := hY.out.below hb1 (by simp)
  have hB1 := Lib.hid (hbel.out.trans (hb1.mono (by simp; omega)))
  have x2 := hX1.cell 2
  have x3 := hX1.cell 3
  have y2 := hY1.cell 2
  have y3 := hY1.cell 3
  simp at x2 x3 y2 y3
  clear hX1 hY1 hb1
  go_wp2_with fail
  refine (m2.out _).mono ?_
  rintro e1 w2 ⟨rfl, hb2⟩
  clear x2 x3 y2 y3
  go_wp2
  go_ret
  exact ⟨rfl, hB1.out.trans (hb2.mono hB1.out.size)⟩
set_option maxRecDepth 100000 in
set_option maxHeartbeats 8000000 in
theorem eqCourse_same (a b c d e f g h : Int) (A A' : Option Addr) (n c1 c2 B : Nat) (M : Nat → MkV) (w : World) (hx : Mks w B A n M) (hx2 : Mks w B A' n M) (hB : B ≤ w.heap.size) (hn : n ≤ 1048576) :
    Calls Tryd.prog 8 #[.agg #[.int .i64 a, .int .i64 b, .int .i64 c, .int .i64 d, .int .i64 e, .int .i64 f, .int .i64 g, .int .i64 h, .slice A n c1], .agg #[.int .i64 a, .int .i64 b, .int .i64 c, .int .i64 d, .int .i64 e, .int .i64 f, .int .i64 g, .int .i64 h, .slice A' n c2]] w fun e w' => e = .returned (.bool true) ∧ Below w.heap.size w w' := by
  have m1 := Lib.hid (fun W => eqLine_same a b c d W)
  have m2 := Lib.hid (fun W => eqLine_same e f g h W)
  have hbel := Lib.hid (((Below.refl w.heap.size w).alloc (Nat.le_refl _) (.cells #[.int .i64 a, .int .i64 b, .int .i64 c, .int .i64 d, .int .i64 e, .int .i64 f, .int .i64 g, .int .i64 h, .slice A n c1] 37)).alloc (by simp) (.cells #[.int .i64 a, .int .i64 b, .int .i64 c, .int .i64 d, .int .i64 e, .int .i64 f, .int .i64 g, .int .i64 h, .slice A' n c2] 37))
  have hX := Lib.hid ((Whole.new w 37 #[.int .i64 a, .int .i64 b, .int .i64 c, .int .i64 d, .int .i64 e, .int .i64 f, .int .i64 g, .int .i64 h, .slice A n c1]).alloc (.cells #[.int .i64 a, .int .i64 b, .int .i64 c, .int .i64 d, .int .i64 e, .int .i64 f, .int .i64 g, .int .i64 h, .slice A' n c2] 37))
  have hY := Whole.new (w.alloc (.cells #[.int .i64 a, .int .i64 b, .int .i64 c, .int .i64 d, .int .i64 e, .int .i64 f, .int .i64 g, .int .i64 h, .slice A n c1] 37)) 37 #[.int .i64 a, .int .i64 b, .int .i64 c, .int .i64 d, .int .i64 e, .int .i64 f, .int .i64 g, .int .i64 h, .slice A' n c2]
  simp only [World.size_alloc] at hY
  replace hY := Lib.hid hY
  replace hx := Lib.hid hx
  replace hx2 := Lib.hid hx2
  go_enter Tryd.func8, Tryd.ntmps8
  go_wp2_with fail
  refine (m1.out _).mono ?_
  rintro e1 w1 ⟨rfl, hb1⟩
  have hX1 := hX.out.below hb1 (by simp; omega)
  have hY1 := hY.out.below hb1 (by simp)
  have hB1 := Lib.hid (hbel.out.trans (hb1.mono (by simp; omega)))
  have x4 := hX1.cell 4
  have x5 := hX1.cell 5
  have x6 := hX1.cell 6
  have x7 := hX1.cell 7
  have y4 := hY1.cell 4
  have y5 := hY1.cell 5
  have y6 := hY1.cell 6
  have y7 := hY1.cell 7
  simp at x4 x5 x6 x7 y4 y5 y6 y7
  replace hX1 := Lib.hid hX1
  replace hY1 := Lib.hid hY1
  clear hb1 hX hY
  go_wp2_with fail
  refine (m2.out _).mono ?_
  rintro e1 w2 ⟨rfl, hb2⟩
  clear x4 x5 x6 x7 y4 y5 y6 y7
  have hX2 := hX1.out.below hb2 hX1.out.lt
  have hY2 := hY1.out.below hb2 hY1.out.lt
  have hB2 := hB1.out.trans (hb2.mono hB1.out.size)
  have x8 := hX2.cell 8
  have y8 := hY2.cell 8
  simp at x8 y8
  have m3 := eqMarkS_same A A' n c1 c2 B M w2 (hx.out.below (hB2.mono hB)) (hx2.out.below (hB2.mono hB)) (Nat.le_trans hB hB2.size) (by omega)
  replace m3 := Lib.hid m3
  clear hX2 hY2 hb2 hX1 hY1
  go_wp2_with fail
  refine m3.out.mono ?_
  rintro e1 w3 ⟨rfl, hb3⟩
  clear x8 y8
  go_wp2
  go_ret
  exact ⟨rfl, hB2.trans (hb3.mono hB2.size)⟩
set_option maxRecDepth 100000 in
set_option maxHeartbeats 4000000 in
theorem szCourse_any (a b c d e f g h : Int) (A : Option Addr) (n cp B : Nat) (M : Nat → MkV) (left : Int) (w : World) (h0 : 0 ≤ left) (h1 : left ≤ 1048576) (hn : n ≤ 9223372036854775807) (hx : Mks w B A n M) (hB : B ≤ w.heap.size) (hS : ∀ j, j < n → (M j).S.size ≤ 9223372036854775807) :
    Calls Tryd.prog 4 #[.agg #[.int .i64 a, .int .i64 b, .int .i64 c, .int .i64 d, .int .i64 e, .int .i64 f, .int .i64 g, .int .i64 h, .slice A n cp], .int .i64 left] w fun e' w' => ∃ r : Int, e' = .returned (.int .i64 r) ∧ (0 ≤ r → n ≤ 1048576) ∧ Below w.heap.size w w' := by
  have hb0 := (Below.refl w.heap.size w).alloc (Nat.le_refl _) (.cells #[.int .i64 a, .int .i64 b, .int .i64 c, .int .i64 d, .int .i64 e, .int .i64 f, .int .i64 g, .int .i64 h, .slice A n cp] 28)
  have hcall := szMarkS_any A n cp B M left (w.alloc (.cells #[.int .i64 a, .int .i64 b, .int .i64 c, .int .i64 d, .int .i64 e, .int .i64 f, .int .i64 g, .int .i64 h, .slice A n cp] 28)) h0 h1 hn (hx.below (hb0.mono hB)) (by simp; omega) hS
  replace hcall := Lib.hid hcall
  replace hb0 := Lib.hid hb0
  clear hx hS
  go_enter Tryd.func4, Tryd.ntmps4
  go_wp2_with fail
  refine hcall.out.mono ?_
  rintro e1 w1 ⟨r, rfl, hr, hb1⟩
  have hb2 := hb0.out.trans (hb1.mono (by simp))
  by_cases h2 : r < 0
  · go_wp2
    go_ret
    exact ⟨-1, rfl, fun h => by omega, hb2⟩
  · go_wp2
    go_ret
    exact ⟨r, rfl, hr, hb2⟩
end Go.Proofs.YtfllbhgngolfnaaDoor
