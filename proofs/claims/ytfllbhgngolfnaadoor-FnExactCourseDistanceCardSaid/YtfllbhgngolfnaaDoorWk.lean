/- The walk of the law on CourseDistance. -/
import Derived.Test.YtfllbhgngolfnaaDoorCd
import Derived.Test.YtfllbhgngolfnaaDoorSc3
set_option linter.unusedSimpArgs false
set_option linter.unusedVariables false
namespace Go.Proofs.YtfllbhgngolfnaaDoor
open Go.RowKit

set_option maxRecDepth 100000 in
set_option maxHeartbeats 8000000 in
theorem law_walk (a b c d e f g h : Int) (A : Option Addr) (n cp : Nat) (M : Nat → MkV) (w : World) (hx : Mks w w.heap.size A n M) (hn : n ≤ 9223372036854775807) (hS : ∀ j, j < n → (M j).S.size ≤ 9223372036854775807) :
    Calls Tryd.prog 3 #[.agg #[.int .i64 a, .int .i64 b, .int .i64 c, .int .i64 d, .int .i64 e, .int .i64 f, .int .i64 g, .int .i64 h, .slice A n cp]] w fun e' w' => e' = .returned (.bool true) ∧ Below w.heap.size w w' := by
  have hb0 := (Below.refl w.heap.size w).alloc (Nat.le_refl _) (.cells #[.int .i64 a, .int .i64 b, .int .i64 c, .int .i64 d, .int .i64 e, .int .i64 f, .int .i64 g, .int .i64 h, .slice A n cp] 28)
  have hW0 := Whole.new w 28 #[.int .i64 a, .int .i64 b, .int .i64 c, .int .i64 d, .int .i64 e, .int .i64 f, .int .i64 g, .int .i64 h, .slice A n cp]
  have hsz := szCourse_any a b c d e f g h A n cp w.heap.size M 1048576 (w.alloc (.cells #[.int .i64 a, .int .i64 b, .int .i64 c, .int .i64 d, .int .i64 e, .int .i64 f, .int .i64 g, .int .i64 h, .slice A n cp] 28)) (by omega) (by omega) hn (hx.below hb0) (by simp) hS
  replace hsz := Lib.hid hsz
  replace hb0 := Lib.hid hb0
  replace hW0 := Lib.hid hW0
  replace hx := Lib.hid hx
  clear hS
  go_enter Tryd.func3, Tryd.ntmps3
  go_wp2_with fail
  refine hsz.out.mono ?_
  rintro e1 w1 ⟨r, rfl, hr, hb1⟩
  clear hsz
  have hW1 := Lib.hid (hW0.out.below hb1 (by simp))
  have hB1 := Lib.hid (hb0.out.trans (hb1.mono (by simp)))
  clear hb1 hW0 hb0
  by_cases h2 : r < 0
  · go_wp2
    go_ret
    exact ⟨rfl, hB1.out⟩
  have hn2 := hr (by omega)
  clear hr
  obtain ⟨R, hR⟩ : ∃ R, cdR a b c d e f g h n M = R := ⟨_, rfl⟩
  obtain ⟨D, hD⟩ : ∃ D, cdC a b c d e f g h n M = D := ⟨_, rfl⟩
  have hto : ∀ W, Below w.heap.size w W → Calls Tryd.prog 6 #[.agg #[.int .i64 a, .int .i64 b, .int .i64 c, .int .i64 d, .int .i64 e, .int .i64 f, .int .i64 g, .int .i64 h, .slice A n cp]] W fun e' w' => ∃ g3, e' = .returned (.agg #[.int .i64 a, .int .i64 b, .int .i64 c, .int .i64 d, .int .i64 e, .int .i64 f, .int .i64 g, .int .i64 h, .slice (some ⟨g3, 0, none⟩) n n]) ∧ Mks w' w'.heap.size (some ⟨g3, 0, none⟩) n M ∧ Below W.heap.size W w' :=
    fun W hb => toCourse_any a b c d e f g h A n cp w.heap.size M W (hx.out.below hb) hb.size hn2
  have hsp : ∀ g3 W, Mks W W.heap.size (some ⟨g3, 0, none⟩) n M → Calls Tryd.prog 5 #[.agg #[.int .i64 a, .int .i64 b, .int .i64 c, .int .i64 d, .int .i64 e, .int .i64 f, .int .i64 g, .int .i64 h, .slice (some ⟨g3, 0, none⟩) n n]] W fun e' w' => e' = .returned (.tuple #[.int .i64 R, .int .i64 D]) ∧ Below W.heap.size W w' := fun g3 W hM => by
    rw [← hR, ← hD]; exact sCourseDistance_any a b c d e f g h _ n n W.heap.size M W hM (Nat.le_refl _) hn2 (Nat.le_refl _)
  have him : ∀ g3 W B, B ≤ W.heap.size → Mks W B (some ⟨g3, 0, none⟩) n M → Calls Tryd.prog 7 #[.agg #[.int .i64 a, .int .i64 b, .int .i64 c, .int .i64 d, .int .i64 e, .int .i64 f, .int .i64 g, .int .i64 h, .slice (some ⟨g3, 0, none⟩) n n]] W fun e' w' => e' = .returned (.tuple #[.int .i64 R, .int .i64 D]) ∧ Below W.heap.size W w' := fun g3 W B hB hM => by
    rw [← hR, ← hD]; exact courseDistance_any a b c d e f g h _ n n B M W hM hB hn2 (Nat.le_refl _)
  replace hto := Lib.hid hto
  replace hsp := Lib.hid hsp
  replace him := Lib.hid him
  clear hR hD
  have x0 : w1.cell? ⟨w.heap.size, 0, none⟩ = some (.int .i64 a) := by simpa using hW1.out.cell 0
  have x1 : w1.cell? ⟨w.heap.size, 1, none⟩ = some (.int .i64 b) := by simpa using hW1.out.cell 1
  have x2 : w1.cell? ⟨w.heap.size, 2, none⟩ = some (.int .i64 c) := by simpa using hW1.out.cell 2
  have x3 : w1.cell? ⟨w.heap.size, 3, none⟩ = some (.int .i64 d) := by simpa using hW1.out.cell 3
  have x4 : w1.cell? ⟨w.heap.size, 4, none⟩ = some (.int .i64 e) := by simpa using hW1.out.cell 4
  have x5 : w1.cell? ⟨w.heap.size, 5, none⟩ = some (.int .i64 f) := by simpa using hW1.out.cell 5
  have x6 : w1.cell? ⟨w.heap.size, 6, none⟩ = some (.int .i64 g) := by simpa using hW1.out.cell 6
  have x7 : w1.cell? ⟨w.heap.size, 7, none⟩ = some (.int .i64 h) := by simpa using hW1.out.cell 7
  have x8 : w1.cell? ⟨w.heap.size, 8, none⟩ = some (.slice A n cp) := by simpa using hW1.out.cell 8
  go_wp2_with fail
  refine (hto.out _ hB1.out).mono ?_
  rintro e1 w2 ⟨g2, rfl, hM2, hb2⟩
  go_wp2_with fail
  refine (hsp.out _ _ hM2).mono ?_
  rintro e1 w3 ⟨rfl, hb3⟩
  have hb13 := hb2.trans (hb3.mono hb2.size)
  have hW3 := Lib.hid (hW1.out.below hb13 hW1.out.lt)
  have hB3 := Lib.hid (hB1.out.trans (hb13.mono hB1.out.size))
  clear hW1 hB1 hb2 hb3 hM2 hb13 hsp x0 x1 x2 x3 x4 x5 x6 x7 x8
  have x0 : w3.cell? ⟨w.heap.size, 0, none⟩ = some (.int .i64 a) := by simpa using hW3.out.cell 0
  have x1 : w3.cell? ⟨w.heap.size, 1, none⟩ = some (.int .i64 b) := by simpa using hW3.out.cell 1
  have x2 : w3.cell? ⟨w.heap.size, 2, none⟩ = some (.int .i64 c) := by simpa using hW3.out.cell 2
  have x3 : w3.cell? ⟨w.heap.size, 3, none⟩ = some (.int .i64 d) := by simpa using hW3.out.cell 3
  have x4 : w3.cell? ⟨w.heap.size, 4, none⟩ = some (.int .i64 e) := by simpa using hW3.out.cell 4
  have x5 : w3.cell? ⟨w.heap.size, 5, none⟩ = some (.int .i64 f) := by simpa using hW3.out.cell 5
  have x6 : w3.cell? ⟨w.heap.size, 6, none⟩ = some (.int .i64 g) := by simpa using hW3.out.cell 6
  have x7 : w3.cell? ⟨w.heap.size, 7, none⟩ = some (.int .i64 h) := by simpa using hW3.out.cell 7
  have x8 : w3.cell? ⟨w.heap.size, 8, none⟩ = some (.slice A n cp) := by simpa using hW3.out.cell 8
  go_wp2_with fail
  refine (hto.out _ hB3.out).mono ?_
  rintro e1 w4 ⟨g3, rfl, hM4, hb4⟩
  have hW4 := Lib.hid ((hW3.out.below hb4 hW3.out.lt).alloc (.cells #[.int .i64 a, .int .i64 b, .int .i64 c, .int .i64 d, .int .i64 e, .int .i64 f, .int .i64 g, .int .i64 h, .slice (some ⟨g3, 0, none⟩) n n] 37))
  have hB4 := Lib.hid ((hB3.out.trans (hb4.mono hB3.out.size)).alloc (Nat.le_trans hB3.out.size hb4.size) (.cells #[.int .i64 a, .int .i64 b, .int .i64 c, .int .i64 d, .int .i64 e, .int .i64 f, .int .i64 g, .int .i64 h, .slice (some ⟨g3, 0, none⟩) n n] 37))
  have hX4 := Lib.hid (Whole.new w4 37 #[.int .i64 a, .int .i64 b, .int .i64 c, .int .i64 d, .int .i64 e, .int .i64 f, .int .i64 g, .int .i64 h, .slice (some ⟨g3, 0, none⟩) n n])
  have hM5 := Lib.hid (hM4.below ((Below.refl w4.heap.size w4).alloc (Nat.le_refl _) (.cells #[.int .i64 a, .int .i64 b, .int .i64 c, .int .i64 d, .int .i64 e, .int .i64 f, .int .i64 g, .int .i64 h, .slice (some ⟨g3, 0, none⟩) n n] 37)))
  have hl4 : w.heap.size < w4.heap.size := Nat.lt_of_lt_of_le hW3.out.lt hb4.size
  have hca := him.out g3 (w4.alloc (.cells #[.int .i64 a, .int .i64 b, .int .i64 c, .int .i64 d, .int .i64 e, .int .i64 f, .int .i64 g, .int .i64 h, .slice (some ⟨g3, 0, none⟩) n n] 37)) w4.heap.size (by simp) hM5.out
  replace hca := Lib.hid hca
  clear hW3 hB3 hb4 hM4 him x0 x1 x2 x3 x4 x5 x6 x7 x8
  go_wp2_with fail
  refine hca.out.mono ?_
  rintro e1 w5 ⟨rfl, hb5⟩
  clear hca
  have hW5 := hW4.out.below hb5 (by simp; omega)
  have hX5 := hX4.out.below hb5 (by simp)
  have hB5 := hB4.out.trans (hb5.mono hB4.out.size)
  have hM6 := hM5.out.below (hb5.mono (by simp))
  have hz5 : w4.heap.size < w5.heap.size := hX5.lt
  have x0 : w5.cell? ⟨w.heap.size, 0, none⟩ = some (.int .i64 a) := by simpa using hW5.cell 0
  have x1 : w5.cell? ⟨w.heap.size, 1, none⟩ = some (.int .i64 b) := by simpa using hW5.cell 1
  have x2 : w5.cell? ⟨w.heap.size, 2, none⟩ = some (.int .i64 c) := by simpa using hW5.cell 2
  have x3 : w5.cell? ⟨w.heap.size, 3, none⟩ = some (.int .i64 d) := by simpa using hW5.cell 3
  have x4 : w5.cell? ⟨w.heap.size, 4, none⟩ = some (.int .i64 e) := by simpa using hW5.cell 4
  have x5 : w5.cell? ⟨w.heap.size, 5, none⟩ = some (.int .i64 f) := by simpa using hW5.cell 5
  have x6 : w5.cell? ⟨w.heap.size, 6, none⟩ = some (.int .i64 g) := by simpa using hW5.cell 6
  have x7 : w5.cell? ⟨w.heap.size, 7, none⟩ = some (.int .i64 h) := by simpa using hW5.cell 7
  have x8 : w5.cell? ⟨w.heap.size, 8, none⟩ = some (.slice A n cp) := by simpa using hW5.cell 8
  have y0 : w5.cell? ⟨w4.heap.size, 0, none⟩ = some (.int .i64 a) := by simpa using hX5.cell 0
  have y1 : w5.cell? ⟨w4.heap.size, 1, none⟩ = some (.int .i64 b) := by simpa using hX5.cell 1
  have y2 : w5.cell? ⟨w4.heap.size, 2, none⟩ = some (.int .i64 c) := by simpa using hX5.cell 2
  have y3 : w5.cell? ⟨w4.heap.size, 3, none⟩ = some (.int .i64 d) := by simpa using hX5.cell 3
  have y4 : w5.cell? ⟨w4.heap.size, 4, none⟩ = some (.int .i64 e) := by simpa using hX5.cell 4
  have y5 : w5.cell? ⟨w4.heap.size, 5, none⟩ = some (.int .i64 f) := by simpa using hX5.cell 5
  have y6 : w5.cell? ⟨w4.heap.size, 6, none⟩ = some (.int .i64 g) := by simpa using hX5.cell 6
  have y7 : w5.cell? ⟨w4.heap.size, 7, none⟩ = some (.int .i64 h) := by simpa using hX5.cell 7
  have y8 : w5.cell? ⟨w4.heap.size, 8, none⟩ = some (.slice (some ⟨g3, 0, none⟩) n n) := by simpa using hX5.cell 8
  clear hW4 hX4 hB4 hM5 hb5 hW5 hX5
  have hto5 : ∀ W, Below w5.heap.size w5 W → Calls Tryd.prog 6 #[.agg #[.int .i64 a, .int .i64 b, .int .i64 c, .int .i64 d, .int .i64 e, .int .i64 f, .int .i64 g, .int .i64 h, .slice A n cp]] W fun e' w' => ∃ g4, e' = .returned (.agg #[.int .i64 a, .int .i64 b, .int .i64 c, .int .i64 d, .int .i64 e, .int .i64 f, .int .i64 g, .int .i64 h, .slice (some ⟨g4, 0, none⟩) n n]) ∧ Mks w' w'.heap.size (some ⟨g4, 0, none⟩) n M ∧ Below W.heap.size W w' ∧ w'.cell? ⟨w4.heap.size, 0, none⟩ = some (.int .i64 a) ∧ w'.cell? ⟨w4.heap.size, 1, none⟩ = some (.int .i64 b) ∧ w'.cell? ⟨w4.heap.size, 2, none⟩ = some (.int .i64 c) ∧ w'.cell? ⟨w4.heap.size, 3, none⟩ = some (.int .i64 d) ∧ w'.cell? ⟨w4.heap.size, 4, none⟩ = some (.int .i64 e) ∧ w'.cell? ⟨w4.heap.size, 5, none⟩ = some (.int .i64 f) ∧ w'.cell? ⟨w4.heap.size, 6, none⟩ = some (.int .i64 g) ∧ w'.cell? ⟨w4.heap.size, 7, none⟩ = some (.int .i64 h) ∧ w'.cell? ⟨w4.heap.size, 8, none⟩ = some (.slice (some ⟨g3, 0, none⟩) n n) :=
    fun W hb => (hto.out W (hB5.trans (hb.mono hB5.size))).mono fun e' w' ⟨g4, q1, q2, q3⟩ => by
      have hc : ∀ k, w'.cell? ⟨w4.heap.size, k, none⟩ = w5.cell? ⟨w4.heap.size, k, none⟩ := fun k => (hb.trans (q3.mono hb.size)).cell (p := ⟨w4.heap.size, k, none⟩) hz5
      refine ⟨g4, q1, q2, q3, ?_⟩
      rw [hc 0, hc 1, hc 2, hc 3, hc 4, hc 5, hc 6, hc 7, hc 8]
      exact ⟨y0, y1, y2, y3, y4, y5, y6, y7, y8⟩
  have heq : ∀ g4 W W', Below w5.heap.size w5 W → Mks W' W'.heap.size (some ⟨g4, 0, none⟩) n M → Below W.heap.size W W' → ∀ V, V = W' ∨ V = W'.drew → Calls Tryd.prog 8 #[.agg #[.int .i64 a, .int .i64 b, .int .i64 c, .int .i64 d, .int .i64 e, .int .i64 f, .int .i64 g, .int .i64 h, .slice (some ⟨g3, 0, none⟩) n n], .agg #[.int .i64 a, .int .i64 b, .int .i64 c, .int .i64 d, .int .i64 e, .int .i64 f, .int .i64 g, .int .i64 h, .slice (some ⟨g4, 0, none⟩) n n]] V fun e' w' => e' = .returned (.bool true) ∧ Below w5.heap.size w5 w' := by
    intro g4 W W' h1 h2 h3 V hV
    have h4 : Below w5.heap.size w5 W' := h1.trans (h3.mono h1.size)
    have h5 : Mks W' W'.heap.size (some ⟨g3, 0, none⟩) n M := (hM6.below (h4.mono (Nat.le_of_lt hz5))).more (Nat.le_trans (Nat.le_of_lt hz5) h4.size)
    rcases hV with hV | hV <;> rw [hV]
    · exact (eqCourse_same a b c d e f g h _ _ n n n W'.heap.size M W' h5 h2 (Nat.le_refl _) hn2).mono fun e' w' ⟨q1, q2⟩ => ⟨q1, h4.trans (q2.mono h4.size)⟩
    · exact (eqCourse_same a b c d e f g h _ _ n n n W'.heap.size M W'.drew (h5.below (Below.refl _ _).drew) (h2.below (Below.refl _ _).drew) (Nat.le_refl _) hn2).mono fun e' w' ⟨q1, q2⟩ => ⟨q1, h4.drew.trans (q2.mono h4.size)⟩
  replace hto5 := Lib.hid hto5
  replace heq := Lib.hid heq
  replace hB5 := Lib.hid hB5
  clear hto hM6
  have hRR : (R != R) = false := by simp
  have hDD : (D != D) = false := by simp
  go_wp2_with fail
  go_region_with (first
    | (go_at_call 6; refine (hto5.out _ (by first | exact Below.refl _ _ | exact (Below.refl _ _).drew | exact below_dN (Below.refl _ _) _)).mono ?_; rintro e1 w6 ⟨g4, rfl, hM7, hb6, u0, u1, u2, u3, u4, u5, u6, u7, u8⟩)
    | (go_at_call 8; refine (heq.out _ _ _ (by first | exact Below.refl _ _ | exact (Below.refl _ _).drew | exact below_dN (Below.refl _ _) _) hM7 hb6 _ (by first | exact .inl rfl | exact .inr rfl)).mono ?_; rintro e1 w7 ⟨rfl, hb7⟩))
  all_goals clear u0 u1 u2 u3 u4 u5 u6 u7 u8 hM7 hb6
  all_goals go_wp2
  all_goals go_ret
  all_goals exact ⟨rfl, hB5.out.trans (hb7.mono hB5.out.size)⟩

end Go.Proofs.YtfllbhgngolfnaaDoor
