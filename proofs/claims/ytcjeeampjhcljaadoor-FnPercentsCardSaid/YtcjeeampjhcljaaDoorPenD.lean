/- Draws of layer 21: a percentage, a penalty. -/
import Derived.Test.YtcjeeampjhcljaaDoorPick
import Derived.Test.YtcjeeampjhcljaaDoorPenT
set_option linter.unusedSimpArgs false
set_option linter.unusedVariables false
namespace Go.Proofs.YtcjeeampjhcljaaDoor
open Go.RowKit Go.Shelf

theorem drawPercentPoints_any (A : Option Addr) (m c : Nat) (bs : Nat → Int) (w : World) (hc : Nums .u8 w w.heap.size A m bs) (hm : m ≤ 100000) (hb : ∀ j, 0 ≤ bs j ∧ bs j ≤ 255) :
    Calls Tryd.prog 9 #[.slice A m c] w fun e w' => ∃ b q : Int, e = .returned (.tuple #[.int .i64 b, .int .i64 q]) ∧ 0 ≤ b ∧ b < 18 ∧ 0 ≤ q ∧ q < 102 ∧ Below w.heap.size w w' := by
  go_enter Tryd.func9, Tryd.ntmps9
  go_wp2_with fail
  refine (fromR _ _ _ _ _ _ hc (Nat.le_refl _) hm hb).mono ?_
  rintro e w1 ⟨rfl, hS1, hb1⟩
  have hl := hS1.lt
  go_wp2_with fail
  refine (nextR _ _ _ _ _ _ hS1 (by omega) (by omega)).mono ?_
  rintro e w2 ⟨b, rfl, b0, b1, hS2, hg2⟩
  have hb12 := hb1.trans (below_only hg2 hb1.size (fun k e => by injection e with e; omega))
  clear hS1 hb1 hg2
  go_wp2_with fail
  refine (nextR _ _ _ _ _ _ hS2 (by omega) (by omega)).mono ?_
  rintro e w3 ⟨q, rfl, q0, q1, hS3, hg3⟩
  have hb13 := hb12.trans (below_only hg3 hb12.size (fun k e => by injection e with e; omega))
  clear hS2 hS3 hg3 hb12
  go_wp2
  go_ret2
  exact ⟨b, q, rfl, b0, b1, q0, q1, hb13⟩
def pdPD : Nat → Nat
  | 0 => 6
  | 1 => 7
  | 2 => 8
  | 3 => 9
  | 4 => 10
  | 5 => 11
  | 6 => 12
  | 7 => 13
  | 8 => 14
  | 9 => 15
  | 10 => 16
  | 11 => 17
  | 12 => 18
  | 13 => 19
  | 14 => 20
  | _ => 0
def pdPG (g gb cz : Nat) (Z : Option Addr) : Nat → Value → World → Prop
  | 0, y, W => y = .pointer (some ⟨g, 0, none⟩)
  | 1, y, W => y = .pointer (some ⟨gb, 2, none⟩)
  | 2, y, W => y = .slice Z 12 cz
  | 3, y, W => y = .int .i64 12
  | 4, y, W => y = .int .i64 12
  | 5, y, W => ∃ a : Int, y = .int .i64 a
  | 6, y, W => y = .pointer (some ⟨g, 0, none⟩)
  | 7, y, W => y = .pointer (some ⟨gb, 0, none⟩)
  | 8, y, W => y = .int .i64 12
  | 9, y, W => y = .int .i64 12
  | 10, y, W => ∃ a : Int, y = .int .i64 a
  | 11, y, W => y = .pointer (some ⟨g, 0, none⟩)
  | 12, y, W => ∃ a : Int, y = .int .i64 a
  | 13, y, W => ∃ a : Int, y = .int .i64 a
  | 14, y, W => ∃ a b c : Int, y = .agg #[.int .i64 a, .int .i64 b, .int .i64 c, .int .i64 0]
  | _, _, _ => True
theorem pdP_any {g gb cz : Nat} {Z : Option Addr} {w w' : World} : ∀ {j : Nat} {y : Value}, pdPG g gb cz Z j y w → pdPG g gb cz Z j y w'
  | 0, _, h => h
  | 1, _, h => h
  | 2, _, h => h
  | 3, _, h => h
  | 4, _, h => h
  | 5, _, h => h
  | 6, _, h => h
  | 7, _, h => h
  | 8, _, h => h
  | 9, _, h => h
  | 10, _, h => h
  | 11, _, h => h
  | 12, _, h => h
  | 13, _, h => h
  | 14, _, h => h
  | _ + 15, _, h => h
/-- The block that is filled: made by operation 15, filled by operation 16. -/
def pdT (n0 : Nat) (L : Nat → Bool) (x : Nat → Value) (W : World) : Prop :=
  (L 16 = true → L 15 = true) ∧ (L 15 = true → ∃ q, x 5 = .pointer (some ⟨q, 0, none⟩) ∧ n0 ≤ q ∧ (L 16 = false → Whole W q 25 #[.int .i64 0, .int .i64 0, .int .i64 0, .int .i64 0]) ∧ (L 16 = true → ∃ a b c : Int, Whole W q 25 #[.int .i64 a, .int .i64 b, .int .i64 c, .int .i64 0]))
theorem pdT.step {n0 : Nat} {L : Nat → Bool} {x : Nat → Value} {w w' : World} (h : pdT n0 L x w) (i d : Nat) (v : Value) (hi : i ≠ 15) (hi2 : i ≠ 16) (hd : 5 ≠ d) (hw : ∀ q cs, n0 ≤ q → Whole w q 25 cs → Whole w' q 25 cs) : pdT n0 (upB L i) (upV x (some d) v) w' := by
  have e15 : upB L i 15 = L 15 := by unfold upB; rw [if_neg (Ne.symm hi)]
  have e16 : upB L i 16 = L 16 := by unfold upB; rw [if_neg (Ne.symm hi2)]
  unfold pdT
  rw [e15, e16]
  refine ⟨h.1, fun h15 => ?_⟩
  obtain ⟨q, e, h1, h2, h3⟩ := h.2 h15
  refine ⟨q, ?_, h1, fun h16 => hw _ _ h1 (h2 h16), fun h16 => ?_⟩
  · simp only [upV, if_neg hd]
    exact e
  · obtain ⟨a, b, c, h4⟩ := h3 h16
    exact ⟨a, b, c, hw _ _ h1 h4⟩
set_option maxRecDepth 100000 in
set_option maxHeartbeats 8000000 in
theorem l21DrawPenalty_any (Z : Option Addr) (cz : Nat) (w : World) (B g m : Nat) (bs : Nat → Int) (h : SrcX w B g m bs) :
    Calls Tryd.prog 25 #[.pointer (some ⟨g, 0, none⟩), .agg #[.int .i64 12, .int .i64 0, .slice Z 12 cz]] w fun e w' => ∃ a b c v : Int, e = .returned (.agg #[.int .i64 a, .int .i64 b, .int .i64 c, .int .i64 v]) ∧ SrcX w' B g m bs ∧ w.grownBy w' (some g) := by
  have hgl := h.lt
  have hX0 := (Whole.new w 47 #[.int .i64 12, .int .i64 0, .slice Z 12 cz]).alloc (.cells #[.int .i64 0, .int .i64 0, .int .i64 0, .int .i64 0] 25)
  have hR0 := Whole.new (w.alloc (.cells #[.int .i64 12, .int .i64 0, .slice Z 12 cz] 47)) 25 #[.int .i64 0, .int .i64 0, .int .i64 0, .int .i64 0]
  have hS0 := (h.new (.cells #[.int .i64 12, .int .i64 0, .slice Z 12 cz] 47)).new (.cells #[.int .i64 0, .int .i64 0, .int .i64 0, .int .i64 0] 25)
  have hg0 := only_new (only_new (only_refl w (some g)) (.cells #[.int .i64 12, .int .i64 0, .slice Z 12 cz] 47)) (.cells #[.int .i64 0, .int .i64 0, .int .i64 0, .int .i64 0] 25)
  clear h
  go_enter Tryd.func25, Tryd.ntmps25
  go_wp2_with fail
  obtain ⟨wo, hwo⟩ : ∃ W, (w.alloc (.cells #[.int .i64 12, .int .i64 0, .slice Z 12 cz] 47)).alloc (.cells #[.int .i64 0, .int .i64 0, .int .i64 0, .int .i64 0] 25) = W := ⟨_, rfl⟩
  have hzo : wo.heap.size = w.heap.size + 2 := by rw [← hwo]; simp
  rw [hwo] at hX0 hR0 hS0 hg0 ⊢
  simp only [World.size_alloc] at hR0
  have hx0 : Hid (∀ W : World, wo.grownBy W (some g) → W.cell? ⟨w.heap.size, 0, none⟩ = some (.int .i64 12)) := Lib.hid fun W hg => by simpa using (hX0.grown hg (fun e => by injection e with e; omega)).cell 0
  have hx2 : Hid (∀ W : World, wo.grownBy W (some g) → W.cell? ⟨w.heap.size, 2, none⟩ = some (.slice Z 12 cz)) := Lib.hid fun W hg => by simpa using (hX0.grown hg (fun e => by injection e with e; omega)).cell 2
  clear hwo hX0
  replace hR0 := Lib.hid hR0
  refine wp_region_inv (fun L x wx => (SrcX wx B g m bs ∧ wo.grownBy wx (some g) ∧ pdT wo.heap.size L x wx) ∧ Held pdPD (pdPG g w.heap.size cz Z) 15 L x wx) [5, 6, 7, 8, 9, 10, 11, 12, 13, 14, 15, 16, 17, 18, 19, 20] [[], [], [1], [2], [3], [0, 4], [], [], [7], [8], [6, 9, 5], [], [11, 10], [12], [5, 10, 13], [], [15, 14, 12, 0, 1, 2, 3, 4, 5, 6, 7, 8, 9, 10, 11, 12, 13, 14, 15]] (by kernel_rfl) (by kernel_rfl) (by kernel_rfl) ?_ ?_ ?_
  · intro x
    exact ⟨⟨hS0, ⟨(only_refl wo (some g)).1, (only_refl wo (some g)).2, (only_refl wo (some g)).3, (only_refl wo (some g)).4, (only_refl wo (some g)).5⟩, ⟨fun e => (by cases e), fun e => (by cases e)⟩⟩, Held.none⟩
  · rintro L x wx ⟨hB, hH⟩
    have hBz := hB.2.1.size
    refine ⟨InvAt.mk rfl (by simp) ?_, InvAt.mk rfl (by simp) ?_, InvAt.mk rfl (by simp) ?_, InvAt.mk rfl (by simp) ?_, InvAt.mk rfl (by simp) ?_, InvAt.mk rfl (by simp) ?_, InvAt.mk rfl (by simp) ?_, InvAt.mk rfl (by simp) ?_, InvAt.mk rfl (by simp) ?_, InvAt.mk rfl (by simp) ?_, InvAt.mk rfl (by simp) ?_, InvAt.mk rfl (by simp) ?_, InvAt.mk rfl (by simp) ?_, InvAt.mk rfl (by simp) ?_, InvAt.mk rfl (by simp) ?_, InvAt.mk rfl (by simp) ?_, InvAt.mk rfl (by simp) ?_, trivial⟩
    · intro hL hd K hK
      simp only [fillA, fillL]
      go_simp
      exact hK (.pointer (some ⟨g, 0, none⟩)) _ _ ⟨⟨hB.1, hB.2.1, hB.2.2.step 0 6 _ (by decide) (by decide) (by decide) (fun q cs hq h => h)⟩, hH.step 0 6 _ rfl (by decide) (fun j y h => h) rfl⟩ rfl
    · intro hL hd K hK
      simp only [fillA, fillL]
      go_simp
      exact hK (.pointer (some ⟨w.heap.size, 2, none⟩)) _ _ ⟨⟨hB.1, hB.2.1, hB.2.2.step 1 7 _ (by decide) (by decide) (by decide) (fun q cs hq h => h)⟩, hH.step 1 7 _ rfl (by decide) (fun j y h => h) rfl⟩ rfl
    · intro hL hd K hK
      have e1 : x 7 = .pointer (some ⟨w.heap.size, 2, none⟩) := hH 1 (by omega) (hd 1 (by simp))
      have y0 := hx2.out wx hB.2.1
      simp only [fillA, fillL]
      simp only [e1]
      simp only [fillA, fillL, e1] at hK
      go_simp
      exact hK (.slice Z 12 cz) _ _ ⟨⟨hB.1, hB.2.1, hB.2.2.step 2 8 _ (by decide) (by decide) (by decide) (fun q cs hq h => h)⟩, hH.step 2 8 _ rfl (by decide) (fun j y h => h) rfl⟩ rfl
    · intro hL hd K hK
      have e2 : x 8 = .slice Z 12 cz := hH 2 (by omega) (hd 2 (by simp))
      simp only [fillA, fillL]
      simp only [e2]
      simp only [fillA, fillL, e2] at hK
      go_simp
      exact hK (.int .i64 12) _ _ ⟨⟨hB.1, hB.2.1, hB.2.2.step 3 9 _ (by decide) (by decide) (by decide) (fun q cs hq h => h)⟩, hH.step 3 9 _ rfl (by decide) (fun j y h => h) rfl⟩ rfl
    · intro hL hd K hK
      have e3 : x 9 = .int .i64 12 := hH 3 (by omega) (hd 3 (by simp))
      simp only [fillA, fillL]
      simp only [e3]
      simp only [fillA, fillL, e3] at hK
      go_simp
      exact hK (.int .i64 12) _ _ ⟨⟨hB.1, hB.2.1, hB.2.2.step 4 10 _ (by decide) (by decide) (by decide) (fun q cs hq h => h)⟩, hH.step 4 10 _ rfl (by decide) (fun j y h => h) rfl⟩ rfl
    · intro hL hd K hK
      have e0 : x 6 = .pointer (some ⟨g, 0, none⟩) := hH 0 (by omega) (hd 0 (by simp))
      have e4 : x 10 = .int .i64 12 := hH 4 (by omega) (hd 4 (by simp))
      simp only [fillA, fillL]
      simp only [e0, e4]
      simp only [fillA, fillL, e0, e4] at hK
      go_simp
      go_at_call 23
      refine (nextR _ _ _ _ _ _ hB.1 (by omega) (by omega)).mono ?_
      rintro e wy ⟨a, rfl, a0, a1, hSy, hgy⟩
      exact hK (.int .i64 a) _ _ ⟨⟨hSy, only_trans hB.2.1 hgy, (hB.2.2.step 5 11 _ (by decide) (by decide) (by decide) (fun q cs hq h => h.grown hgy (fun e => by injection e with e; omega)))⟩, hH.step 5 11 _ rfl (by decide) (fun j y h => pdP_any h) ⟨a, rfl⟩⟩ rfl
    · intro hL hd K hK
      simp only [fillA, fillL]
      go_simp
      exact hK (.pointer (some ⟨g, 0, none⟩)) _ _ ⟨⟨hB.1, hB.2.1, hB.2.2.step 6 12 _ (by decide) (by decide) (by decide) (fun q cs hq h => h)⟩, hH.step 6 12 _ rfl (by decide) (fun j y h => h) rfl⟩ rfl
    · intro hL hd K hK
      simp only [fillA, fillL]
      go_simp
      exact hK (.pointer (some ⟨w.heap.size, 0, none⟩)) _ _ ⟨⟨hB.1, hB.2.1, hB.2.2.step 7 13 _ (by decide) (by decide) (by decide) (fun q cs hq h => h)⟩, hH.step 7 13 _ rfl (by decide) (fun j y h => h) rfl⟩ rfl
    · intro hL hd K hK
      have e7 : x 13 = .pointer (some ⟨w.heap.size, 0, none⟩) := hH 7 (by omega) (hd 7 (by simp))
      have y0 := hx0.out wx hB.2.1
      simp only [fillA, fillL]
      simp only [e7]
      simp only [fillA, fillL, e7] at hK
      go_simp
      exact hK (.int .i64 12) _ _ ⟨⟨hB.1, hB.2.1, hB.2.2.step 8 14 _ (by decide) (by decide) (by decide) (fun q cs hq h => h)⟩, hH.step 8 14 _ rfl (by decide) (fun j y h => h) rfl⟩ rfl
    · intro hL hd K hK
      have e8 : x 14 = .int .i64 12 := hH 8 (by omega) (hd 8 (by simp))
      simp only [fillA, fillL]
      simp only [e8]
      simp only [fillA, fillL, e8] at hK
      go_simp
      exact hK (.int .i64 12) _ _ ⟨⟨hB.1, hB.2.1, hB.2.2.step 9 15 _ (by decide) (by decide) (by decide) (fun q cs hq h => h)⟩, hH.step 9 15 _ rfl (by decide) (fun j y h => h) rfl⟩ rfl
    · intro hL hd K hK
      have e6 : x 12 = .pointer (some ⟨g, 0, none⟩) := hH 6 (by omega) (hd 6 (by simp))
      have e9 : x 15 = .int .i64 12 := hH 9 (by omega) (hd 9 (by simp))
      simp only [fillA, fillL]
      simp only [e6, e9]
      simp only [fillA, fillL, e6, e9] at hK
      go_simp
      go_at_call 23
      refine (nextR _ _ _ _ _ _ hB.1 (by omega) (by omega)).mono ?_
      rintro e wy ⟨a, rfl, a0, a1, hSy, hgy⟩
      exact hK (.int .i64 a) _ _ ⟨⟨hSy, only_trans hB.2.1 hgy, (hB.2.2.step 10 16 _ (by decide) (by decide) (by decide) (fun q cs hq h => h.grown hgy (fun e => by injection e with e; omega)))⟩, hH.step 10 16 _ rfl (by decide) (fun j y h => pdP_any h) ⟨a, rfl⟩⟩ rfl
    · intro hL hd K hK
      simp only [fillA, fillL]
      go_simp
      exact hK (.pointer (some ⟨g, 0, none⟩)) _ _ ⟨⟨hB.1, hB.2.1, hB.2.2.step 11 17 _ (by decide) (by decide) (by decide) (fun q cs hq h => h)⟩, hH.step 11 17 _ rfl (by decide) (fun j y h => h) rfl⟩ rfl
    · intro hL hd K hK
      have e11 : x 17 = .pointer (some ⟨g, 0, none⟩) := hH 11 (by omega) (hd 11 (by simp))
      simp only [fillA, fillL]
      simp only [e11]
      simp only [fillA, fillL, e11] at hK
      go_simp
      go_at_call 23
      refine (nextR _ _ _ _ _ _ hB.1 (by omega) (by omega)).mono ?_
      rintro e wy ⟨a, rfl, a0, a1, hSy, hgy⟩
      exact hK (.int .i64 a) _ _ ⟨⟨hSy, only_trans hB.2.1 hgy, (hB.2.2.step 12 18 _ (by decide) (by decide) (by decide) (fun q cs hq h => h.grown hgy (fun e => by injection e with e; omega)))⟩, hH.step 12 18 _ rfl (by decide) (fun j y h => pdP_any h) ⟨a, rfl⟩⟩ rfl
    · intro hL hd K hK
      obtain ⟨a12, e12⟩ : ∃ a : Int, x 18 = .int .i64 a := (hH 12 (by omega) (hd 12 (by simp)))
      simp only [fillA, fillL]
      simp only [e12]
      simp only [fillA, fillL, e12] at hK
      go_simp
      exact hK _ _ _ ⟨⟨hB.1, hB.2.1, hB.2.2.step 13 19 _ (by decide) (by decide) (by decide) (fun q cs hq h => h)⟩, hH.step 13 19 _ rfl (by decide) (fun j y h => h) ⟨_, rfl⟩⟩ rfl
    · intro hL hd K hK
      obtain ⟨a5, e5⟩ : ∃ a : Int, x 11 = .int .i64 a := (hH 5 (by omega) (hd 5 (by simp)))
      obtain ⟨a10, e10⟩ : ∃ a : Int, x 16 = .int .i64 a := (hH 10 (by omega) (hd 10 (by simp)))
      obtain ⟨a13, e13⟩ : ∃ a : Int, x 19 = .int .i64 a := (hH 13 (by omega) (hd 13 (by simp)))
      simp only [fillA, fillL]
      simp only [e5, e10, e13]
      simp only [fillA, fillL, e5, e10, e13] at hK
      go_simp
      exact hK _ _ _ ⟨⟨hB.1, hB.2.1, hB.2.2.step 14 20 _ (by decide) (by decide) (by decide) (fun q cs hq h => h)⟩, hH.step 14 20 _ rfl (by decide) (fun j y h => h) ⟨_, _, _, rfl⟩⟩ rfl
    · intro hL hd K hK
      have h16 : L 16 = false := by
        cases hh : L 16 with
        | false => rfl
        | true => have := hB.2.2.1 hh; rw [hL] at this; cases this
      simp only [fillA, fillL]
      go_simp
      refine hK (.pointer (some ⟨wx.heap.size, 0, none⟩)) _ _ ⟨⟨hB.1.new _, only_new hB.2.1 _, fun e => ?_, fun _ => ⟨wx.heap.size, rfl, hBz, fun _ => Whole.new _ _ _, fun e => ?_⟩⟩, fun j hj hLj => ?_⟩ rfl
      · have e : L 16 = true := e
        rw [h16] at e; cases e
      · have e : L 16 = true := e
        rw [h16] at e; cases e
      · have hjL : L j = true := by
          unfold upB at hLj
          rw [if_neg (by omega)] at hLj
          exact hLj
        have hx : upV x (some 5) (.pointer (some ⟨wx.heap.size, 0, none⟩)) (pdPD j) = x (pdPD j) := by
          have hne : ∀ j, j < 15 → pdPD j ≠ 5 := by decide
          simp only [upV, if_neg (hne j hj)]
        have hgj : pdPG g w.heap.size cz Z j (x (pdPD j)) (wx.alloc (.cells #[.int .i64 0, .int .i64 0, .int .i64 0, .int .i64 0] 25)) := pdP_any (hH j hj hjL)
        rw [← hx] at hgj
        exact hgj
    · intro hL hd K hK
      obtain ⟨q, e15, hq, hqW, -⟩ := hB.2.2.2 (hd 15 (by simp))
      have hqW := hqW hL
      obtain ⟨a, b, c, e14⟩ : ∃ a b c : Int, x 20 = .agg #[.int .i64 a, .int .i64 b, .int .i64 c, .int .i64 0] := hH 14 (by omega) (hd 14 (by simp))
      have y0 : wx.cell? ⟨q, 0, none⟩ = some (.int .i64 0) := by simpa using hqW.cell 0
      have y1 : wx.cell? ⟨q, 1, none⟩ = some (.int .i64 0) := by simpa using hqW.cell 1
      have y2 : wx.cell? ⟨q, 2, none⟩ = some (.int .i64 0) := by simpa using hqW.cell 2
      have y3 : wx.cell? ⟨q, 3, none⟩ = some (.int .i64 0) := by simpa using hqW.cell 3
      have f0 := hqW.frz 0
      have f1 := hqW.frz 1
      have f2 := hqW.frz 2
      have f3 := hqW.frz 3
      have hF := (((hqW.put 0 (.int .i64 a)).put 1 (.int .i64 b)).put 2 (.int .i64 c)).put 3 (.int .i64 0)
      have hgF := only_put_new (only_put_new (only_put_new (only_put_new hB.2.1 hq 0 (.int .i64 a)) hq 1 (.int .i64 b)) hq 2 (.int .i64 c)) hq 3 (.int .i64 0)
      have hSF := hB.1.only (row := some q) (only_put (only_put (only_put (only_put (only_refl wx (some q)) 0 (.int .i64 a)) 1 (.int .i64 b)) 2 (.int .i64 c)) 3 (.int .i64 0)) (fun k e => by injection e with e; omega)
      simp only [fillA, fillL]
      simp only [e14, e15]
      simp only [fillA, fillL, e14, e15] at hK
      go_simp
      refine hK undef _ _ ⟨⟨hSF, hgF, fun _ => hd 15 (by simp), fun _ => ⟨q, e15, hq, fun e => (by cases e), fun _ => ⟨a, b, c, by simpa using hF⟩⟩⟩, fun j hj hLj => ?_⟩ rfl
      have hjL : L j = true := by
        unfold upB at hLj
        rw [if_neg (by omega)] at hLj
        exact hLj
      exact pdP_any (hH j hj hjL)
  · rintro x wx ⟨hB, hH⟩
    obtain ⟨hS1, hg1, hT1⟩ := hB
    obtain ⟨q, e15, hq, -, hqW⟩ := hT1.2 rfl
    obtain ⟨a, b, c, hqW⟩ := hqW rfl
    have hR1 := hR0.out.grown hg1 (fun e => by injection e with e; omega)
    have hgw := only_trans hg0 hg1
    have hzx := hg1.size
    clear hT1 hR0 hx0 hx2 hS0 hg0 hg1 hH
    have y0 : wx.cell? ⟨q, 0, none⟩ = some (.int .i64 a) := by simpa using hqW.cell 0
    have y1 : wx.cell? ⟨q, 1, none⟩ = some (.int .i64 b) := by simpa using hqW.cell 1
    have y2 : wx.cell? ⟨q, 2, none⟩ = some (.int .i64 c) := by simpa using hqW.cell 2
    have y3 : wx.cell? ⟨q, 3, none⟩ = some (.int .i64 0) := by simpa using hqW.cell 3
    simp only [fillA, fillL, e15]
    by_cases c1 : c = 1
    · subst c1
      go_wp2_with fail
      refine (nextR _ _ _ _ _ _ (hS1.new _) (by omega) (by omega)).mono ?_
      rintro e w2 ⟨r, rfl, r0, r1, hS2, hg2⟩
      have hq2 := (hqW.alloc (.cells #[.int .i64 6, .int .i64 7, .int .i64 5] 2)).grown hg2 (fun e => by injection e with e; omega)
      have hR2 := (hR1.alloc (.cells #[.int .i64 6, .int .i64 7, .int .i64 5] 2)).grown hg2 (fun e => by injection e with e; omega)
      have hgw2 := only_trans (only_new hgw (.cells #[.int .i64 6, .int .i64 7, .int .i64 5] 2)) hg2
      clear y0 y1 y2 y3
      have hP2 := (Whole.new wx 2 #[.int .i64 6, .int .i64 7, .int .i64 5]).grown hg2 (fun e => by injection e with e; omega)
      obtain ⟨v, -, hv⟩ := hP2.pick [6, 7, 5] rfl r r0 (by simpa using r1)
      clear hg2 hP2 hqW hR1 hS1 hgw
      have x0 : w2.cell? ⟨q, 0, none⟩ = some (.int .i64 a) := by simpa using hq2.cell 0
      have x1 : w2.cell? ⟨q, 1, none⟩ = some (.int .i64 b) := by simpa using hq2.cell 1
      have x2 : w2.cell? ⟨q, 2, none⟩ = some (.int .i64 1) := by simpa using hq2.cell 2
      have x3 : w2.cell? ⟨q, 3, none⟩ = some (.int .i64 0) := by simpa using hq2.cell 3
      have fx3 := hq2.frz 3
      have z0 : w2.cell? ⟨w.heap.size + 1, 0, none⟩ = some (.int .i64 0) := by simpa using hR2.cell 0
      have fz0 := hR2.frz 0
      have z1 : w2.cell? ⟨w.heap.size + 1, 1, none⟩ = some (.int .i64 0) := by simpa using hR2.cell 1
      have fz1 := hR2.frz 1
      have z2 : w2.cell? ⟨w.heap.size + 1, 2, none⟩ = some (.int .i64 0) := by simpa using hR2.cell 2
      have fz2 := hR2.frz 2
      have z3 : w2.cell? ⟨w.heap.size + 1, 3, none⟩ = some (.int .i64 0) := by simpa using hR2.cell 3
      have fz3 := hR2.frz 3
      have hF := (((((hR2.far (p := ⟨q, 3, none⟩) (fun e => by have e : w.heap.size + 1 = q := e; omega) (.int .i64 v)).put 0 (.int .i64 a)).put 1 (.int .i64 b)).put 2 (.int .i64 1)).put 3 (.int .i64 v))
      have e0 := hF.cell 0
      have e1 := hF.cell 1
      have e2 := hF.cell 2
      have e3 := hF.cell 3
      simp at e0 e1 e2 e3
      have hgF := (only_put_new (only_put_new (only_put_new (only_put_new (only_put_new hgw2 (show w.heap.size ≤ q by omega) 3 (.int .i64 v)) (show w.heap.size ≤ w.heap.size + 1 by omega) 0 (.int .i64 a)) (show w.heap.size ≤ w.heap.size + 1 by omega) 1 (.int .i64 b)) (show w.heap.size ≤ w.heap.size + 1 by omega) 2 (.int .i64 1)) (show w.heap.size ≤ w.heap.size + 1 by omega) 3 (.int .i64 v))
      have hSF := (hS2.only (row := some q) (only_put (only_refl _ _) 3 (.int .i64 v)) (fun k e => by injection e with e; omega)).only (row := some (w.heap.size + 1)) (only_put (only_put (only_put (only_put (only_refl _ _) 0 (.int .i64 a)) 1 (.int .i64 b)) 2 (.int .i64 1)) 3 (.int .i64 v)) (fun k e => by injection e with e; omega)
      replace e0 := Lib.hid e0
      replace e1 := Lib.hid e1
      replace e2 := Lib.hid e2
      replace e3 := Lib.hid e3
      replace hgF := Lib.hid hgF
      replace hSF := Lib.hid hSF
      clear hF hq2 hR2 hS2 hgw2
      go_wp2
      have e0 := e0.out
      have e1 := e1.out
      have e2 := e2.out
      have e3 := e3.out
      refine bodyPost_ret (v := .agg #[.int .i64 a, .int .i64 b, .int .i64 1, .int .i64 v]) (by simp [results, Tryd.results25, go_sem, e0, e1, e2, e3]) rfl (by first | exact ⟨a, b, 1, v, rfl, hSF.out, hgF.out⟩ | exact ⟨⟨a, b, 1, v, rfl⟩, hSF.out, hgF.out⟩)
    have n1 : (c == 1) = false := by rw [beq_eq_false_iff_ne]; exact c1
    by_cases c2 : c = 2
    · subst c2
      go_wp2_with fail
      refine (nextR _ _ _ _ _ _ (hS1) (by omega) (by omega)).mono ?_
      rintro e w2 ⟨r, rfl, r0, r1, hS2, hg2⟩
      have hq2 := hqW.grown hg2 (fun e => by injection e with e; omega)
      have hR2 := hR1.grown hg2 (fun e => by injection e with e; omega)
      have hgw2 := only_trans (hgw) hg2
      clear y0 y1 y2 y3
      obtain ⟨v, hwr⟩ : ∃ v, IntKind.i64.wrap (1 + r) = v := ⟨_, rfl⟩
      clear hg2 hqW hR1 hS1 hgw
      have x0 : w2.cell? ⟨q, 0, none⟩ = some (.int .i64 a) := by simpa using hq2.cell 0
      have x1 : w2.cell? ⟨q, 1, none⟩ = some (.int .i64 b) := by simpa using hq2.cell 1
      have x2 : w2.cell? ⟨q, 2, none⟩ = some (.int .i64 2) := by simpa using hq2.cell 2
      have x3 : w2.cell? ⟨q, 3, none⟩ = some (.int .i64 0) := by simpa using hq2.cell 3
      have fx3 := hq2.frz 3
      have z0 : w2.cell? ⟨w.heap.size + 1, 0, none⟩ = some (.int .i64 0) := by simpa using hR2.cell 0
      have fz0 := hR2.frz 0
      have z1 : w2.cell? ⟨w.heap.size + 1, 1, none⟩ = some (.int .i64 0) := by simpa using hR2.cell 1
      have fz1 := hR2.frz 1
      have z2 : w2.cell? ⟨w.heap.size + 1, 2, none⟩ = some (.int .i64 0) := by simpa using hR2.cell 2
      have fz2 := hR2.frz 2
      have z3 : w2.cell? ⟨w.heap.size + 1, 3, none⟩ = some (.int .i64 0) := by simpa using hR2.cell 3
      have fz3 := hR2.frz 3
      have hF := (((((hR2.far (p := ⟨q, 3, none⟩) (fun e => by have e : w.heap.size + 1 = q := e; omega) (.int .i64 v)).put 0 (.int .i64 a)).put 1 (.int .i64 b)).put 2 (.int .i64 2)).put 3 (.int .i64 v))
      have e0 := hF.cell 0
      have e1 := hF.cell 1
      have e2 := hF.cell 2
      have e3 := hF.cell 3
      simp at e0 e1 e2 e3
      have hgF := (only_put_new (only_put_new (only_put_new (only_put_new (only_put_new hgw2 (show w.heap.size ≤ q by omega) 3 (.int .i64 v)) (show w.heap.size ≤ w.heap.size + 1 by omega) 0 (.int .i64 a)) (show w.heap.size ≤ w.heap.size + 1 by omega) 1 (.int .i64 b)) (show w.heap.size ≤ w.heap.size + 1 by omega) 2 (.int .i64 2)) (show w.heap.size ≤ w.heap.size + 1 by omega) 3 (.int .i64 v))
      have hSF := (hS2.only (row := some q) (only_put (only_refl _ _) 3 (.int .i64 v)) (fun k e => by injection e with e; omega)).only (row := some (w.heap.size + 1)) (only_put (only_put (only_put (only_put (only_refl _ _) 0 (.int .i64 a)) 1 (.int .i64 b)) 2 (.int .i64 2)) 3 (.int .i64 v)) (fun k e => by injection e with e; omega)
      replace e0 := Lib.hid e0
      replace e1 := Lib.hid e1
      replace e2 := Lib.hid e2
      replace e3 := Lib.hid e3
      replace hgF := Lib.hid hgF
      replace hSF := Lib.hid hSF
      clear hF hq2 hR2 hS2 hgw2
      go_wp2
      have e0 := e0.out
      have e1 := e1.out
      have e2 := e2.out
      have e3 := e3.out
      refine bodyPost_ret (v := .agg #[.int .i64 a, .int .i64 b, .int .i64 2, .int .i64 v]) (by simp [results, Tryd.results25, go_sem, e0, e1, e2, e3]) rfl (by first | exact ⟨a, b, 2, v, rfl, hSF.out, hgF.out⟩ | exact ⟨⟨a, b, 2, v, rfl⟩, hSF.out, hgF.out⟩)
    have n2 : (c == 2) = false := by rw [beq_eq_false_iff_ne]; exact c2
    by_cases c3 : c = 3
    · subst c3
      go_wp2_with fail
      refine (nextR _ _ _ _ _ _ (hS1) (by omega) (by omega)).mono ?_
      rintro e w2 ⟨r, rfl, r0, r1, hS2, hg2⟩
      have hq2 := hqW.grown hg2 (fun e => by injection e with e; omega)
      have hR2 := hR1.grown hg2 (fun e => by injection e with e; omega)
      have hgw2 := only_trans (hgw) hg2
      clear y0 y1 y2 y3
      obtain ⟨v, hwr⟩ : ∃ v, IntKind.i64.wrap (1 + r) = v := ⟨_, rfl⟩
      clear hg2 hqW hR1 hS1 hgw
      have x0 : w2.cell? ⟨q, 0, none⟩ = some (.int .i64 a) := by simpa using hq2.cell 0
      have x1 : w2.cell? ⟨q, 1, none⟩ = some (.int .i64 b) := by simpa using hq2.cell 1
      have x2 : w2.cell? ⟨q, 2, none⟩ = some (.int .i64 3) := by simpa using hq2.cell 2
      have x3 : w2.cell? ⟨q, 3, none⟩ = some (.int .i64 0) := by simpa using hq2.cell 3
      have fx3 := hq2.frz 3
      have z0 : w2.cell? ⟨w.heap.size + 1, 0, none⟩ = some (.int .i64 0) := by simpa using hR2.cell 0
      have fz0 := hR2.frz 0
      have z1 : w2.cell? ⟨w.heap.size + 1, 1, none⟩ = some (.int .i64 0) := by simpa using hR2.cell 1
      have fz1 := hR2.frz 1
      have z2 : w2.cell? ⟨w.heap.size + 1, 2, none⟩ = some (.int .i64 0) := by simpa using hR2.cell 2
      have fz2 := hR2.frz 2
      have z3 : w2.cell? ⟨w.heap.size + 1, 3, none⟩ = some (.int .i64 0) := by simpa using hR2.cell 3
      have fz3 := hR2.frz 3
      have hF := (((((hR2.far (p := ⟨q, 3, none⟩) (fun e => by have e : w.heap.size + 1 = q := e; omega) (.int .i64 v)).put 0 (.int .i64 a)).put 1 (.int .i64 b)).put 2 (.int .i64 3)).put 3 (.int .i64 v))
      have e0 := hF.cell 0
      have e1 := hF.cell 1
      have e2 := hF.cell 2
      have e3 := hF.cell 3
      simp at e0 e1 e2 e3
      have hgF := (only_put_new (only_put_new (only_put_new (only_put_new (only_put_new hgw2 (show w.heap.size ≤ q by omega) 3 (.int .i64 v)) (show w.heap.size ≤ w.heap.size + 1 by omega) 0 (.int .i64 a)) (show w.heap.size ≤ w.heap.size + 1 by omega) 1 (.int .i64 b)) (show w.heap.size ≤ w.heap.size + 1 by omega) 2 (.int .i64 3)) (show w.heap.size ≤ w.heap.size + 1 by omega) 3 (.int .i64 v))
      have hSF := (hS2.only (row := some q) (only_put (only_refl _ _) 3 (.int .i64 v)) (fun k e => by injection e with e; omega)).only (row := some (w.heap.size + 1)) (only_put (only_put (only_put (only_put (only_refl _ _) 0 (.int .i64 a)) 1 (.int .i64 b)) 2 (.int .i64 3)) 3 (.int .i64 v)) (fun k e => by injection e with e; omega)
      replace e0 := Lib.hid e0
      replace e1 := Lib.hid e1
      replace e2 := Lib.hid e2
      replace e3 := Lib.hid e3
      replace hgF := Lib.hid hgF
      replace hSF := Lib.hid hSF
      clear hF hq2 hR2 hS2 hgw2
      go_wp2
      have e0 := e0.out
      have e1 := e1.out
      have e2 := e2.out
      have e3 := e3.out
      refine bodyPost_ret (v := .agg #[.int .i64 a, .int .i64 b, .int .i64 3, .int .i64 v]) (by simp [results, Tryd.results25, go_sem, e0, e1, e2, e3]) rfl (by first | exact ⟨a, b, 3, v, rfl, hSF.out, hgF.out⟩ | exact ⟨⟨a, b, 3, v, rfl⟩, hSF.out, hgF.out⟩)
    have n3 : (c == 3) = false := by rw [beq_eq_false_iff_ne]; exact c3
    clear y0 y1 y2 y3
    have x0 : wx.cell? ⟨q, 0, none⟩ = some (.int .i64 a) := by simpa using hqW.cell 0
    have x1 : wx.cell? ⟨q, 1, none⟩ = some (.int .i64 b) := by simpa using hqW.cell 1
    have x2 : wx.cell? ⟨q, 2, none⟩ = some (.int .i64 c) := by simpa using hqW.cell 2
    have x3 : wx.cell? ⟨q, 3, none⟩ = some (.int .i64 0) := by simpa using hqW.cell 3
    have fx3 := hqW.frz 3
    have z0 : wx.cell? ⟨w.heap.size + 1, 0, none⟩ = some (.int .i64 0) := by simpa using hR1.cell 0
    have fz0 := hR1.frz 0
    have z1 : wx.cell? ⟨w.heap.size + 1, 1, none⟩ = some (.int .i64 0) := by simpa using hR1.cell 1
    have fz1 := hR1.frz 1
    have z2 : wx.cell? ⟨w.heap.size + 1, 2, none⟩ = some (.int .i64 0) := by simpa using hR1.cell 2
    have fz2 := hR1.frz 2
    have z3 : wx.cell? ⟨w.heap.size + 1, 3, none⟩ = some (.int .i64 0) := by simpa using hR1.cell 3
    have fz3 := hR1.frz 3
    have hF := ((((hR1.put 0 (.int .i64 a)).put 1 (.int .i64 b)).put 2 (.int .i64 c)).put 3 (.int .i64 0))
    have e0 := hF.cell 0
    have e1 := hF.cell 1
    have e2 := hF.cell 2
    have e3 := hF.cell 3
    simp at e0 e1 e2 e3
    have hgF := (only_put_new (only_put_new (only_put_new (only_put_new hgw (show w.heap.size ≤ w.heap.size + 1 by omega) 0 (.int .i64 a)) (show w.heap.size ≤ w.heap.size + 1 by omega) 1 (.int .i64 b)) (show w.heap.size ≤ w.heap.size + 1 by omega) 2 (.int .i64 c)) (show w.heap.size ≤ w.heap.size + 1 by omega) 3 (.int .i64 0))
    have hSF := hS1.only (row := some (w.heap.size + 1)) (only_put (only_put (only_put (only_put (only_refl _ _) 0 (.int .i64 a)) 1 (.int .i64 b)) 2 (.int .i64 c)) 3 (.int .i64 0)) (fun k e => by injection e with e; omega)
    replace e0 := Lib.hid e0
    replace e1 := Lib.hid e1
    replace e2 := Lib.hid e2
    replace e3 := Lib.hid e3
    replace hgF := Lib.hid hgF
    replace hSF := Lib.hid hSF
    clear hF hqW hR1 hS1 hgw
    go_wp2
    have e0 := e0.out
    have e1 := e1.out
    have e2 := e2.out
    have e3 := e3.out
    refine bodyPost_ret (v := .agg #[.int .i64 a, .int .i64 b, .int .i64 c, .int .i64 0]) (by simp [results, Tryd.results25, go_sem, e0, e1, e2, e3]) rfl (by first | exact ⟨a, b, c, 0, rfl, hSF.out, hgF.out⟩ | exact ⟨⟨a, b, c, 0, rfl⟩, hSF.out, hgF.out⟩)
theorem infoRace : (Tryd.prog.info? 88).map (fun i => (i.zero, i.size, i.bytes)) = some (some (.agg #[.slice none 0 0]), 1, 24) := by kernel_rfl
set_option maxRecDepth 100000 in
set_option maxHeartbeats 8000000 in
theorem drawPenaltyText_any (A : Option Addr) (m c' : Nat) (bs : Nat → Int) (w : World) (hc : Nums .u8 w w.heap.size A m bs) (hm : m ≤ 100000) (hb : ∀ j, 0 ≤ bs j ∧ bs j ≤ 255) :
    Calls Tryd.prog 11 #[.slice A m c'] w fun e w' => (∃ a b c v : Int, e = .returned (.agg #[.int .i64 a, .int .i64 b, .int .i64 c, .int .i64 v])) ∧ Below w.heap.size w w' := by
  have hR0 := Whole.new w 25 #[.int .i64 0, .int .i64 0, .int .i64 0, .int .i64 0]
  have hb0 : Below w.heap.size w (w.alloc (.cells #[.int .i64 0, .int .i64 0, .int .i64 0, .int .i64 0] 25)) := (Below.refl _ _).alloc (Nat.le_refl _) _
  have hc0 := (hc.below hb0).more hb0.size
  obtain ⟨i0, hi, hz0, hz1, hz2⟩ := info_parts infoRace
  have hmk := fun W => make_eq (P := Tryd.prog) 45 88 i0 _ Tryd.underlying45 hi hz0 12 1 hz1 (by rw [hz2]; omega) (by omega) W
  clear hc hi hz0 hz1 hz2
  obtain ⟨zc, hzc⟩ : ∃ z, zeros (Value.agg #[.slice none 0 0]).cells (12 * 1) = z := ⟨_, rfl⟩
  have hmk2 : ∀ W : World, (Instr.makeSlice 45 (.int .i64 12) (.int .i64 12)).run Tryd.prog W = .ok (.slice (some ⟨W.heap.size, 0, none⟩) 12 12) (W.alloc (.cells zc 88)) := fun W => by
    have := hmk W
    rw [hzc] at this
    exact this
  clear hmk hzc
  replace hR0 := Lib.hid hR0
  go_enter Tryd.func11, Tryd.ntmps11
  go_wp2_with fail
  refine (fromR _ _ _ _ _ _ hc0 (Nat.le_refl _) hm hb).mono ?_
  rintro e w1 ⟨rfl, hS1, hb1⟩
  have hR1 := hR0.out.below hb1 hR0.out.lt
  have hl := hS1.lt
  have hbb := hb0.trans (hb1.mono (B' := w.heap.size) hb0.size)
  simp only [World.size_alloc] at hS1 hl ⊢
  clear hc0 hb0 hb1 hR0
  go_wp2_with fail
  refine (l21DrawPenalty_any (some ⟨w1.heap.size, 0, none⟩) 12 _ _ _ _ _ (hS1.new (.cells zc 88))).mono ?_
  rintro e w2 ⟨a, b, c, v, rfl, hS2, hg2⟩
  have hR2 := (hR1.alloc (.cells zc 88)).grown hg2 (fun e => by injection e with e; omega)
  have hzz := hbb.size
  have hb2 : Below w.heap.size w w2 := (hbb.alloc hzz (.cells zc 88)).trans (below_only hg2 (by simp; omega) (fun k e => by injection e with e; omega))
  have hX2 := Whole.new w2 25 #[.int .i64 a, .int .i64 b, .int .i64 c, .int .i64 v]
  have hS2' := hS2.new (.cells #[.int .i64 a, .int .i64 b, .int .i64 c, .int .i64 v] 25)
  have hl2 := hS2.lt
  have hRl := hR2.lt
  have hR2' := hR2.alloc (.cells #[.int .i64 a, .int .i64 b, .int .i64 c, .int .i64 v] 25)
  have hb2' := hb2.alloc hb2.size (.cells #[.int .i64 a, .int .i64 b, .int .i64 c, .int .i64 v] 25)
  clear hS1 hg2 hR1 hbb hb2 hS2 hR2
  replace hX2 := Lib.hid hX2
  go_wp2_with fail
  refine (nextR _ _ _ _ _ _ hS2' (by omega) (by omega)).mono ?_
  rintro e w3 ⟨r, rfl, r0, r1, hS3, hg3⟩
  have hX3 := hX2.out.grown hg3 (fun e => by injection e with e; omega)
  have hR3 := hR2'.grown hg3 (fun e => by injection e with e; omega)
  have hb3 : Below w.heap.size w w3 := hb2'.trans (below_only hg3 hb2'.size (fun k e => by injection e with e; omega))
  clear hS2' hg3 hR2' hb2' hX2 hS3
  by_cases r0' : r = 0
  · subst r0'
    have x0 : w3.cell? ⟨w2.heap.size, 0, none⟩ = some (.int .i64 a) := by simpa using hX3.cell 0
    have x1 : w3.cell? ⟨w2.heap.size, 1, none⟩ = some (.int .i64 b) := by simpa using hX3.cell 1
    have x2 : w3.cell? ⟨w2.heap.size, 2, none⟩ = some (.int .i64 c) := by simpa using hX3.cell 2
    have x3 : w3.cell? ⟨w2.heap.size, 3, none⟩ = some (.int .i64 v) := by simpa using hX3.cell 3
    have fx0 := hX3.frz 0
    have z0 : w3.cell? ⟨w.heap.size, 0, none⟩ = some (.int .i64 0) := by simpa using hR3.cell 0
    have fz0 := hR3.frz 0
    have z1 : w3.cell? ⟨w.heap.size, 1, none⟩ = some (.int .i64 0) := by simpa using hR3.cell 1
    have fz1 := hR3.frz 1
    have z2 : w3.cell? ⟨w.heap.size, 2, none⟩ = some (.int .i64 0) := by simpa using hR3.cell 2
    have fz2 := hR3.frz 2
    have z3 : w3.cell? ⟨w.heap.size, 3, none⟩ = some (.int .i64 0) := by simpa using hR3.cell 3
    have fz3 := hR3.frz 3
    have hF := (((((hR3.far (p := ⟨w2.heap.size, 0, none⟩) (fun e => by have e : w.heap.size = w2.heap.size := e; omega) (.int .i64 12)).put 0 (.int .i64 12)).put 1 (.int .i64 b)).put 2 (.int .i64 c)).put 3 (.int .i64 v))
    have e0 := hF.cell 0
    have e1 := hF.cell 1
    have e2 := hF.cell 2
    have e3 := hF.cell 3
    simp at e0 e1 e2 e3
    have hbF := (((((hb3.setCell (p := ⟨w2.heap.size, 0, none⟩) (by show w.heap.size ≤ w2.heap.size; omega) (.int .i64 12)).setCell (p := ⟨w.heap.size, 0, none⟩) (Nat.le_refl _) (.int .i64 12)).setCell (p := ⟨w.heap.size, 1, none⟩) (Nat.le_refl _) (.int .i64 b)).setCell (p := ⟨w.heap.size, 2, none⟩) (Nat.le_refl _) (.int .i64 c)).setCell (p := ⟨w.heap.size, 3, none⟩) (Nat.le_refl _) (.int .i64 v))
    replace e0 := Lib.hid e0
    replace e1 := Lib.hid e1
    replace e2 := Lib.hid e2
    replace e3 := Lib.hid e3
    replace hbF := Lib.hid hbF
    clear hF hX3 hR3 hb3
    go_wp2
    have e0 := e0.out
    have e1 := e1.out
    have e2 := e2.out
    have e3 := e3.out
    refine bodyPost_ret (v := .agg #[.int .i64 12, .int .i64 b, .int .i64 c, .int .i64 v]) (by simp [results, Tryd.results11, go_sem, e0, e1, e2, e3]) rfl ⟨⟨12, b, c, v, rfl⟩, hbF.out⟩
  have n0 : (r == 0) = false := by rw [beq_eq_false_iff_ne]; exact r0'
  by_cases r1' : r = 1
  · subst r1'
    have x0 : w3.cell? ⟨w2.heap.size, 0, none⟩ = some (.int .i64 a) := by simpa using hX3.cell 0
    have x1 : w3.cell? ⟨w2.heap.size, 1, none⟩ = some (.int .i64 b) := by simpa using hX3.cell 1
    have x2 : w3.cell? ⟨w2.heap.size, 2, none⟩ = some (.int .i64 c) := by simpa using hX3.cell 2
    have x3 : w3.cell? ⟨w2.heap.size, 3, none⟩ = some (.int .i64 v) := by simpa using hX3.cell 3
    have fx3 := hX3.frz 3
    have z0 : w3.cell? ⟨w.heap.size, 0, none⟩ = some (.int .i64 0) := by simpa using hR3.cell 0
    have fz0 := hR3.frz 0
    have z1 : w3.cell? ⟨w.heap.size, 1, none⟩ = some (.int .i64 0) := by simpa using hR3.cell 1
    have fz1 := hR3.frz 1
    have z2 : w3.cell? ⟨w.heap.size, 2, none⟩ = some (.int .i64 0) := by simpa using hR3.cell 2
    have fz2 := hR3.frz 2
    have z3 : w3.cell? ⟨w.heap.size, 3, none⟩ = some (.int .i64 0) := by simpa using hR3.cell 3
    have fz3 := hR3.frz 3
    have hF := (((((hR3.far (p := ⟨w2.heap.size, 3, none⟩) (fun e => by have e : w.heap.size = w2.heap.size := e; omega) (.int .i64 101)).put 0 (.int .i64 a)).put 1 (.int .i64 b)).put 2 (.int .i64 c)).put 3 (.int .i64 101))
    have e0 := hF.cell 0
    have e1 := hF.cell 1
    have e2 := hF.cell 2
    have e3 := hF.cell 3
    simp at e0 e1 e2 e3
    have hbF := (((((hb3.setCell (p := ⟨w2.heap.size, 3, none⟩) (by show w.heap.size ≤ w2.heap.size; omega) (.int .i64 101)).setCell (p := ⟨w.heap.size, 0, none⟩) (Nat.le_refl _) (.int .i64 a)).setCell (p := ⟨w.heap.size, 1, none⟩) (Nat.le_refl _) (.int .i64 b)).setCell (p := ⟨w.heap.size, 2, none⟩) (Nat.le_refl _) (.int .i64 c)).setCell (p := ⟨w.heap.size, 3, none⟩) (Nat.le_refl _) (.int .i64 101))
    replace e0 := Lib.hid e0
    replace e1 := Lib.hid e1
    replace e2 := Lib.hid e2
    replace e3 := Lib.hid e3
    replace hbF := Lib.hid hbF
    clear hF hX3 hR3 hb3
    go_wp2
    have e0 := e0.out
    have e1 := e1.out
    have e2 := e2.out
    have e3 := e3.out
    refine bodyPost_ret (v := .agg #[.int .i64 a, .int .i64 b, .int .i64 c, .int .i64 101]) (by simp [results, Tryd.results11, go_sem, e0, e1, e2, e3]) rfl ⟨⟨a, b, c, 101, rfl⟩, hbF.out⟩
  have n1 : (r == 1) = false := by rw [beq_eq_false_iff_ne]; exact r1'
  by_cases r2' : r = 2
  · subst r2'
    have x0 : w3.cell? ⟨w2.heap.size, 0, none⟩ = some (.int .i64 a) := by simpa using hX3.cell 0
    have x1 : w3.cell? ⟨w2.heap.size, 1, none⟩ = some (.int .i64 b) := by simpa using hX3.cell 1
    have x2 : w3.cell? ⟨w2.heap.size, 2, none⟩ = some (.int .i64 c) := by simpa using hX3.cell 2
    have x3 : w3.cell? ⟨w2.heap.size, 3, none⟩ = some (.int .i64 v) := by simpa using hX3.cell 3
    have fx2 := hX3.frz 2
    have z0 : w3.cell? ⟨w.heap.size, 0, none⟩ = some (.int .i64 0) := by simpa using hR3.cell 0
    have fz0 := hR3.frz 0
    have z1 : w3.cell? ⟨w.heap.size, 1, none⟩ = some (.int .i64 0) := by simpa using hR3.cell 1
    have fz1 := hR3.frz 1
    have z2 : w3.cell? ⟨w.heap.size, 2, none⟩ = some (.int .i64 0) := by simpa using hR3.cell 2
    have fz2 := hR3.frz 2
    have z3 : w3.cell? ⟨w.heap.size, 3, none⟩ = some (.int .i64 0) := by simpa using hR3.cell 3
    have fz3 := hR3.frz 3
    have hF := (((((hR3.far (p := ⟨w2.heap.size, 2, none⟩) (fun e => by have e : w.heap.size = w2.heap.size := e; omega) (.int .i64 0)).put 0 (.int .i64 a)).put 1 (.int .i64 b)).put 2 (.int .i64 0)).put 3 (.int .i64 v))
    have e0 := hF.cell 0
    have e1 := hF.cell 1
    have e2 := hF.cell 2
    have e3 := hF.cell 3
    simp at e0 e1 e2 e3
    have hbF := (((((hb3.setCell (p := ⟨w2.heap.size, 2, none⟩) (by show w.heap.size ≤ w2.heap.size; omega) (.int .i64 0)).setCell (p := ⟨w.heap.size, 0, none⟩) (Nat.le_refl _) (.int .i64 a)).setCell (p := ⟨w.heap.size, 1, none⟩) (Nat.le_refl _) (.int .i64 b)).setCell (p := ⟨w.heap.size, 2, none⟩) (Nat.le_refl _) (.int .i64 0)).setCell (p := ⟨w.heap.size, 3, none⟩) (Nat.le_refl _) (.int .i64 v))
    replace e0 := Lib.hid e0
    replace e1 := Lib.hid e1
    replace e2 := Lib.hid e2
    replace e3 := Lib.hid e3
    replace hbF := Lib.hid hbF
    clear hF hX3 hR3 hb3
    go_wp2
    have e0 := e0.out
    have e1 := e1.out
    have e2 := e2.out
    have e3 := e3.out
    refine bodyPost_ret (v := .agg #[.int .i64 a, .int .i64 b, .int .i64 0, .int .i64 v]) (by simp [results, Tryd.results11, go_sem, e0, e1, e2, e3]) rfl ⟨⟨a, b, 0, v, rfl⟩, hbF.out⟩
  have n2 : (r == 2) = false := by rw [beq_eq_false_iff_ne]; exact r2'
  have x0 : w3.cell? ⟨w2.heap.size, 0, none⟩ = some (.int .i64 a) := by simpa using hX3.cell 0
  have x1 : w3.cell? ⟨w2.heap.size, 1, none⟩ = some (.int .i64 b) := by simpa using hX3.cell 1
  have x2 : w3.cell? ⟨w2.heap.size, 2, none⟩ = some (.int .i64 c) := by simpa using hX3.cell 2
  have x3 : w3.cell? ⟨w2.heap.size, 3, none⟩ = some (.int .i64 v) := by simpa using hX3.cell 3
  have z0 : w3.cell? ⟨w.heap.size, 0, none⟩ = some (.int .i64 0) := by simpa using hR3.cell 0
  have fz0 := hR3.frz 0
  have z1 : w3.cell? ⟨w.heap.size, 1, none⟩ = some (.int .i64 0) := by simpa using hR3.cell 1
  have fz1 := hR3.frz 1
  have z2 : w3.cell? ⟨w.heap.size, 2, none⟩ = some (.int .i64 0) := by simpa using hR3.cell 2
  have fz2 := hR3.frz 2
  have z3 : w3.cell? ⟨w.heap.size, 3, none⟩ = some (.int .i64 0) := by simpa using hR3.cell 3
  have fz3 := hR3.frz 3
  have hF := ((((hR3.put 0 (.int .i64 a)).put 1 (.int .i64 b)).put 2 (.int .i64 c)).put 3 (.int .i64 v))
  have e0 := hF.cell 0
  have e1 := hF.cell 1
  have e2 := hF.cell 2
  have e3 := hF.cell 3
  simp at e0 e1 e2 e3
  have hbF := ((((hb3.setCell (p := ⟨w.heap.size, 0, none⟩) (Nat.le_refl _) (.int .i64 a)).setCell (p := ⟨w.heap.size, 1, none⟩) (Nat.le_refl _) (.int .i64 b)).setCell (p := ⟨w.heap.size, 2, none⟩) (Nat.le_refl _) (.int .i64 c)).setCell (p := ⟨w.heap.size, 3, none⟩) (Nat.le_refl _) (.int .i64 v))
  replace e0 := Lib.hid e0
  replace e1 := Lib.hid e1
  replace e2 := Lib.hid e2
  replace e3 := Lib.hid e3
  replace hbF := Lib.hid hbF
  clear hF hX3 hR3 hb3
  go_wp2
  have e0 := e0.out
  have e1 := e1.out
  have e2 := e2.out
  have e3 := e3.out
  refine bodyPost_ret (v := .agg #[.int .i64 a, .int .i64 b, .int .i64 c, .int .i64 v]) (by simp [results, Tryd.results11, go_sem, e0, e1, e2, e3]) rfl ⟨⟨a, b, c, v, rfl⟩, hbF.out⟩
end Go.Proofs.YtcjeeampjhcljaaDoor
