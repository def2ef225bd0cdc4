/- Lists of demands: their size, copy and comparison; what is a list of demands. -/
import Derived.Test.YtcilgohjeobamaaDem
import Derived.Deep.RegionWith
set_option linter.unusedSimpArgs false
set_option linter.unusedVariables false
namespace Go.Proofs.Ytcilgohjeobamaa
open Go.RowKit Go.Shelf

/-- A list of demands in memory below B. -/
def Dems (w : World) (B : Nat) (A : Option Addr) (n : Nat) (fa : Nat → Option Addr) (fl fc : Nat → Nat) (fx : Nat → Nat → Int) (o : Nat → Int) : Prop :=
  (0 < n → ∃ b off, A = some ⟨b, off, none⟩ ∧ b < B ∧ ∀ i, i < n → w.cell? ⟨b, off + i * 2, none⟩ = some (.slice (fa i) (fl i) (fc i)) ∧ w.cell? ⟨b, off + i * 2 + 1, none⟩ = some (.int .i64 (o i))) ∧
  ∀ i, i < n → Ints w B (fa i) (fl i) (fx i) ∧ fl i ≤ fc i ∧ fl i ≤ maxLen
theorem Dems.below {w w' : World} {B n : Nat} {A : Option Addr} {fa : Nat → Option Addr} {fl fc : Nat → Nat} {fx : Nat → Nat → Int} {o : Nat → Int} (h : Dems w B A n fa fl fc fx o) (hb : Below B w w') : Dems w' B A n fa fl fc fx o := by
  refine ⟨fun hn => ?_, fun i hi => ⟨(h.2 i hi).1.below hb, (h.2 i hi).2⟩⟩
  obtain ⟨b, off, e, hl, hc⟩ := h.1 hn
  exact ⟨b, off, e, hl, fun i hi => ⟨(hb.cell hl).trans (hc i hi).1, (hb.cell hl).trans (hc i hi).2⟩⟩
theorem Dems.more {w : World} {B B' n : Nat} {A : Option Addr} {fa : Nat → Option Addr} {fl fc : Nat → Nat} {fx : Nat → Nat → Int} {o : Nat → Int} (h : Dems w B A n fa fl fc fx o) (hB : B ≤ B') : Dems w B' A n fa fl fc fx o := by
  refine ⟨fun hn => ?_, fun i hi => ⟨(h.2 i hi).1.more hB, (h.2 i hi).2⟩⟩
  obtain ⟨b, off, e, hl, hc⟩ := h.1 hn
  exact ⟨b, off, e, by omega, hc⟩
def Nrow (w : World) (g n : Nat) (xs : Nat → Int) : Prop := ∃ cs, Whole w g 2 cs ∧ cs.size = n ∧ ∀ j, j < n → cs[j]? = some (.int .i64 (xs j))
theorem Nrow.below {w w' : World} {g n : Nat} {xs : Nat → Int} (h : Nrow w g n xs) (hb : Below w.heap.size w w') : Nrow w' g n xs := by
  obtain ⟨cs, h1, h2⟩ := h
  exact ⟨cs, h1.below hb h1.lt, h2⟩
theorem Nrow.far {w : World} {g n : Nat} {xs : Nat → Int} (h : Nrow w g n xs) {p : Addr} (hp : g ≠ p.block) (v : Value) : Nrow (w.setCell p v) g n xs := by
  obtain ⟨cs, h1, h2⟩ := h
  exact ⟨cs, h1.far hp v, h2⟩
theorem Nrow.lt {w : World} {g n : Nat} {xs : Nat → Int} (h : Nrow w g n xs) : g < w.heap.size := by
  obtain ⟨cs, h1, h2⟩ := h
  exact h1.lt
/-- The first k demands of a copy in the block g: each with a row of its own. -/
def DemC (w : World) (g n : Nat) (fb fl : Nat → Nat) (fx : Nat → Nat → Int) (o : Nat → Int) (k : Nat) : Prop :=
  (∃ cs, Whole w g 33 cs ∧ cs.size = n * 2 ∧ ∀ i, i < k → cs[i * 2]? = some (.slice (some ⟨fb i, 0, none⟩) (fl i) (fl i)) ∧ cs[i * 2 + 1]? = some (.int .i64 (o i))) ∧
  ∀ i, i < k → g < fb i ∧ Nrow w (fb i) (fl i) (fx i) ∧ ∀ j, j < i → fb j < fb i
theorem DemC.below {w w' : World} {g n k : Nat} {fb fl : Nat → Nat} {fx : Nat → Nat → Int} {o : Nat → Int} (h : DemC w g n fb fl fx o k) (hb : Below w.heap.size w w') : DemC w' g n fb fl fx o k := by
  obtain ⟨⟨cs, h1, h2⟩, h3⟩ := h
  exact ⟨⟨cs, h1.below hb h1.lt, h2⟩, fun i hi => ⟨(h3 i hi).1, (h3 i hi).2.1.below hb, (h3 i hi).2.2⟩⟩
theorem DemC.dems {w : World} {g n : Nat} {fb fl : Nat → Nat} {fx : Nat → Nat → Int} {o : Nat → Int} (h : DemC w g n fb fl fx o n) (hl : ∀ i, i < n → fl i ≤ 1048576) : Dems w w.heap.size (some ⟨g, 0, none⟩) n (fun i => some ⟨fb i, 0, none⟩) fl fl fx o := by
  obtain ⟨⟨cs, h1, h2, h3⟩, h4⟩ := h
  refine ⟨fun hn => ⟨g, 0, rfl, h1.lt, fun i hi => ?_⟩, fun i hi => ?_⟩
  · rw [Nat.zero_add, h1.cell, h1.cell]; exact h3 i hi
  · obtain ⟨_, ⟨cs', h5, h6, h7⟩, _⟩ := h4 i hi
    exact ⟨Ints.of_whole h5 h5.lt h7, Nat.le_refl _, by have := hl i hi; unfold maxLen; omega⟩

theorem szInt64S_any (A : Option Addr) (n c : Nat) (left : Int) (w : World) (h0 : 0 ≤ left) (h1 : left ≤ 1048576) (hn : n ≤ 9223372036854775807) :
    Calls Try.prog 73 #[.slice A n c, .int .i64 left] w fun e w' => e = .returned (.int .i64 (if left < n then -1 else left - n)) ∧ w = w' := by
  by_cases h : left < n
  · rw [if_pos h]
    go_enter Try.func73, Try.ntmps73
    go_wp2
    go_ret
    exact ⟨rfl, rfl⟩
  · rw [if_neg h]
    go_enter Try.func73, Try.ntmps73
    go_wp2
    go_ret
    exact ⟨rfl, rfl⟩
theorem szDemand_any (A : Option Addr) (n c : Nat) (o left : Int) (w : World) (h0 : 0 ≤ left) (h1 : left ≤ 1048576) (hn : n ≤ 9223372036854775807) :
    Calls Try.prog 45 #[.agg #[.slice A n c, .int .i64 o], .int .i64 left] w fun e w' => e = .returned (.int .i64 (if left < n then -1 else left - n)) ∧ Below w.heap.size w w' := by
  have hcall := fun W => szInt64S_any A n c left W h0 h1 hn
  by_cases h : left < n
  · rw [if_pos h] at hcall ⊢
    go_enter Try.func45, Try.ntmps45
    go_wp2_with (go_at_call 73; refine (hcall _).mono ?_; rintro e w' ⟨rfl, rfl⟩)
    go_ret
    exact ⟨rfl, (Below.refl _ _).alloc (Nat.le_refl _) _⟩
  · rw [if_neg h] at hcall ⊢
    go_enter Try.func45, Try.ntmps45
    go_wp2_with (go_at_call 73; refine (hcall _).mono ?_; rintro e w' ⟨rfl, rfl⟩)
    go_ret
    exact ⟨rfl, (Below.refl _ _).alloc (Nat.le_refl _) _⟩
set_option maxHeartbeats 4000000 in
theorem szDemandS_any (A : Option Addr) (n c B : Nat) (fa : Nat → Option Addr) (fl fc : Nat → Nat) (fx : Nat → Nat → Int) (o : Nat → Int) (left : Int) (w : World) (hx : Dems w B A n fa fl fc fx o) (hB : B ≤ w.heap.size) (h0 : 0 ≤ left) (h1 : left ≤ 1048576) (hn : n ≤ maxLen) :
    Calls Try.prog 11 #[.slice A n c, .int .i64 left] w fun e w' => ∃ r : Int, e = .returned (.int .i64 r) ∧ (r < 0 ∨ (0 ≤ r ∧ r ≤ left ∧ n ≤ 1048576 ∧ ∀ i, i < n → fl i ≤ 1048576)) ∧ Below w.heap.size w w' := by
  replace hx := Lib.hid hx
  unfold maxLen at hn
  by_cases h : left < n
  · have hneg : ¬ (0 : Int) ≤ -1 := by omega
    go_enter Try.func11, Try.ntmps11
    go_wp2
    go_ret
    exact ⟨-1, rfl, .inl (by omega), Below.refl _ _⟩
  go_enter Try.func11, Try.ntmps11
  go_wp2_with fail
  go_loopw [1, 5] (fun v1 v5 wr => ∃ (k : Nat) (l : Int), k ≤ n ∧ v5 = .int .i64 k ∧ v1 = .int .i64 l ∧ 0 ≤ l ∧ l ≤ left ∧ Hid (∀ i, i < k → fl i ≤ 1048576) ∧ Below w.heap.size w wr) (fun v1 v5 _ => (n - intOf v5).toNat)
  case atStart => exact ⟨0, left - n, by omega, rfl, rfl, by omega, by omega, Lib.hid (fun i h => by omega), Below.refl _ _⟩
  case round =>
    obtain ⟨k, l, hk, rfl, rfl, l0, l1, hf, hbel⟩ := hrel
    have hsz := hbel.size
    by_cases hlt : k < n
    · obtain ⟨b, off, rfl, hb, hc⟩ := hx.out.1 (by omega)
      obtain ⟨g0, g1⟩ := hc k hlt
      obtain ⟨-, hfc, hfm⟩ := hx.out.2 k hlt
      rw [← hbel.cell (by simp; omega)] at g0 g1
      clear hc
      generalize fa k = A1 at g0
      generalize hF : fl k = F at g0 hfc hfm
      generalize fc k = C1 at g0 hfc
      generalize o k = o1 at g1
      unfold maxLen at hfm
      have hcall := szDemand_any A1 F C1 o1 l wr l0 (by omega) (by omega)
      by_cases hlF : l < F
      · rw [if_pos hlF] at hcall
        go_wp2_with (go_at_call 45; refine hcall.mono ?_; rintro e w' ⟨rfl, hb'⟩)
        go_ret
        exact ⟨-1, rfl, .inl (by omega), hbel.trans (hb'.mono hsz)⟩
      · rw [if_neg hlF] at hcall
        go_wp2_with (go_at_call 45; refine hcall.mono ?_; rintro e w' ⟨rfl, hb'⟩)
        go_roundw
        case rel =>
          refine ⟨k + 1, l - F, by omega, by go_num, rfl, by omega, by omega, Lib.hid (fun i hi => ?_), hbel.trans (hb'.mono hsz)⟩
          by_cases e : i = k
          · subst e; rw [hF]; omega
          · exact hf.out i (by omega)
        case measure => simp [intOf]; omega
    · obtain rfl : k = n := by omega
      go_wp2
      go_ret
      exact ⟨l, rfl, .inr ⟨l0, l1, by omega, hf.out⟩, hbel⟩
set_option maxHeartbeats 4000000 in
theorem toDemand_any (A : Option Addr) (n c : Nat) (xs : Nat → Int) (o : Int) (w : World) (hx : Ints w w.heap.size A n xs) (hn : n ≤ 1048576) :
    Calls Try.prog 47 #[.agg #[.slice A n c, .int .i64 o]] w fun e w' => ∃ b, e = .returned (.agg #[.slice (some ⟨b, 0, none⟩) n n, .int .i64 o]) ∧ w.heap.size ≤ b ∧ Nrow w' b n xs ∧ Below w.heap.size w w' := by
  replace hx := Lib.hid hx
  go_enter Try.func47, Try.ntmps47
  go_wp2_with fail
  refine (toInt64S_any A n c xs _ ((hx.out.below ((((Below.refl _ _).alloc (Nat.le_refl _) (.cells #[.slice A n c, .int .i64 o] 70)).alloc (by simp) (.cells #[.slice none 0 0, .int .i64 0] 33)).alloc (by simp; omega) (.cells #[.slice none 0 0, .int .i64 0] 33))).more (by simp; omega)) hn).mono ?_
  rintro e w1 ⟨rfl, hR, hb1⟩
  have hP := (((Whole.new w 70 #[.slice A n c, .int .i64 o]).alloc (.cells #[.slice none 0 0, .int .i64 0] 33)).alloc (.cells #[.slice none 0 0, .int .i64 0] 33)).below hb1 (by simp; omega)
  have hX := ((Whole.new (w.alloc (.cells #[.slice A n c, .int .i64 o] 70)) 33 #[.slice none 0 0, .int .i64 0]).alloc (.cells #[.slice none 0 0, .int .i64 0] 33)).below hb1 (by simp)
  have hY := (Whole.new ((w.alloc (.cells #[.slice A n c, .int .i64 o] 70)).alloc (.cells #[.slice none 0 0, .int .i64 0] 33)) 33 #[.slice none 0 0, .int .i64 0]).below hb1 (by simp)
  have hbw : Below w.heap.size w w1 := ((((Below.refl _ _).alloc (Nat.le_refl _) (.cells #[.slice A n c, .int .i64 o] 70)).alloc (by simp) (.cells #[.slice none 0 0, .int .i64 0] 33)).alloc (by simp; omega) (.cells #[.slice none 0 0, .int .i64 0] 33)).trans (hb1.mono (by simp; omega))
  have hz1 := hb1.size
  simp only [World.size_alloc] at hX hY hR hz1 ⊢
  have p1 := hP.cell 1
  have x0 := hX.cell 0
  have x1 := hX.cell 1
  have fx0 := hX.frz 0
  have fx1 := hX.frz 1
  have y0 := hY.cell 0
  have y1 := hY.cell 1
  have fy0 := hY.frz 0
  have fy1 := hY.frz 1
  simp at p1 x0 x1 y0 y1
  have hF := (((hX.far (p := ⟨w.heap.size + 1 + 1, 0, none⟩) (by simp) (.slice (some ⟨w.heap.size + 1 + 1 + 1, 0, none⟩) n n)).far (p := ⟨w.heap.size + 1 + 1, 1, none⟩) (by simp) (.int .i64 o)).put 0 (.slice (some ⟨w.heap.size + 1 + 1 + 1, 0, none⟩) n n)).put 1 (.int .i64 o)
  have e0 := hF.cell 0
  have e1 := hF.cell 1
  simp only [List.getElem?_toArray, List.getElem?_cons_zero, List.getElem?_cons_succ, List.setIfInBounds_toArray, List.set_cons_zero, List.set_cons_succ] at e0 e1
  have hR2 : Nrow ((((w1.setCell ⟨w.heap.size + 1 + 1, 0, none⟩ (.slice (some ⟨w.heap.size + 1 + 1 + 1, 0, none⟩) n n)).setCell ⟨w.heap.size + 1 + 1, 1, none⟩ (.int .i64 o)).setCell ⟨w.heap.size + 1, 0, none⟩ (.slice (some ⟨w.heap.size + 1 + 1 + 1, 0, none⟩) n n)).setCell ⟨w.heap.size + 1, 1, none⟩ (.int .i64 o)) (w.heap.size + 1 + 1 + 1) n xs :=
    Nrow.far (Nrow.far (Nrow.far (Nrow.far hR (by simp) _) (by simp) _) (by simp; omega) _) (by simp; omega) _
  have hbF : Below w.heap.size w ((((w1.setCell ⟨w.heap.size + 1 + 1, 0, none⟩ (.slice (some ⟨w.heap.size + 1 + 1 + 1, 0, none⟩) n n)).setCell ⟨w.heap.size + 1 + 1, 1, none⟩ (.int .i64 o)).setCell ⟨w.heap.size + 1, 0, none⟩ (.slice (some ⟨w.heap.size + 1 + 1 + 1, 0, none⟩) n n)).setCell ⟨w.heap.size + 1, 1, none⟩ (.int .i64 o)) :=
    (((hbw.setCell (by simp; omega) _).setCell (by simp; omega) _).setCell (by simp) _).setCell (by simp) _
  replace e0 := Lib.hid e0
  replace e1 := Lib.hid e1
  replace hR2 := Lib.hid hR2
  replace hbF := Lib.hid hbF
  clear hF hP hX hY hR hb1 hbw
  go_wp2
  have e0 := e0.out
  have e1 := e1.out
  refine bodyPost_ret (v := .agg #[.slice (some ⟨w.heap.size + 1 + 1 + 1, 0, none⟩) n n, .int .i64 o]) (by simp [results, Try.results47, go_sem, e0, e1]) rfl ⟨_, rfl, by omega, hR2.out, hbF.out⟩
theorem infoDemand : (Try.prog.info? 33).map (fun i => (i.zero, i.size, i.bytes)) = some (some (.agg #[.slice none 0 0, .int .i64 0]), 2, 32) := by kernel_rfl
set_option maxHeartbeats 4000000 in
theorem toDemandS_any (A : Option Addr) (n c : Nat) (fa : Nat → Option Addr) (fl fc : Nat → Nat) (fx : Nat → Nat → Int) (o : Nat → Int) (w : World) (hx : Dems w w.heap.size A n fa fl fc fx o) (hn : n ≤ 1048576) (hl : ∀ i, i < n → fl i ≤ 1048576) :
    Calls Try.prog 13 #[.slice A n c] w fun e w' => e = .returned (.slice (some ⟨w.heap.size, 0, none⟩) n n) ∧ (∃ fb, DemC w' w.heap.size n fb fl fx o n) ∧ Below w.heap.size w w' := by
  obtain ⟨i0, hi, hz0, hz1, hz2⟩ := info_parts infoDemand
  have hmk := fun W => make_eq (P := Try.prog) 25 33 i0 _ Try.underlying25 hi hz0 n 2 hz1 (by rw [hz2]; omega) (by omega) W
  clear hi hz0 hz1 hz2
  replace hx := Lib.hid hx
  replace hl := Lib.hid hl
  go_enter Try.func13, Try.ntmps13
  go_wp2
  clear hmk
  go_loopw [4] (fun v wr => ∃ (k : Nat) (fb : Nat → Nat), k ≤ n ∧ v = .int .i64 k ∧ DemC wr w.heap.size n fb fl fx o k ∧ Below w.heap.size w wr) (fun v _ => (n - intOf v).toNat)
  case atStart => exact ⟨0, fun _ => 0, by omega, rfl, ⟨⟨_, Whole.new _ _ _, zeros_size _ _, fun j hj => by omega⟩, fun i hi => by omega⟩, (Below.refl _ _).alloc (Nat.le_refl _) _⟩
  case round =>
    obtain ⟨k, fb, hk, rfl, hC, hbel⟩ := hrel
    have hsz := hbel.size
    by_cases hlt : k < n
    · obtain ⟨b, off, rfl, hb, hc⟩ := hx.out.1 (by omega)
      obtain ⟨g0, g1⟩ := hc k hlt
      obtain ⟨hI, hfc, hfm⟩ := hx.out.2 k hlt
      have hlk := hl.out k hlt
      rw [← hbel.cell (by simp; omega)] at g0 g1
      clear hc
      have hcall := toDemand_any (fa k) (fl k) (fc k) (fx k) (o k) wr ((hI.below hbel).more hsz) hlk
      generalize fa k = A1 at g0 hcall
      generalize fc k = C1 at g0 hcall
      clear hI hfc hfm hlk
      generalize hFL : fl k = F1 at g0 hcall
      generalize hO : o k = O1 at g1 hcall
      go_wp2_with fail
      refine hcall.mono ?_
      rintro e w1 ⟨fk, rfl, hfk, hR, hb1⟩
      have hC1 := hC.below hb1
      obtain ⟨⟨cs, hW, hz, hcs⟩, hrows⟩ := id hC1
      have s0 := hW.some_ (k * 2) (by omega)
      have f0 := hW.frz (k * 2)
      have s1 := hW.some_ (k * 2 + 1) (by omega)
      have f1 := hW.frz (k * 2 + 1)
      have hgk : w.heap.size < fk := by
        have := hC.1
        obtain ⟨cs', hW', _⟩ := this
        have := hW'.lt
        omega
      have hlast : ∀ j, j < k → fb j < fk := fun j hj => by
        obtain ⟨_, hN, _⟩ := hC.2 j hj
        have := hN.lt
        omega
      replace hrows := Lib.hid hrows
      replace hcs := Lib.hid hcs
      replace hz := Lib.hid hz
      replace hlast := Lib.hid hlast
      clear hC hC1 hcall
      go_wp2
      go_roundw
      case rel =>
        refine ⟨k + 1, fun i => if i = k then fk else fb i, by omega, by go_num, ⟨⟨_, (hW.put (k * 2) _).put (k * 2 + 1) _, by simp [hz.out], fun i hi => ?_⟩, fun i hi => ?_⟩, ((hbel.trans (hb1.mono hsz)).setCell (Nat.le_refl _) _).setCell (Nat.le_refl _) _⟩
        · simp only [Array.getElem?_setIfInBounds, Array.size_setIfInBounds]
          by_cases e : i = k
          · subst e
            rw [hFL, hO]
            simp [hz.out]
            omega
          · rw [if_neg (by omega), if_neg (by omega), if_neg (by omega), if_neg (by omega), if_neg (by omega)]
            exact hcs.out i (by omega)
        · by_cases e : i = k
          · subst e
            simp only [if_true]
            refine ⟨hgk, ?_, fun j hj => ?_⟩
            · rw [hFL]
              exact Nrow.far (Nrow.far hR (by simp; omega) _) (by simp; omega) _
            · rw [if_neg (by omega)]
              exact hlast.out j hj
          · obtain ⟨q1, q2, q3⟩ := hrows.out i (by omega)
            simp only [if_neg e]
            refine ⟨q1, Nrow.far (Nrow.far q2 (by simp; omega) _) (by simp; omega) _, fun j hj => ?_⟩
            rw [if_neg (by omega)]
            exact q3 j hj
      case measure => simp [intOf]; omega
    · obtain rfl : k = n := by omega
      go_wp2
      go_ret
      exact ⟨rfl, ⟨fb, hC⟩, hbel⟩
set_option maxHeartbeats 4000000 in
theorem eqDemand_same (A A' : Option Addr) (n c c' B : Nat) (xs : Nat → Int) (o : Int) (w : World) (hx : Ints w B A n xs) (hx' : Ints w B A' n xs) (hB : B ≤ w.heap.size) (hn : n ≤ 9223372036854775807) :
    Calls Try.prog 51 #[.agg #[.slice A n c, .int .i64 o], .agg #[.slice A' n c', .int .i64 o]] w fun e w' => e = .returned (.bool true) ∧ Below w.heap.size w w' := by
  have hbb : Below w.heap.size w ((w.alloc (.cells #[.slice A n c, .int .i64 o] 33)).alloc (.cells #[.slice A' n c', .int .i64 o] 33)) := ((Below.refl _ _).alloc (Nat.le_refl _) _).alloc (by simp) _
  have hcall := eqInt64S_same A A' n c c' B xs ((w.alloc (.cells #[.slice A n c, .int .i64 o] 33)).alloc (.cells #[.slice A' n c', .int .i64 o] 33)) (hx.below (hbb.mono hB)) (hx'.below (hbb.mono hB)) hn
  clear hx hx'
  go_enter Try.func51, Try.ntmps51
  go_wp2_with fail
  refine hcall.mono ?_
  rintro e w1 ⟨rfl, hb1⟩
  have hP := ((Whole.new w 33 #[.slice A n c, .int .i64 o]).alloc (.cells #[.slice A' n c', .int .i64 o] 33)).below hb1 (by simp; omega)
  have hQ := (Whole.new (w.alloc (.cells #[.slice A n c, .int .i64 o] 33)) 33 #[.slice A' n c', .int .i64 o]).below hb1 (by simp)
  simp only [World.size_alloc] at hQ
  have p1 := hP.cell 1
  have q1 := hQ.cell 1
  simp at p1 q1
  have hbw := hbb.trans (hb1.mono (by simp; omega))
  clear hP hQ hb1 hbb hcall
  go_wp2
  go_ret
  exact ⟨rfl, hbw⟩
set_option maxHeartbeats 4000000 in
theorem eqDemandS_same (A A' : Option Addr) (n c c' B : Nat) (fa fa' : Nat → Option Addr) (fl fc fc' : Nat → Nat) (fx : Nat → Nat → Int) (o : Nat → Int) (w : World) (hx : Dems w B A n fa fl fc fx o) (hx' : Dems w B A' n fa' fl fc' fx o) (hB : B ≤ w.heap.size) (hn : n ≤ 9223372036854775807) :
    Calls Try.prog 15 #[.slice A n c, .slice A' n c'] w fun e w' => e = .returned (.bool true) ∧ Below w.heap.size w w' := by
  replace hx := Lib.hid hx
  replace hx' := Lib.hid hx'
  go_enter Try.func15, Try.ntmps15
  go_wp2
  go_loopw [5] (fun v wr => ∃ k : Nat, k ≤ n ∧ v = .int .i64 k ∧ Below w.heap.size w wr) (fun v _ => (n - intOf v).toNat)
  case atStart => exact ⟨0, by omega, rfl, Below.refl _ _⟩
  case round =>
    obtain ⟨k, hk1, rfl, hbel⟩ := hrel
    have hsz := hbel.size
    by_cases h1 : k < n
    · obtain ⟨b, off, rfl, hb, hc⟩ := hx.out.1 (by omega)
      obtain ⟨b2, off2, rfl, hb2, hc2⟩ := hx'.out.1 (by omega)
      obtain ⟨g0, g1⟩ := hc k h1
      obtain ⟨g0', g1'⟩ := hc2 k h1
      obtain ⟨hI, hfc, hfm⟩ := hx.out.2 k h1
      obtain ⟨hI', -, -⟩ := hx'.out.2 k h1
      rw [← hbel.cell (by simp; omega)] at g0 g1 g0' g1'
      clear hc hc2
      have hcall := eqDemand_same (fa k) (fa' k) (fl k) (fc k) (fc' k) B (fx k) (o k) wr.drew (hI.below (hbel.drew.mono hB)) (hI'.below (hbel.drew.mono hB)) (Nat.le_trans hB hsz) (by unfold maxLen at hfm; omega)
      generalize fa k = A1 at g0 hcall
      generalize fa' k = A2 at g0' hcall
      generalize fc k = C1 at g0 hcall
      generalize fc' k = C2 at g0' hcall
      generalize fl k = F1 at g0 g0' hcall
      generalize o k = O1 at g1 g1' hcall
      clear hI hI' hfc hfm
      replace hcall := Lib.hid hcall
      go_wp2
      go_region_with ((go_at_call 51; refine hcall.out.mono ?_; rintro e w' ⟨rfl, hbb⟩))
      all_goals
        go_wp2
        go_roundw
        case rel => exact ⟨k + 1, by omega, by go_num, hbel.drew.trans (hbb.mono hbel.size)⟩
        case measure => simp [intOf]; omega
    · obtain rfl : k = n := by omega
      go_wp2
      go_ret
      exact ⟨rfl, hbel⟩
end Go.Proofs.Ytcilgohjeobamaa
