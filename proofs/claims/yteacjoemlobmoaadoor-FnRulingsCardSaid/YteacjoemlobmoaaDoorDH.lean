/- The draws of histories, as functions of the code. -/
import Derived.Test.YteacjoemlobmoaaDoorApp5
import Derived.Test.YteacjoemlobmoaaDoorPick
import Derived.Maps.AppendAt
import Derived.Deep.CutRange
import Derived.Deep.RegionWith
import Derived.Deep.CutBlock
set_option linter.unusedSimpArgs false
set_option linter.unusedVariables false
namespace Go.Proofs.YteacjoemlobmoaaDoor
open Go.RowKit

theorem next_val (n : Int) (w : World) (B g m : Nat) (bs : Nat → Int) (st s' : Nat × Int) (r : Int) (h : Src w B g m bs st) (hr : nextV n m bs st = r) (hs : nextS n m st = s') (h1 : 1 ≤ n) (h2 : n ≤ 9223372036854775807) :
    Calls Tryd.prog 26 #[.pointer (some ⟨g, 0, none⟩), .int .i64 n] w fun e w' => e = .returned (.int .i64 r) ∧ 0 ≤ r ∧ r < n ∧ Src w' B g m bs s' ∧ w.grownBy w' (some g) := by
  subst hr; subst hs
  refine (next_any n w B g m bs st h h2).mono ?_
  rintro e w' ⟨rfl, h3, h4⟩
  have := nextV_bd n m bs st h1
  exact ⟨rfl, this.1, this.2, h3, h4⟩
theorem Src.new {w : World} {B g m : Nat} {bs : Nat → Int} {st : Nat × Int} (h : Src w B g m bs st) (o : Obj) : Src (w.alloc o) B g m bs st :=
  h.keepOnly (World.grownBy_alloc w o none) (fun k e => by cases e)
theorem Src.lt {w : World} {B g m : Nat} {bs : Nat → Int} {st : Nat × Int} (h : Src w B g m bs st) : g < w.heap.size := SrcX.lt ⟨st, h⟩
theorem own_put {w : World} {base g n c size : Nat} {e : TypeId} {xs : List Value} (h : w.ownsRow base e size (.slice (some ⟨g, 0, none⟩) n c) n xs) (i : Nat) (u : Value) : (w.setCell ⟨g, i, none⟩ u).ownsRow base e size (.slice (some ⟨g, 0, none⟩) n c) n (xs.set i u) := by
  rcases h.2 with ⟨hv, _⟩ | ⟨g', cap, cur, hv, hb, hh, hnc, hcm, hcs, ht⟩
  · cases hv
  · injection hv with hv1 _ hv3
    injection hv1 with hv1
    injection hv1 with hv1
    subst hv1
    subst hv3
    refine ⟨by simpa using h.1, .inr ⟨g, c, cur.setIfInBounds i u, rfl, hb, Whole.put hh i u, hnc, hcm, by simpa using hcs, ?_⟩⟩
    rw [Array.toList_setIfInBounds, List.take_set, ht]
theorem own_putI {w : World} {base g n c size : Nat} {e : TypeId} {zs : List Int} (h : w.ownsRow base e size (.slice (some ⟨g, 0, none⟩) n c) n (zs.map (Value.int .i64))) (i : Nat) (x : Int) : (w.setCell ⟨g, i, none⟩ (.int .i64 x)).ownsRow base e size (.slice (some ⟨g, 0, none⟩) n c) n ((zs.set i x).map (Value.int .i64)) := by
  rw [List.map_set]; exact own_put h i _
theorem getD_all {zs : List Int} {P : Int → Prop} (h : ∀ y ∈ zs, P y) {i : Nat} (hi : i < zs.length) : P (zs.getD i 0) := by
  rw [List.getD_eq_getElem?_getD, List.getElem?_eq_getElem hi]
  exact h _ (List.getElem_mem _)

/-- The outcome of a ruling, drawn. -/
def rulO (m : Nat) (bs : Nat → Int) (k : Int) (st : Nat × Int) : Int × (Nat × Int) := if k = 1 ∨ k = 3 then (nextV 4 m bs st, nextS 4 m st) else (0, st)
set_option maxHeartbeats 2000000 in
theorem l19DrawRuling_any (k t : Int) (w : World) (B g m : Nat) (bs : Nat → Int) (st : Nat × Int) (h : Src w B g m bs st) :
    Calls Tryd.prog 27 #[.pointer (some ⟨g, 0, none⟩), .int .i64 k, .int .i64 t] w fun e w' => e = .returned (.agg #[.int .i64 t, .int .i64 k, .int .i64 (rulO m bs k st).1]) ∧ Src w' B g m bs (rulO m bs k st).2 ∧ w.grownBy w' (some g) := by
  have hgl := h.lt
  obtain ⟨r, hr⟩ : ∃ r, nextV 4 m bs st = r := ⟨_, rfl⟩
  obtain ⟨s1, hs1⟩ : ∃ x, nextS 4 m st = x := ⟨_, rfl⟩
  by_cases k1 : k = 1
  · subst k1
    have hO : rulO m bs 1 st = (r, s1) := by unfold rulO; rw [if_pos (.inl rfl), hr, hs1]
    rw [hO]
    clear hO
    go_enter Tryd.func27, Tryd.ntmps27
    go_wp2_with fail
    refine (next_val _ _ _ _ _ _ _ _ _ ((h.new (.cells #[.int .i64 0, .int .i64 0, .int .i64 0] 25)).new (.cells #[.int .i64 t, .int .i64 1, .int .i64 0] 25)) hr hs1 (by omega) (by omega)).mono ?_
    rintro e w1 ⟨rfl, r0, r1, hS1, hg1⟩
    have hz1 := hg1.size
    simp at hz1
    have hR := ((Whole.new w 25 #[.int .i64 0, .int .i64 0, .int .i64 0]).alloc (.cells #[.int .i64 t, .int .i64 1, .int .i64 0] 25)).grown hg1 (fun e => by injection e with e; omega)
    have hX := (Whole.new (w.alloc (.cells #[.int .i64 0, .int .i64 0, .int .i64 0] 25)) 25 #[.int .i64 t, .int .i64 1, .int .i64 0]).grown hg1 (fun e => by injection e with e; simp at e; omega)
    simp only [World.size_alloc] at hX
    have hgw := only_trans (only_new (only_new (only_refl w (some g)) (.cells #[.int .i64 0, .int .i64 0, .int .i64 0] 25)) (.cells #[.int .i64 t, .int .i64 1, .int .i64 0] 25)) hg1
    have y0 := hX.cell 0
    have y1 := hX.cell 1
    have y2 := hX.cell 2
    have f2 := hX.frz 2
    have z0 := hR.cell 0
    have z1 := hR.cell 1
    have z2 := hR.cell 2
    have fz0 := hR.frz 0
    have fz1 := hR.frz 1
    have fz2 := hR.frz 2
    simp at y0 y1 y2 z0 z1 z2
    have hF : Whole ((((w1.setCell ⟨w.heap.size + 1, 2, none⟩ (.int .i64 r)).setCell ⟨w.heap.size, 0, none⟩ (.int .i64 t)).setCell ⟨w.heap.size, 1, none⟩ (.int .i64 1)).setCell ⟨w.heap.size, 2, none⟩ (.int .i64 r)) w.heap.size 25 #[.int .i64 t, .int .i64 1, .int .i64 r] := by
      have h := (((hR.far (p := ⟨w.heap.size + 1, 2, none⟩) (by simp) (.int .i64 r)).put 0 (.int .i64 t)).put 1 (.int .i64 1)).put 2 (.int .i64 r)
      simpa using h
    have hS5 := (((hS1.keepOnly (row := some (w.heap.size + 1)) (only_put (only_refl _ _) 2 (.int .i64 r)) (fun j e => by injection e with e; omega)).keepOnly (row := some w.heap.size) (only_put (only_refl _ _) 0 (.int .i64 t)) (fun j e => by injection e with e; omega)).keepOnly (row := some w.heap.size) (only_put (only_refl _ _) 1 (.int .i64 1)) (fun j e => by injection e with e; omega)).keepOnly (row := some w.heap.size) (only_put (only_refl _ _) 2 (.int .i64 r)) (fun j e => by injection e with e; omega)
    have hg5 := only_put_new (only_put_new (only_put_new (only_put_new hgw (g := w.heap.size + 1) (by omega) 2 (.int .i64 r)) (Nat.le_refl _) 0 (.int .i64 t)) (Nat.le_refl _) 1 (.int .i64 1)) (Nat.le_refl _) 2 (.int .i64 r)
    have e0 := hF.cell 0
    have e1 := hF.cell 1
    have e2 := hF.cell 2
    simp only [List.getElem?_toArray, List.getElem?_cons_zero, List.getElem?_cons_succ] at e0 e1 e2
    replace e0 := Lib.hid e0
    replace e1 := Lib.hid e1
    replace e2 := Lib.hid e2
    replace hS5 := Lib.hid hS5
    replace hg5 := Lib.hid hg5
    clear hF hS1 hg1 hgw hR hX
    go_wp2
    have e0 := e0.out
    have e1 := e1.out
    have e2 := e2.out
    refine bodyPost_ret (v := .agg #[.int .i64 t, .int .i64 1, .int .i64 r]) (by simp [results, Tryd.results27, go_sem, e0, e1, e2]) rfl ⟨rfl, hS5.out, hg5.out⟩
  by_cases k3 : k = 3
  · subst k3
    have hO : rulO m bs 3 st = (r, s1) := by unfold rulO; rw [if_pos (.inr rfl), hr, hs1]
    rw [hO]
    clear hO
    go_enter Tryd.func27, Tryd.ntmps27
    go_wp2_with fail
    refine (next_val _ _ _ _ _ _ _ _ _ ((h.new (.cells #[.int .i64 0, .int .i64 0, .int .i64 0] 25)).new (.cells #[.int .i64 t, .int .i64 3, .int .i64 0] 25)) hr hs1 (by omega) (by omega)).mono ?_
    rintro e w1 ⟨rfl, r0, r1, hS1, hg1⟩
    have hz1 := hg1.size
    simp at hz1
    have hR := ((Whole.new w 25 #[.int .i64 0, .int .i64 0, .int .i64 0]).alloc (.cells #[.int .i64 t, .int .i64 3, .int .i64 0] 25)).grown hg1 (fun e => by injection e with e; omega)
    have hX := (Whole.new (w.alloc (.cells #[.int .i64 0, .int .i64 0, .int .i64 0] 25)) 25 #[.int .i64 t, .int .i64 3, .int .i64 0]).grown hg1 (fun e => by injection e with e; simp at e; omega)
    simp only [World.size_alloc] at hX
    have hgw := only_trans (only_new (only_new (only_refl w (some g)) (.cells #[.int .i64 0, .int .i64 0, .int .i64 0] 25)) (.cells #[.int .i64 t, .int .i64 3, .int .i64 0] 25)) hg1
    have y0 := hX.cell 0
    have y1 := hX.cell 1
    have y2 := hX.cell 2
    have f2 := hX.frz 2
    have z0 := hR.cell 0
    have z1 := hR.cell 1
    have z2 := hR.cell 2
    have fz0 := hR.frz 0
    have fz1 := hR.frz 1
    have fz2 := hR.frz 2
    simp at y0 y1 y2 z0 z1 z2
    have hF : Whole ((((w1.setCell ⟨w.heap.size + 1, 2, none⟩ (.int .i64 r)).setCell ⟨w.heap.size, 0, none⟩ (.int .i64 t)).setCell ⟨w.heap.size, 1, none⟩ (.int .i64 3)).setCell ⟨w.heap.size, 2, none⟩ (.int .i64 r)) w.heap.size 25 #[.int .i64 t, .int .i64 3, .int .i64 r] := by
      have h := (((hR.far (p := ⟨w.heap.size + 1, 2, none⟩) (by simp) (.int .i64 r)).put 0 (.int .i64 t)).put 1 (.int .i64 3)).put 2 (.int .i64 r)
      simpa using h
    have hS5 := (((hS1.keepOnly (row := some (w.heap.size + 1)) (only_put (only_refl _ _) 2 (.int .i64 r)) (fun j e => by injection e with e; omega)).keepOnly (row := some w.heap.size) (only_put (only_refl _ _) 0 (.int .i64 t)) (fun j e => by injection e with e; omega)).keepOnly (row := some w.heap.size) (only_put (only_refl _ _) 1 (.int .i64 3)) (fun j e => by injection e with e; omega)).keepOnly (row := some w.heap.size) (only_put (only_refl _ _) 2 (.int .i64 r)) (fun j e => by injection e with e; omega)
    have hg5 := only_put_new (only_put_new (only_put_new (only_put_new hgw (g := w.heap.size + 1) (by omega) 2 (.int .i64 r)) (Nat.le_refl _) 0 (.int .i64 t)) (Nat.le_refl _) 1 (.int .i64 3)) (Nat.le_refl _) 2 (.int .i64 r)
    have e0 := hF.cell 0
    have e1 := hF.cell 1
    have e2 := hF.cell 2
    simp only [List.getElem?_toArray, List.getElem?_cons_zero, List.getElem?_cons_succ] at e0 e1 e2
    replace e0 := Lib.hid e0
    replace e1 := Lib.hid e1
    replace e2 := Lib.hid e2
    replace hS5 := Lib.hid hS5
    replace hg5 := Lib.hid hg5
    clear hF hS1 hg1 hgw hR hX
    go_wp2
    have e0 := e0.out
    have e1 := e1.out
    have e2 := e2.out
    refine bodyPost_ret (v := .agg #[.int .i64 t, .int .i64 3, .int .i64 r]) (by simp [results, Tryd.results27, go_sem, e0, e1, e2]) rfl ⟨rfl, hS5.out, hg5.out⟩
  · have hO : rulO m bs k st = (0, st) := by unfold rulO; rw [if_neg (by omega)]
    rw [hO]
    clear hO
    have n1 : (k == 1) = false := by rw [beq_eq_false_iff_ne]; exact k1
    have n3 : (k == 3) = false := by rw [beq_eq_false_iff_ne]; exact k3
    go_enter Tryd.func27, Tryd.ntmps27
    go_wp2
    refine bodyPost_ret (v := .agg #[.int .i64 t, .int .i64 k, .int .i64 0]) (by simp [results, Tryd.results27, go_sem]) rfl ⟨rfl, (h.new _).new _, only_new (only_new (only_refl w (some g)) _) _⟩

/-- The next time, drawn. -/
def drawT (m : Nat) (bs : Nat → Int) (t : Int) (s : Nat × Int) : Int × (Nat × Int) :=
  (t + ([nextV 5000 m bs s, 86400000 + nextV 2 m bs (nextS 5000 m s), nextV 90000 m bs (nextS 2 m (nextS 5000 m s)) * 1000] : List Int).getD (nextV 8 m bs (nextS 90000 m (nextS 2 m (nextS 5000 m s))) / 7 + nextV 8 m bs (nextS 8 m (nextS 90000 m (nextS 2 m (nextS 5000 m s)))) / 7).toNat 0,
   nextS 8 m (nextS 8 m (nextS 90000 m (nextS 2 m (nextS 5000 m s)))))
theorem drawT_bd (m : Nat) (bs : Nat → Int) (t : Int) (s : Nat × Int) : t ≤ (drawT m bs t s).1 ∧ (drawT m bs t s).1 ≤ t + 90000000 := by
  have h1 := nextV_bd 5000 m bs s (by omega)
  have h2 := nextV_bd 2 m bs (nextS 5000 m s) (by omega)
  have h3 := nextV_bd 90000 m bs (nextS 2 m (nextS 5000 m s)) (by omega)
  have h4 := nextV_bd 8 m bs (nextS 90000 m (nextS 2 m (nextS 5000 m s))) (by omega)
  have h5 := nextV_bd 8 m bs (nextS 8 m (nextS 90000 m (nextS 2 m (nextS 5000 m s)))) (by omega)
  unfold drawT
  obtain e | e | e : (nextV 8 m bs (nextS 90000 m (nextS 2 m (nextS 5000 m s))) / 7 + nextV 8 m bs (nextS 8 m (nextS 90000 m (nextS 2 m (nextS 5000 m s)))) / 7).toNat = 0 ∨ (nextV 8 m bs (nextS 90000 m (nextS 2 m (nextS 5000 m s))) / 7 + nextV 8 m bs (nextS 8 m (nextS 90000 m (nextS 2 m (nextS 5000 m s)))) / 7).toNat = 1 ∨ (nextV 8 m bs (nextS 90000 m (nextS 2 m (nextS 5000 m s))) / 7 + nextV 8 m bs (nextS 8 m (nextS 90000 m (nextS 2 m (nextS 5000 m s)))) / 7).toNat = 2 := by omega
  all_goals rw [e]; simp; omega
def xsOf (zs : List Int) (j : Nat) : Int := zs.getD j 0
/-- The history that q rounds draw behind zs. -/
def drawK (m : Nat) (bs : Nat → Int) : Nat → Int → List Int → Nat × Int → List Int × (Nat × Int)
  | 0, _, zs, s => (zs, s)
  | q + 1, t, zs, s =>
    let T := drawT m bs t s
    let tm := min T.1 1000000000
    let L := rulL (zs.length / 3) (xsOf zs) tm
    if rulC (zs.length / 3) (xsOf zs) tm ≠ 0 ∨ L.length = 0 then (zs, T.2) else
    let k := L.getD (nextV L.length m bs T.2).toNat 0
    let O := rulO m bs k (nextS L.length m T.2)
    drawK m bs q T.1 (zs ++ [tm, k, O.1]) O.2
/-- The list, mended rarely. -/
def fixH (m : Nat) (bs : Nat → Int) (n : Nat) (zs : List Int) (st : Nat × Int) : List Int × (Nat × Int) :=
  if n = 0 then (zs, st) else
  let i := (nextV n m bs st).toNat
  let s1 := nextS n m st
  let d := nextV 24 m bs s1
  let s2 := nextS 24 m s1
  if d = 0 then (zs.set (i * 3) (wrap64 (zs.getD (i * 3) 0 - 1)), s2)
  else if d = 1 then (zs.set (i * 3 + 1) (6 * nextV 2 m bs s2), nextS 2 m s2)
  else if d = 2 then (zs.set (i * 3 + 2) 4, s2)
  else if d = 3 then (zs ++ [zs.getD (i * 3) 0, zs.getD (i * 3 + 1) 0, zs.getD (i * 3 + 2) 0], s2)
  else (zs, s2)
def drawH (m : Nat) (bs : Nat → Int) (st : Nat × Int) : List Int × (Nat × Int) :=
  let s1 := nextS 1000 m st
  let p := drawK m bs (nextV 8 m bs s1).toNat (nextV 1000 m bs st) [] (nextS 8 m s1)
  fixH m bs (p.1.length / 3) p.1 p.2
def DrewH (w w' : World) (B g m : Nat) (bs : Nat → Int) (P : List Int × (Nat × Int)) (e : Ending) : Prop :=
  ∃ (v : Value) (n : Nat), e = .returned v ∧ P.1.length = n * 3 ∧ n ≤ 8 ∧ w'.ownsRow w.heap.size 25 3 v n (P.1.map (Value.int .i64)) ∧ Src w' B g m bs P.2 ∧ w.grownBy w' (some g) ∧ (n = 0 → v = .slice (some ⟨w.heap.size, 0, none⟩) 0 0)

set_option maxRecDepth 100000 in
set_option maxHeartbeats 8000000 in
theorem l19Draw_any (w : World) (B g m : Nat) (bs : Nat → Int) (st : Nat × Int) (h : Src w B g m bs st) :
    Calls Tryd.prog 25 #[.pointer (some ⟨g, 0, none⟩)] w fun e w' => DrewH w w' B g m bs (drawH m bs st) e := by
  have hgl := h.lt
  obtain ⟨i0, hi, hz0', hz1', hz2'⟩ := info_parts infoAppealRuling
  replace hi := Lib.hid hi
  replace hz0' := Lib.hid hz0'
  replace hz1' := Lib.hid hz1'
  replace hz2' := Lib.hid hz2'
  obtain ⟨r1, hr1⟩ : ∃ r, nextV 1000 m bs st = r := ⟨_, rfl⟩
  obtain ⟨s1, hs1⟩ : ∃ s, nextS 1000 m st = s := ⟨_, rfl⟩
  obtain ⟨r2, hr2⟩ : ∃ r, nextV 8 m bs s1 = r := ⟨_, rfl⟩
  obtain ⟨s2, hs2⟩ : ∃ s, nextS 8 m s1 = s := ⟨_, rfl⟩
  have hP : drawH m bs st = fixH m bs ((drawK m bs r2.toNat r1 [] s2).1.length / 3) (drawK m bs r2.toNat r1 [] s2).1 (drawK m bs r2.toNat r1 [] s2).2 := by
    unfold drawH
    simp only [hr1, hs1, hr2, hs2]
  replace hP := Lib.hid hP
  generalize drawH m bs st = P at hP ⊢
  go_enter Tryd.func25, Tryd.ntmps25
  go_wp2_with fail
  refine (next_val _ _ _ _ _ _ _ _ _ (h.new _) hr1 hs1 (by omega) (by omega)).mono ?_
  rintro e w1 ⟨rfl, r10, r11, hS1, hg1⟩
  go_wp2_with fail
  refine (next_val _ _ _ _ _ _ _ _ _ hS1 hr2 hs2 (by omega) (by omega)).mono ?_
  rintro e w2 ⟨rfl, r20, r21, hS2, hg2⟩
  have hgw0 := only_trans (only_trans (only_new (only_refl w (some g)) (.cells #[] 25)) hg1) hg2
  have hown0 : w2.ownsRow w.heap.size 25 3 (.slice (some ⟨w.heap.size, 0, none⟩) 0 0) 0 (([] : List Int).map (Value.int .i64)) := own_empty (((Whole.new w 25 #[]).grown hg1 (fun e => by injection e with e; omega)).grown hg2 (fun e => by injection e with e; omega)) (Nat.le_refl _)
  clear hS1 hg1 hg2 hr1 hs1 hr2 hs2
  obtain ⟨k2, rfl⟩ : ∃ k : Nat, r2 = k := ⟨r2.toNat, by omega⟩
  simp only [Int.toNat_natCast] at hP
  generalize hT : drawK m bs k2 r1 [] s2 = T at hP
  replace hT := Lib.hid hT
  go_wp2_with fail
  go_loopw [3, 4, 5] (fun v3 v4 v5 wr => ∃ (n q : Nat) (zs : List Int) (t : Int) (s : Nat × Int), v4 = .int .i64 t ∧ v5 = .int .i64 q ∧ n + q ≤ 7 ∧ 0 ≤ t ∧ t ≤ 1000 + 90000000 * n ∧ zs.length = n * 3 ∧ Hid (drawK m bs q t zs s = T) ∧ Hid (n = 0 → v3 = .slice (some ⟨w.heap.size, 0, none⟩) 0 0) ∧
    wr.ownsRow w.heap.size 25 3 v3 n (zs.map (Value.int .i64)) ∧ Src wr B g m bs s ∧ w.grownBy wr (some g)) (fun v3 v4 v5 _ => (intOf v5).toNat)
  case atStart => exact ⟨0, k2, [], r1, s2, rfl, rfl, by omega, r10, by omega, rfl, hT, Lib.hid (fun _ => rfl), hown0, hS2, hgw0⟩
  case round =>
    obtain ⟨n, q, zs, t, s, rfl, rfl, hnq, t0, t1, hzl, hTz, hv0, hown, hS, hgw⟩ := hrel
    clear hown0 hS2 hgw0 hT
    rcases Nat.eq_zero_or_pos q with hq | hq
    · subst hq
      have hP2 : P = fixH m bs n zs s := by
        have h1 := hTz.out
        simp only [drawK] at h1
        rw [hP.out, ← h1]
        simp [hzl]
      clear hP hTz
      have hzw := hgw.size
      rcases Nat.eq_zero_or_pos n with hn0 | hn0
      · subst hn0
        obtain ⟨A', c', rfl, hnc, hcm⟩ := own_form hown
        have hP3 : P = (zs, s) := by rw [hP2]; simp [fixH]
        subst hP3
        clear hP2
        go_wp2
        go_ret
        exact ⟨_, 0, rfl, hzl, by omega, hown, hS, hgw, fun _ => (by first | exact hv0.out (by trivial) | simpa using hv0.out (by trivial))⟩
      obtain ⟨_, hzc⟩ := cells_of hown
      obtain ⟨g', cap, cur, rfl, hg'b, hWh, hncap, hcapm, hcs, hcur⟩ := own_open hown hn0
      have hcells : ∀ j, j < n * 3 → cur[j]? = some (.int .i64 (zs.getD j 0)) := fun j hj => hcur j _ (hzc j hj)
      have hgg := hWh.lt
      replace hcells := Lib.hid hcells
      replace hcs := Lib.hid hcs
      obtain ⟨kk, hkk⟩ : ∃ r, nextV n m bs s = r := ⟨_, rfl⟩
      obtain ⟨s3, hs3⟩ : ∃ x, nextS n m s = x := ⟨_, rfl⟩
      obtain ⟨d, hd⟩ : ∃ r, nextV 24 m bs s3 = r := ⟨_, rfl⟩
      obtain ⟨s4, hs4⟩ : ∃ x, nextS 24 m s3 = x := ⟨_, rfl⟩
      have hP3 : P = (if d = 0 then (zs.set (kk.toNat * 3) (wrap64 (zs.getD (kk.toNat * 3) 0 - 1)), s4) else if d = 1 then (zs.set (kk.toNat * 3 + 1) (6 * nextV 2 m bs s4), nextS 2 m s4) else if d = 2 then (zs.set (kk.toNat * 3 + 2) 4, s4) else if d = 3 then (zs ++ [zs.getD (kk.toNat * 3) 0, zs.getD (kk.toNat * 3 + 1) 0, zs.getD (kk.toNat * 3 + 2) 0], s4) else (zs, s4)) := by
        rw [hP2]
        unfold fixH
        rw [if_neg (by omega)]
        simp only [hkk, hs3, hd, hs4]
      clear hP2
      replace hP3 := Lib.hid hP3
      go_wp2_with fail
      refine (next_val _ _ _ _ _ _ _ _ _ hS hkk hs3 (by omega) (by omega)).mono ?_
      rintro e w3 ⟨rfl, k0, k1, hS3, hg3⟩
      have hW3 := hWh.grown hg3 (fun e => by injection e with e; omega)
      have hown3 := own_only hown hg3 (fun k e => by injection e with e; omega)
      go_wp2_with fail
      refine (next_val _ _ _ _ _ _ _ _ _ hS3 hd hs4 (by omega) (by omega)).mono ?_
      rintro e w4 ⟨rfl, d0, d1, hS4, hg4⟩
      have hW4 := hW3.grown hg4 (fun e => by injection e with e; omega)
      have hown4 := own_only hown3 hg4 (fun k e => by injection e with e; omega)
      have hgw4 := only_trans (only_trans hgw hg3) hg4
      have hz4 := hgw4.size
      have hgl4 := hW4.lt
      clear hS hS3 hg3 hg4 hW3 hWh hgw hown hown3 hcur hzc hkk hs3 hd hs4
      obtain ⟨k, rfl⟩ : ∃ k : Nat, kk = k := ⟨kk.toNat, by omega⟩
      simp only [Int.toNat_natCast] at hP3
      have hkn : k < n := by omega
      by_cases h0 : d = 0
      · subst h0
        have hP4 := hP3.out
        rw [if_pos rfl] at hP4
        have y0 := hW4.cell (k * 3)
        rw [hcells.out _ (by omega)] at y0
        generalize zs.getD (k * 3) 0 = x0 at hP4 y0
        subst hP4
        clear hP3
        have f0 := hW4.frz (k * 3)
        go_wp2
        go_ret
        exact ⟨_, n, rfl, by simpa using hzl, by omega, own_putI hown4 _ _, hS4.keepOnly (row := some g') (only_put (only_refl _ _) _ _) (fun k e => by injection e with e; omega), only_put_new hgw4 (by omega) _ _, fun h => (by omega)⟩
      by_cases h1 : d = 1
      · subst h1
        have hP4 := hP3.out
        rw [if_neg (by omega), if_pos rfl] at hP4
        clear hP3
        obtain ⟨r5, hr5⟩ : ∃ r, nextV 2 m bs s4 = r := ⟨_, rfl⟩
        obtain ⟨s5, hs5⟩ : ∃ x, nextS 2 m s4 = x := ⟨_, rfl⟩
        rw [hr5, hs5] at hP4
        subst hP4
        go_wp2_with fail
        refine (next_val _ _ _ _ _ _ _ _ _ hS4 hr5 hs5 (by omega) (by omega)).mono ?_
        rintro e w5 ⟨rfl, q0, q1, hS5, hg5⟩
        have hW5 := hW4.grown hg5 (fun e => by injection e with e; omega)
        have hown5 := own_only hown4 hg5 (fun k e => by injection e with e; omega)
        have hgw5 := only_trans hgw4 hg5
        have y1 := hW5.some_ (k * 3 + 1) (by have := hcs.out; omega)
        have f1 := hW5.frz (k * 3 + 1)
        clear hW4 hown4 hgw4 hg5 hS4
        go_wp2
        go_ret
        exact ⟨_, n, rfl, by simpa using hzl, by omega, own_putI hown5 _ _, hS5.keepOnly (row := some g') (only_put (only_refl _ _) _ _) (fun k e => by injection e with e; omega), only_put_new hgw5 (by omega) _ _, fun h => (by omega)⟩
      by_cases h2 : d = 2
      · subst h2
        have hP4 := hP3.out
        rw [if_neg (by omega), if_neg (by omega), if_pos rfl] at hP4
        subst hP4
        clear hP3
        have y1 := hW4.some_ (k * 3 + 2) (by have := hcs.out; omega)
        have f1 := hW4.frz (k * 3 + 2)
        go_wp2
        go_ret
        exact ⟨_, n, rfl, by simpa using hzl, by omega, own_putI hown4 _ _, hS4.keepOnly (row := some g') (only_put (only_refl _ _) _ _) (fun k e => by injection e with e; omega), only_put_new hgw4 (by omega) _ _, fun h => (by omega)⟩
      by_cases h3 : d = 3
      · subst h3
        have hP4 := hP3.out
        rw [if_neg (by omega), if_neg (by omega), if_neg (by omega), if_pos rfl] at hP4
        clear hP3
        have y0 := hW4.cell (k * 3)
        have y1 := hW4.cell (k * 3 + 1)
        have y2 := hW4.cell (k * 3 + 2)
        rw [hcells.out _ (by omega)] at y0 y1 y2
        generalize zs.getD (k * 3) 0 = x0 at hP4 y0
        generalize zs.getD (k * 3 + 1) 0 = x1 at hP4 y1
        generalize zs.getD (k * 3 + 2) 0 = x2 at hP4 y2
        subst hP4
        have hnew := Whole.new w4 25 #[.int .i64 x0, .int .i64 x1, .int .i64 x2]
        go_wp2_with (at_builtin; refine wpList_append_own_at _ rfl _ _ 30 rfl w.heap.size 25 i0 _ 3 24 Tryd.underlying30 hi.out hz0'.out hz1'.out hz2'.out rfl (by decide) _ _ _ rfl (hown4.alloc _) ⟨w4.heap.size, 0, none⟩ 1 1 [.int .i64 x0, .int .i64 x1, .int .i64 x2] rfl rfl ?c1 ?c2 ?c3 ?c4 ?c5 ?_)
        case c1 =>
          intro j u hu
          rw [add_zero_off, hnew.cell]
          simpa using hu
        case c2 => simp [Value.oneCell']
        case c3 => simp only [maxLen]; omega
        case c4 => omega
        case c5 => simp; omega
        intro v' w8 hown' hgrow _ hat
        have hgw8 : w.grownBy w8 (some g) := only_own (only_new hgw4 _) hgrow (fun k hk => (hown4.lt k hk).1) (Nat.le_refl _)
        have hS8 : Src w8 B g m bs s4 := (hS4.new _).keepOnly hgrow (fun k hk => by have := (hown4.lt k hk).1; omega)
        have hown8 : w8.ownsRow w.heap.size 25 3 v' (n + 1) ((zs ++ [x0, x1, x2]).map (Value.int .i64)) := by simpa using hown'
        clear hown' hgrow hat hown4 hgw4 hS4
        go_wp2
        go_ret
        exact ⟨_, n + 1, rfl, by simp; omega, by omega, hown8, hS8, hgw8, fun h => (by omega)⟩
      · have hP4 := hP3.out
        rw [if_neg h0, if_neg h1, if_neg h2, if_neg h3] at hP4
        subst hP4
        clear hP3
        have n0 : (d == 0) = false := by rw [beq_eq_false_iff_ne]; exact h0
        have n1 : (d == 1) = false := by rw [beq_eq_false_iff_ne]; exact h1
        have n2 : (d == 2) = false := by rw [beq_eq_false_iff_ne]; exact h2
        have n3 : (d == 3) = false := by rw [beq_eq_false_iff_ne]; exact h3
        go_wp2
        go_ret
        exact ⟨_, n, rfl, hzl, by omega, hown4, hS4, hgw4, fun h => (by omega)⟩
    · obtain ⟨q, rfl⟩ : ∃ k, q = k + 1 := ⟨q - 1, by omega⟩
      have hzw := hgw.size
      have hDb := drawT_bd m bs t s
      obtain ⟨D, hD⟩ : ∃ D, drawT m bs t s = D := ⟨_, rfl⟩
      rw [hD] at hDb
      obtain ⟨t', s7⟩ := D
      dsimp only at hDb
      have htm : min t' 1000000000 = t' := by omega
      obtain ⟨L, hL⟩ : ∃ L, rulL n (xsOf zs) t' = L := ⟨_, rfl⟩
      obtain ⟨K, hKL⟩ : ∃ K, L.length = K := ⟨_, rfl⟩
      obtain ⟨co, hco⟩ : ∃ co, rulC n (xsOf zs) t' = co := ⟨_, rfl⟩
      have hTq : T = if co ≠ 0 ∨ K = 0 then (zs, s7) else drawK m bs q t' (zs ++ [t', L.getD (nextV K m bs s7).toNat 0, (rulO m bs (L.getD (nextV K m bs s7).toNat 0) (nextS K m s7)).1]) (rulO m bs (L.getD (nextV K m bs s7).toNat 0) (nextS K m s7)).2 := by
        have h1 := hTz.out
        have hl3 : zs.length / 3 = n := by omega
        simp only [drawK, hD, htm, hl3, hL, hco, hKL] at h1
        exact h1.symm
      clear hTz
      replace hTq := Lib.hid hTq
      replace hL := Lib.hid hL
      replace hKL := Lib.hid hKL
      replace hco := Lib.hid hco
      go_upto_region 6 with fail
      go_cut [4] from 14 to 38 (fun v4 wx => v4 = .int .i64 t' ∧ Src wx B g m bs s7 ∧ wr.grownBy wx (some g))
      case first =>
        obtain ⟨a1, ha1⟩ : ∃ r, nextV 5000 m bs s = r := ⟨_, rfl⟩
        obtain ⟨s3, hs3⟩ : ∃ x, nextS 5000 m s = x := ⟨_, rfl⟩
        obtain ⟨a2, ha2⟩ : ∃ r, nextV 2 m bs s3 = r := ⟨_, rfl⟩
        obtain ⟨s4, hs4⟩ : ∃ x, nextS 2 m s3 = x := ⟨_, rfl⟩
        obtain ⟨a3, ha3⟩ : ∃ r, nextV 90000 m bs s4 = r := ⟨_, rfl⟩
        obtain ⟨s5, hs5⟩ : ∃ x, nextS 90000 m s4 = x := ⟨_, rfl⟩
        obtain ⟨i, hii⟩ : ∃ r, nextV 8 m bs s5 = r := ⟨_, rfl⟩
        obtain ⟨s6, hs6⟩ : ∃ x, nextS 8 m s5 = x := ⟨_, rfl⟩
        obtain ⟨j, hj⟩ : ∃ r, nextV 8 m bs s6 = r := ⟨_, rfl⟩
        obtain ⟨s8, hs8⟩ : ∃ x, nextS 8 m s6 = x := ⟨_, rfl⟩
        have hDD : (t', s7) = (t + ([a1, 86400000 + a2, a3 * 1000] : List Int).getD (i / 7 + j / 7).toNat 0, s8) := by
          rw [← hD]
          unfold drawT
          simp only [ha1, hs3, ha2, hs4, ha3, hs5, hii, hs6, hj, hs8]
        injection hDD with hD1 hD2
        subst hD2
        clear hD hTq hL hco hP hKL
        go_wp2_with fail
        refine (next_val _ _ _ _ _ _ _ _ _ hS ha1 hs3 (by omega) (by omega)).mono ?_
        rintro e w3 ⟨rfl, a10, a11, hS3, hg3⟩
        go_wp2_with fail
        refine (next_val _ _ _ _ _ _ _ _ _ hS3 ha2 hs4 (by omega) (by omega)).mono ?_
        rintro e w4 ⟨rfl, a20, a21, hS4, hg4⟩
        go_wp2_with fail
        refine (next_val _ _ _ _ _ _ _ _ _ hS4 ha3 hs5 (by omega) (by omega)).mono ?_
        rintro e w5 ⟨rfl, a30, a31, hS5, hg5⟩
        go_wp2_with fail
        refine (next_val _ _ _ _ _ _ _ _ _ (hS5.new (.cells #[.int .i64 a1, .int .i64 (86400000 + a2), .int .i64 (a3 * 1000)] 2)) hii hs6 (by omega) (by omega)).mono ?_
        rintro e w6 ⟨rfl, i0', i1', hS6, hg6⟩
        go_wp2_with fail
        refine (next_val _ _ _ _ _ _ _ _ _ hS6 hj hs8 (by omega) (by omega)).mono ?_
        rintro e w7 ⟨rfl, j0', j1', hS7, hg7⟩
        have hz3 := hg3.size
        have hz4 := hg4.size
        have hz5 := hg5.size
        have hz6 := hg6.size
        simp at hz6
        have hLt := ((Whole.new w5 2 #[.int .i64 a1, .int .i64 (86400000 + a2), .int .i64 (a3 * 1000)]).grown hg6 (fun e => by injection e with e; omega)).grown hg7 (fun e => by injection e with e; omega)
        have c0 := hLt.cell 0
        have c1 := hLt.cell 1
        have c2 := hLt.cell 2
        simp at c0 c1 c2
        have hgx := only_trans (only_trans (only_new (only_trans (only_trans hg3 hg4) hg5) (.cells #[.int .i64 a1, .int .i64 (86400000 + a2), .int .i64 (a3 * 1000)] 2)) hg6) hg7
        clear hS hS3 hS4 hS5 hS6 hg3 hg4 hg5 hg6 hg7 hLt ha1 hs3 ha2 hs4 ha3 hs5 hii hs6 hj hs8
        have hit : i.tdiv 7 = i / 7 := Int.tdiv_eq_ediv_of_nonneg i0'
        have hjt : j.tdiv 7 = j / 7 := Int.tdiv_eq_ediv_of_nonneg j0'
        replace hD1 := Lib.hid hD1
        obtain ⟨ii, hii⟩ : ∃ ii, i / 7 = ii := ⟨_, rfl⟩
        obtain ⟨jj, hjj⟩ : ∃ jj, j / 7 = jj := ⟨_, rfl⟩
        have hib : ii = 0 ∨ ii = 1 := by omega
        have hjb : jj = 0 ∨ jj = 1 := by omega
        rcases hib with rfl | rfl <;> rcases hjb with rfl | rfl
        all_goals go_wp2_with fail
        all_goals go_meet
        all_goals exact ⟨by rw [hD1.out, hii, hjj]; rfl, hS7, hgx⟩
      case rest =>
      obtain ⟨rfl, hS3, hg3⟩ := hcut
      clear hS
      rename World => w3
      have hown3 := own_only hown hg3 (fun k e => by injection e with e; omega)
      have hgw3 := only_trans hgw hg3
      have hz3 := hgw3.size
      obtain ⟨A1, c1, rfl, hnc, hcm⟩ := own_form hown3
      have hI : Ints w3 w3.heap.size A1 (n * 3) (xsOf zs) := Ints.of_own hown3 (Nat.le_refl _) (by simp; omega) (cells_of hown3).2
      clear hown hgw hg3 hD
      go_wp2_with fail
      refine (sRulingsAfter_val _ _ _ _ _ _ _ K L co hL hco hKL hI (Nat.le_refl _) (by omega)).mono ?_
      rintro e w4 ⟨A2, c2, rfl, hK5, hownL, hb4⟩
      have hz4 := hb4.size
      have hown4 := own_below hown3 hb4
      have hgw4 := only_trans hgw3 (only_below hb4 (some g))
      have hS4 := hS3.keepOnly (row := none) (only_below hb4 none) (by simp)
      clear hown3 hgw3 hS3 hb4 hI
      by_cases hbr : co ≠ 0 ∨ K = 0
      · have hP2 : P = fixH m bs n zs s7 := by
          have h1 := hTq.out
          rw [if_pos hbr] at h1
          rw [hP.out, h1]
          simp [hzl]
        clear hP hTq hL hco
        have hown := hown4
        have hS := hS4
        have hgw := hgw4
        clear hown4 hS4 hgw4 hz4 hownL
        by_cases hc0 : co = 0
        · subst hc0
          obtain rfl : K = 0 := by omega
          clear hbr hKL
          have hzw := hgw.size
          rcases Nat.eq_zero_or_pos n with hn0 | hn0
          · subst hn0
            have hP3 : P = (zs, s7) := by rw [hP2]; simp [fixH]
            subst hP3
            clear hP2
            go_wp2
            go_ret
            exact ⟨_, 0, rfl, hzl, by omega, hown, hS, hgw, fun _ => (by first | exact hv0.out (by trivial) | simpa using hv0.out (by trivial))⟩
          obtain ⟨_, hzc⟩ := cells_of hown
          obtain ⟨g', cap, cur, hv', hg'b, hWh, hncap, hcapm, hcs, hcur⟩ := own_open hown hn0
          injection hv' with hv1' _ hv3'
          subst hv1'
          subst hv3'
          have hcells : ∀ j, j < n * 3 → cur[j]? = some (.int .i64 (zs.getD j 0)) := fun j hj => hcur j _ (hzc j hj)
          have hgg := hWh.lt
          replace hcells := Lib.hid hcells
          replace hcs := Lib.hid hcs
          obtain ⟨kk, hkk⟩ : ∃ r, nextV n m bs s7 = r := ⟨_, rfl⟩
          obtain ⟨s3, hs3⟩ : ∃ x, nextS n m s7 = x := ⟨_, rfl⟩
          obtain ⟨d, hd⟩ : ∃ r, nextV 24 m bs s3 = r := ⟨_, rfl⟩
          obtain ⟨s4, hs4⟩ : ∃ x, nextS 24 m s3 = x := ⟨_, rfl⟩
          have hP3 : P = (if d = 0 then (zs.set (kk.toNat * 3) (wrap64 (zs.getD (kk.toNat * 3) 0 - 1)), s4) else if d = 1 then (zs.set (kk.toNat * 3 + 1) (6 * nextV 2 m bs s4), nextS 2 m s4) else if d = 2 then (zs.set (kk.toNat * 3 + 2) 4, s4) else if d = 3 then (zs ++ [zs.getD (kk.toNat * 3) 0, zs.getD (kk.toNat * 3 + 1) 0, zs.getD (kk.toNat * 3 + 2) 0], s4) else (zs, s4)) := by
            rw [hP2]
            unfold fixH
            rw [if_neg (by omega)]
            simp only [hkk, hs3, hd, hs4]
          clear hP2
          replace hP3 := Lib.hid hP3
          go_wp2_with fail
          refine (next_val _ _ _ _ _ _ _ _ _ hS hkk hs3 (by omega) (by omega)).mono ?_
          rintro e w3 ⟨rfl, k0, k1, hS3, hg3⟩
          have hW3 := hWh.grown hg3 (fun e => by injection e with e; omega)
          have hown3 := own_only hown hg3 (fun k e => by injection e with e; omega)
          go_wp2_with fail
          refine (next_val _ _ _ _ _ _ _ _ _ hS3 hd hs4 (by omega) (by omega)).mono ?_
          rintro e w4 ⟨rfl, d0, d1, hS4, hg4⟩
          have hW4 := hW3.grown hg4 (fun e => by injection e with e; omega)
          have hown4 := own_only hown3 hg4 (fun k e => by injection e with e; omega)
          have hgw4 := only_trans (only_trans hgw hg3) hg4
          have hz4 := hgw4.size
          have hgl4 := hW4.lt
          clear hS hS3 hg3 hg4 hW3 hWh hgw hown hown3 hcur hzc hkk hs3 hd hs4
          obtain ⟨k, rfl⟩ : ∃ k : Nat, kk = k := ⟨kk.toNat, by omega⟩
          simp only [Int.toNat_natCast] at hP3
          have hkn : k < n := by omega
          by_cases h0 : d = 0
          · subst h0
            have hP4 := hP3.out
            rw [if_pos rfl] at hP4
            have y0 := hW4.cell (k * 3)
            rw [hcells.out _ (by omega)] at y0
            generalize zs.getD (k * 3) 0 = x0 at hP4 y0
            subst hP4
            clear hP3
            have f0 := hW4.frz (k * 3)
            go_wp2
            go_ret
            exact ⟨_, n, rfl, by simpa using hzl, by omega, own_putI hown4 _ _, hS4.keepOnly (row := some g') (only_put (only_refl _ _) _ _) (fun k e => by injection e with e; omega), only_put_new hgw4 (by omega) _ _, fun h => (by omega)⟩
          by_cases h1 : d = 1
          · subst h1
            have hP4 := hP3.out
            rw [if_neg (by omega), if_pos rfl] at hP4
            clear hP3
            obtain ⟨r5, hr5⟩ : ∃ r, nextV 2 m bs s4 = r := ⟨_, rfl⟩
            obtain ⟨s5, hs5⟩ : ∃ x, nextS 2 m s4 = x := ⟨_, rfl⟩
            rw [hr5, hs5] at hP4
            subst hP4
            go_wp2_with fail
            refine (next_val _ _ _ _ _ _ _ _ _ hS4 hr5 hs5 (by omega) (by omega)).mono ?_
            rintro e w5 ⟨rfl, q0, q1, hS5, hg5⟩
            have hW5 := hW4.grown hg5 (fun e => by injection e with e; omega)
            have hown5 := own_only hown4 hg5 (fun k e => by injection e with e; omega)
            have hgw5 := only_trans hgw4 hg5
            have y1 := hW5.some_ (k * 3 + 1) (by have := hcs.out; omega)
            have f1 := hW5.frz (k * 3 + 1)
            clear hW4 hown4 hgw4 hg5 hS4
            go_wp2
            go_ret
            exact ⟨_, n, rfl, by simpa using hzl, by omega, own_putI hown5 _ _, hS5.keepOnly (row := some g') (only_put (only_refl _ _) _ _) (fun k e => by injection e with e; omega), only_put_new hgw5 (by omega) _ _, fun h => (by omega)⟩
          by_cases h2 : d = 2
          · subst h2
            have hP4 := hP3.out
            rw [if_neg (by omega), if_neg (by omega), if_pos rfl] at hP4
            subst hP4
            clear hP3
            have y1 := hW4.some_ (k * 3 + 2) (by have := hcs.out; omega)
            have f1 := hW4.frz (k * 3 + 2)
            go_wp2
            go_ret
            exact ⟨_, n, rfl, by simpa using hzl, by omega, own_putI hown4 _ _, hS4.keepOnly (row := some g') (only_put (only_refl _ _) _ _) (fun k e => by injection e with e; omega), only_put_new hgw4 (by omega) _ _, fun h => (by omega)⟩
          by_cases h3 : d = 3
          · subst h3
            have hP4 := hP3.out
            rw [if_neg (by omega), if_neg (by omega), if_neg (by omega), if_pos rfl] at hP4
            clear hP3
            have y0 := hW4.cell (k * 3)
            have y1 := hW4.cell (k * 3 + 1)
            have y2 := hW4.cell (k * 3 + 2)
            rw [hcells.out _ (by omega)] at y0 y1 y2
            generalize zs.getD (k * 3) 0 = x0 at hP4 y0
            generalize zs.getD (k * 3 + 1) 0 = x1 at hP4 y1
            generalize zs.getD (k * 3 + 2) 0 = x2 at hP4 y2
            subst hP4
            have hnew := Whole.new w4 25 #[.int .i64 x0, .int .i64 x1, .int .i64 x2]
            go_wp2_with (at_builtin; refine wpList_append_own_at _ rfl _ _ 30 rfl w.heap.size 25 i0 _ 3 24 Tryd.underlying30 hi.out hz0'.out hz1'.out hz2'.out rfl (by decide) _ _ _ rfl (hown4.alloc _) ⟨w4.heap.size, 0, none⟩ 1 1 [.int .i64 x0, .int .i64 x1, .int .i64 x2] rfl rfl ?c1 ?c2 ?c3 ?c4 ?c5 ?_)
            case c1 =>
              intro j u hu
              rw [add_zero_off, hnew.cell]
              simpa using hu
            case c2 => simp [Value.oneCell']
            case c3 => simp only [maxLen]; omega
            case c4 => omega
            case c5 => simp; omega
            intro v' w8 hown' hgrow _ hat
            have hgw8 : w.grownBy w8 (some g) := only_own (only_new hgw4 _) hgrow (fun k hk => (hown4.lt k hk).1) (Nat.le_refl _)
            have hS8 : Src w8 B g m bs s4 := (hS4.new _).keepOnly hgrow (fun k hk => by have := (hown4.lt k hk).1; omega)
            have hown8 : w8.ownsRow w.heap.size 25 3 v' (n + 1) ((zs ++ [x0, x1, x2]).map (Value.int .i64)) := by simpa using hown'
            clear hown' hgrow hat hown4 hgw4 hS4
            go_wp2
            go_ret
            exact ⟨_, n + 1, rfl, by simp; omega, by omega, hown8, hS8, hgw8, fun h => (by omega)⟩
          · have hP4 := hP3.out
            rw [if_neg h0, if_neg h1, if_neg h2, if_neg h3] at hP4
            subst hP4
            clear hP3
            have n0 : (d == 0) = false := by rw [beq_eq_false_iff_ne]; exact h0
            have n1 : (d == 1) = false := by rw [beq_eq_false_iff_ne]; exact h1
            have n2 : (d == 2) = false := by rw [beq_eq_false_iff_ne]; exact h2
            have n3 : (d == 3) = false := by rw [beq_eq_false_iff_ne]; exact h3
            go_wp2
            go_ret
            exact ⟨_, n, rfl, hzl, by omega, hown4, hS4, hgw4, fun h => (by omega)⟩
        · have hcb : (co != 0) = true := by rw [bne_iff_ne]; exact hc0
          clear hbr
          have hzw := hgw.size
          rcases Nat.eq_zero_or_pos n with hn0 | hn0
          · subst hn0
            have hP3 : P = (zs, s7) := by rw [hP2]; simp [fixH]
            subst hP3
            clear hP2
            go_wp2
            go_ret
            exact ⟨_, 0, rfl, hzl, by omega, hown, hS, hgw, fun _ => (by first | exact hv0.out (by trivial) | simpa using hv0.out (by trivial))⟩
          obtain ⟨_, hzc⟩ := cells_of hown
          obtain ⟨g', cap, cur, hv', hg'b, hWh, hncap, hcapm, hcs, hcur⟩ := own_open hown hn0
          injection hv' with hv1' _ hv3'
          subst hv1'
          subst hv3'
          have hcells : ∀ j, j < n * 3 → cur[j]? = some (.int .i64 (zs.getD j 0)) := fun j hj => hcur j _ (hzc j hj)
          have hgg := hWh.lt
          replace hcells := Lib.hid hcells
          replace hcs := Lib.hid hcs
          obtain ⟨kk, hkk⟩ : ∃ r, nextV n m bs s7 = r := ⟨_, rfl⟩
          obtain ⟨s3, hs3⟩ : ∃ x, nextS n m s7 = x := ⟨_, rfl⟩
          obtain ⟨d, hd⟩ : ∃ r, nextV 24 m bs s3 = r := ⟨_, rfl⟩
          obtain ⟨s4, hs4⟩ : ∃ x, nextS 24 m s3 = x := ⟨_, rfl⟩
          have hP3 : P = (if d = 0 then (zs.set (kk.toNat * 3) (wrap64 (zs.getD (kk.toNat * 3) 0 - 1)), s4) else if d = 1 then (zs.set (kk.toNat * 3 + 1) (6 * nextV 2 m bs s4), nextS 2 m s4) else if d = 2 then (zs.set (kk.toNat * 3 + 2) 4, s4) else if d = 3 then (zs ++ [zs.getD (kk.toNat * 3) 0, zs.getD (kk.toNat * 3 + 1) 0, zs.getD (kk.toNat * 3 + 2) 0], s4) else (zs, s4)) := by
            rw [hP2]
            unfold fixH
            rw [if_neg (by omega)]
            simp only [hkk, hs3, hd, hs4]
          clear hP2
          replace hP3 := Lib.hid hP3
          go_wp2_with fail
          refine (next_val _ _ _ _ _ _ _ _ _ hS hkk hs3 (by omega) (by omega)).mono ?_
          rintro e w3 ⟨rfl, k0, k1, hS3, hg3⟩
          have hW3 := hWh.grown hg3 (fun e => by injection e with e; omega)
          have hown3 := own_only hown hg3 (fun k e => by injection e with e; omega)
          go_wp2_with fail
          refine (next_val _ _ _ _ _ _ _ _ _ hS3 hd hs4 (by omega) (by omega)).mono ?_
          rintro e w4 ⟨rfl, d0, d1, hS4, hg4⟩
          have hW4 := hW3.grown hg4 (fun e => by injection e with e; omega)
          have hown4 := own_only hown3 hg4 (fun k e => by injection e with e; omega)
          have hgw4 := only_trans (only_trans hgw hg3) hg4
          have hz4 := hgw4.size
          have hgl4 := hW4.lt
          clear hS hS3 hg3 hg4 hW3 hWh hgw hown hown3 hcur hzc hkk hs3 hd hs4
          obtain ⟨k, rfl⟩ : ∃ k : Nat, kk = k := ⟨kk.toNat, by omega⟩
          simp only [Int.toNat_natCast] at hP3
          have hkn : k < n := by omega
          by_cases h0 : d = 0
          · subst h0
            have hP4 := hP3.out
            rw [if_pos rfl] at hP4
            have y0 := hW4.cell (k * 3)
            rw [hcells.out _ (by omega)] at y0
            generalize zs.getD (k * 3) 0 = x0 at hP4 y0
            subst hP4
            clear hP3
            have f0 := hW4.frz (k * 3)
            go_wp2
            go_ret
            exact ⟨_, n, rfl, by simpa using hzl, by omega, own_putI hown4 _ _, hS4.keepOnly (row := some g') (only_put (only_refl _ _) _ _) (fun k e => by injection e with e; omega), only_put_new hgw4 (by omega) _ _, fun h => (by omega)⟩
          by_cases h1 : d = 1
          · subst h1
            have hP4 := hP3.out
            rw [if_neg (by omega), if_pos rfl] at hP4
            clear hP3
            obtain ⟨r5, hr5⟩ : ∃ r, nextV 2 m bs s4 = r := ⟨_, rfl⟩
            obtain ⟨s5, hs5⟩ : ∃ x, nextS 2 m s4 = x := ⟨_, rfl⟩
            rw [hr5, hs5] at hP4
            subst hP4
            go_wp2_with fail
            refine (next_val _ _ _ _ _ _ _ _ _ hS4 hr5 hs5 (by omega) (by omega)).mono ?_
            rintro e w5 ⟨rfl, q0, q1, hS5, hg5⟩
            have hW5 := hW4.grown hg5 (fun e => by injection e with e; omega)
            have hown5 := own_only hown4 hg5 (fun k e => by injection e with e; omega)
            have hgw5 := only_trans hgw4 hg5
            have y1 := hW5.some_ (k * 3 + 1) (by have := hcs.out; omega)
            have f1 := hW5.frz (k * 3 + 1)
            clear hW4 hown4 hgw4 hg5 hS4
            go_wp2
            go_ret
            exact ⟨_, n, rfl, by simpa using hzl, by omega, own_putI hown5 _ _, hS5.keepOnly (row := some g') (only_put (only_refl _ _) _ _) (fun k e => by injection e with e; omega), only_put_new hgw5 (by omega) _ _, fun h => (by omega)⟩
          by_cases h2 : d = 2
          · subst h2
            have hP4 := hP3.out
            rw [if_neg (by omega), if_neg (by omega), if_pos rfl] at hP4
            subst hP4
            clear hP3
            have y1 := hW4.some_ (k * 3 + 2) (by have := hcs.out; omega)
            have f1 := hW4.frz (k * 3 + 2)
            go_wp2
            go_ret
            exact ⟨_, n, rfl, by simpa using hzl, by omega, own_putI hown4 _ _, hS4.keepOnly (row := some g') (only_put (only_refl _ _) _ _) (fun k e => by injection e with e; omega), only_put_new hgw4 (by omega) _ _, fun h => (by omega)⟩
          by_cases h3 : d = 3
          · subst h3
            have hP4 := hP3.out
            rw [if_neg (by omega), if_neg (by omega), if_neg (by omega), if_pos rfl] at hP4
            clear hP3
            have y0 := hW4.cell (k * 3)
            have y1 := hW4.cell (k * 3 + 1)
            have y2 := hW4.cell (k * 3 + 2)
            rw [hcells.out _ (by omega)] at y0 y1 y2
            generalize zs.getD (k * 3) 0 = x0 at hP4 y0
            generalize zs.getD (k * 3 + 1) 0 = x1 at hP4 y1
            generalize zs.getD (k * 3 + 2) 0 = x2 at hP4 y2
            subst hP4
            have hnew := Whole.new w4 25 #[.int .i64 x0, .int .i64 x1, .int .i64 x2]
            go_wp2_with (at_builtin; refine wpList_append_own_at _ rfl _ _ 30 rfl w.heap.size 25 i0 _ 3 24 Tryd.underlying30 hi.out hz0'.out hz1'.out hz2'.out rfl (by decide) _ _ _ rfl (hown4.alloc _) ⟨w4.heap.size, 0, none⟩ 1 1 [.int .i64 x0, .int .i64 x1, .int .i64 x2] rfl rfl ?c1 ?c2 ?c3 ?c4 ?c5 ?_)
            case c1 =>
              intro j u hu
              rw [add_zero_off, hnew.cell]
              simpa using hu
            case c2 => simp [Value.oneCell']
            case c3 => simp only [maxLen]; omega
            case c4 => omega
            case c5 => simp; omega
            intro v' w8 hown' hgrow _ hat
            have hgw8 : w.grownBy w8 (some g) := only_own (only_new hgw4 _) hgrow (fun k hk => (hown4.lt k hk).1) (Nat.le_refl _)
            have hS8 : Src w8 B g m bs s4 := (hS4.new _).keepOnly hgrow (fun k hk => by have := (hown4.lt k hk).1; omega)
            have hown8 : w8.ownsRow w.heap.size 25 3 v' (n + 1) ((zs ++ [x0, x1, x2]).map (Value.int .i64)) := by simpa using hown'
            clear hown' hgrow hat hown4 hgw4 hS4
            go_wp2
            go_ret
            exact ⟨_, n + 1, rfl, by simp; omega, by omega, hown8, hS8, hgw8, fun h => (by omega)⟩
          · have hP4 := hP3.out
            rw [if_neg h0, if_neg h1, if_neg h2, if_neg h3] at hP4
            subst hP4
            clear hP3
            have n0 : (d == 0) = false := by rw [beq_eq_false_iff_ne]; exact h0
            have n1 : (d == 1) = false := by rw [beq_eq_false_iff_ne]; exact h1
            have n2 : (d == 2) = false := by rw [beq_eq_false_iff_ne]; exact h2
            have n3 : (d == 3) = false := by rw [beq_eq_false_iff_ne]; exact h3
            go_wp2
            go_ret
            exact ⟨_, n, rfl, hzl, by omega, hown4, hS4, hgw4, fun h => (by omega)⟩
      · have hT2 := hTq.out
        rw [if_neg hbr] at hT2
        have hc0 : co = 0 := by omega
        subst hc0
        have hK0 : 0 < K := by omega
        have hK1 : ((K : Int) == 0) = false := by rw [beq_eq_false_iff_ne]; omega
        have hK2 : ¬ K = 0 := by omega
        obtain ⟨_, hLc⟩ := cells_of hownL
        obtain ⟨gL, capL, curL, hvL, hgLb, hWL, _, _, _, hcurL⟩ := own_open hownL hK0
        injection hvL with hv1 _ hv3
        subst hv1
        subst hv3
        obtain ⟨r, hr⟩ : ∃ r, nextV K m bs s7 = r := ⟨_, rfl⟩
        obtain ⟨s8, hs8⟩ : ∃ x, nextS K m s7 = x := ⟨_, rfl⟩
        rw [hr, hs8] at hT2
        have hrb := nextV_bd K m bs s7 (by omega)
        rw [hr] at hrb
        obtain ⟨rn, rfl⟩ : ∃ k : Nat, r = k := ⟨r.toNat, by omega⟩
        simp only [Int.toNat_natCast] at hT2
        have yL := (hWL.cell rn).trans (hcurL _ _ (hLc rn (by omega)))
        generalize hkd : L.getD rn 0 = kd at hT2 yL
        obtain ⟨O, hO⟩ : ∃ O, rulO m bs kd s8 = O := ⟨_, rfl⟩
        rw [hO] at hT2
        obtain ⟨ov, s9⟩ := O
        dsimp only at hT2
        replace hT2 := Lib.hid hT2
        replace hkd := Lib.hid hkd
        clear hbr hTq hL hco hcurL hLc hownL
        go_wp2_with fail
        refine (next_val _ _ _ _ _ _ _ _ _ hS4 hr hs8 (by omega) (by omega)).mono ?_
        rintro e w5 ⟨rfl, _, _, hS5, hg5⟩
        have hWL5 := hWL.grown hg5 (fun e => by injection e with e; omega)
        have yL5 : w5.cell? ⟨gL, rn, none⟩ = some (.int .i64 kd) := by rw [hWL5.cell, ← hWL.cell]; exact yL
        have hown5 := own_only hown4 hg5 (fun k e => by injection e with e; omega)
        have hgw5 := only_trans hgw4 hg5
        have hz5 := hgw5.size
        have hgLl := hWL5.lt
        clear yL hown4 hgw4 hS4 hg5 hWL hr hs8
        have hrn : rn < K := by omega
        go_wp2_with fail
        refine (l19DrawRuling_any _ _ _ _ _ _ _ _ hS5).mono ?_
        rw [hO]
        rintro e w6 ⟨rfl, hS6, hg6⟩
        dsimp only at hS6
        have hown6 := own_only hown5 hg6 (fun k e => by injection e with e; omega)
        have hgw6 := only_trans hgw5 hg6
        have hz6 := hgw6.size
        have hnew := Whole.new w6 25 #[.int .i64 t', .int .i64 kd, .int .i64 ov]
        clear hown5 hgw5 hS5 hg6 hWL5 yL5 hO
        go_wp2_with (at_builtin; refine wpList_append_own_at _ rfl _ _ 30 rfl w.heap.size 25 i0 _ 3 24 Tryd.underlying30 hi.out hz0'.out hz1'.out hz2'.out rfl (by decide) _ _ _ rfl (hown6.alloc _) ⟨w6.heap.size, 0, none⟩ 1 1 [.int .i64 t', .int .i64 kd, .int .i64 ov] rfl rfl ?c1 ?c2 ?c3 ?c4 ?c5 ?_)
        case c1 =>
          intro j u hu
          rw [add_zero_off, hnew.cell]
          simpa using hu
        case c2 => simp [Value.oneCell']
        case c3 => simp only [maxLen]; omega
        case c4 => omega
        case c5 => simp; omega
        intro v' w8 hown' hgrow _ hat
        have hgw8 : w.grownBy w8 (some g) := only_own (only_new hgw6 _) hgrow (fun k hk => (hown6.lt k hk).1) (Nat.le_refl _)
        have hS8 : Src w8 B g m bs s9 := (hS6.new _).keepOnly hgrow (fun k hk => by have := (hown6.lt k hk).1; omega)
        have hown8 : w8.ownsRow w.heap.size 25 3 v' (n + 1) ((zs ++ [t', kd, ov]).map (Value.int .i64)) := by simpa using hown'
        clear hown' hgrow hat hown6 hgw6 hS6
        go_wp2
        go_roundw
        case rel => exact ⟨n + 1, q, zs ++ [t', kd, ov], t', s9, rfl, by go_num, by omega, by omega, by omega, by simp; omega, Lib.hid hT2.out.symm, Lib.hid (fun h => by omega), hown8, hS8, hgw8⟩
        case measure => simp [intOf]; try omega
end Go.Proofs.YteacjoemlobmoaaDoor
