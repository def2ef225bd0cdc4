/- The draws of windows, as functions of the code. -/
import Derived.Test.YtghpaegabppeaaaPick
import Derived.Test.YtghpaegabppeaaaOwn
import Derived.Test.YtghpaegabppeaaaSWindow
import Derived.Maps.AppendAt
import Derived.Deep.RegionLaw
import Derived.StillTailTactics
set_option linter.unusedSimpArgs false
set_option linter.unusedVariables false
namespace Go.Proofs.Ytghpaegabppeaaa
open Go.RowKit

theorem next_val (n : Int) (w : World) (B g m : Nat) (bs : Nat → Int) (st s' : Nat × Int) (r : Int) (h : Src w B g m bs st) (hr : nextV n m bs st = r) (hs : nextS n m st = s') (h1 : 1 ≤ n) (h2 : n ≤ 9223372036854775807) :
    Calls Try.prog 53 #[.pointer (some ⟨g, 0, none⟩), .int .i64 n] w fun e w' => e = .returned (.int .i64 r) ∧ 0 ≤ r ∧ r < n ∧ Src w' B g m bs s' ∧ w.grownBy w' (some g) := by
  subst hr; subst hs
  refine (next_any n w B g m bs st h h2).mono ?_
  rintro e w' ⟨rfl, h3, h4⟩
  have := nextV_bd n m bs st h1
  exact ⟨rfl, this.1, this.2, h3, h4⟩
theorem Src.new {w : World} {B g m : Nat} {bs : Nat → Int} {st : Nat × Int} (h : Src w B g m bs st) (o : Obj) : Src (w.alloc o) B g m bs st :=
  h.keepOnly (World.grownBy_alloc w o none) (fun k e => by cases e)
theorem Src.lt {w : World} {B g m : Nat} {bs : Nat → Int} {st : Nat × Int} (h : Src w B g m bs st) : g < w.heap.size := SrcX.lt ⟨st, h⟩
theorem own_put {w : World} {base g n c size : Nat} {e : TypeId} {xs : List Value} (h : w.ownsRow base e size (.slice (some ⟨g, 0, none⟩) n c) n xs) (i : Nat) (u : Value) : (w.setCell ⟨g, i, none⟩ u).ownsRow base e size (.slice (some ⟨g, 0, none⟩) n c) n (xs.set i u) := by
  rcases h.2 with ⟨hv, _⟩ | ⟨g', cap, cur, hv, hb, hh, hnc, hcm, hcs, ht⟩
  · cases hv
  · injection hv with hv1 _ hv3
    injection hv1 with hv1
    injection hv1 with hv1
    subst hv1
    subst hv3
    refine ⟨by simpa using h.1, .inr ⟨g, c, cur.setIfInBounds i u, rfl, hb, Whole.put hh i u, hnc, hcm, by simpa using hcs, ?_⟩⟩
    rw [Array.toList_setIfInBounds, List.take_set, ht]
theorem own_putI {w : World} {base g n c size : Nat} {e : TypeId} {zs : List Int} (h : w.ownsRow base e size (.slice (some ⟨g, 0, none⟩) n c) n (zs.map (Value.int .i64))) (i : Nat) (x : Int) : (w.setCell ⟨g, i, none⟩ (.int .i64 x)).ownsRow base e size (.slice (some ⟨g, 0, none⟩) n c) n ((zs.set i x).map (Value.int .i64)) := by
  rw [List.map_set]; exact own_put h i _
theorem getD_all {zs : List Int} {P : Int → Prop} (h : ∀ y ∈ zs, P y) {i : Nat} (hi : i < zs.length) : P (zs.getD i 0) := by
  rw [List.getD_eq_getElem?_getD, List.getElem?_eq_getElem hi]
  exact h _ (List.getElem_mem _)

/-- append onto a row of the call's own, as a step of a region that draws its order. -/
theorem step_append_own {P : Program} {w : World} {ops : Array Oper} {o : Oper} {a : Act} {K : Act → World → Prop} {Q : Exit → Act → World → Prop} {E : Prop} (hgd : o.guard = none) (s x : Operand) (t : TypeId)
    (ho : o.op = .call { callee := .builtin .append, args := #[s, x], argTypes := #[t, t] })
    (base : Nat) (e : TypeId) (i : TypeInfo) (z : Value) (size bytes : Nat) (ht : P.underlying t = some (.slice e)) (hi : P.info? e = some i) (hz : i.zero = some z)
    (hsize : i.size = size) (hby : i.bytes = bytes) (hzs : z.cells.size = size) (hsz : 0 < size)
    (v : Value) (n : Nat) (xs : List Value) (hs : a.eval s = v) (hown : w.ownsRow base e size v n xs)
    (ad : Addr) (m c : Nat) (news : List Value) (hx : a.eval x = .slice (some ad) m c) (hl : news.length = m * size) (hnews : ∀ j u, news[j]? = some u → w.cell? (ad.add j) = some u) (h1 : ∀ u ∈ news, u.oneCell' = true)
    (h63 : n + m ≤ maxLen) (hbytes : (n + m) * bytes ≤ 140737488355328) (hbase : base ≤ w.heap.size)
    (h : ∀ v' w', w'.ownsRow base e size v' (n + m) (xs ++ news) → w.grownBy w' v.ownBlock → K (a.put o.dst v') w') :
    if Region.wanted o (yielded ops a.tmps) = true then Oper.wp P o a w K Q else E := by
  have hw : Region.wanted o (yielded ops a.tmps) = true := by simp [Region.wanted, hgd]
  rw [if_pos hw]
  exact wp_append_own w s x t ho base e i z size bytes ht hi hz hsize hby hzs hsz v n xs hs hown ad m c news hx hl hnews h1 h63 hbytes hbase fun v' w' h2 h3 h4 => h v' w' h2 h3
theorem news_whole {W : World} {g : Nat} {t : TypeId} {cs : Array Value} (h : Whole W g t cs) : ∀ j u, cs.toList[j]? = some u → W.cell? ((⟨g, 0, none⟩ : Addr).add j) = some u := by
  intro j u hu
  rw [add_zero_off, h.cell j]
  simpa using hu
/-- The windows that k rounds draw from a time on, and the state behind them. -/
def drawG (m : Nat) (bs : Nat → Int) : Nat → Int → Nat × Int → List Int × (Nat × Int)
  | 0, _, st => ([], st)
  | k + 1, t, st =>
    let r := drawG m bs k (t + 1 + nextV 20 m bs st + 1 + nextV 20 m bs (nextS 20 m st)) (nextS 20 m (nextS 20 m st))
    (t :: (t + 1 + nextV 20 m bs st) :: r.1, r.2)
/-- The list, mended rarely. -/
def fixL (m : Nat) (bs : Nat → Int) (n : Nat) (zs : List Int) (st : Nat × Int) : List Int × (Nat × Int) :=
  if n = 0 then (zs, st) else
  let i := (nextV n m bs st).toNat
  let s1 := nextS n m st
  let d := nextV 24 m bs s1
  let s2 := nextS 24 m s1
  if d = 0 then (zs.set (i * 2 + 1) (zs.getD (i * 2) 0), s2)
  else if d = 1 then (zs.set (i * 2) (-1), s2)
  else if d = 2 then (zs.set (i * 2 + 1) (1000000000 + nextV 2 m bs s2), nextS 2 m s2)
  else if d = 3 then (zs ++ [zs.getD ((n - 1) * 2 + 1) 0, zs.getD ((n - 1) * 2 + 1) 0 + 5], s2)
  else (zs, s2)
/-- What l20Draw draws. -/
def drawL (m : Nat) (bs : Nat → Int) (st : Nat × Int) : List Int × (Nat × Int) :=
  let s1 := nextS 10 m st
  let p := drawG m bs (nextV 5 m bs s1).toNat (nextV 10 m bs st) (nextS 5 m s1)
  fixL m bs (p.1.length / 2) p.1 p.2
theorem drawG_len (m : Nat) (bs : Nat → Int) : ∀ k t st, (drawG m bs k t st).1.length = k * 2 := by
  intro k
  induction k with
  | zero => intro t st; rfl
  | succ k ih => intro t st; simp [drawG, ih]; omega
theorem fixL_len (m : Nat) (bs : Nat → Int) (n : Nat) (zs : List Int) (st : Nat × Int) : (fixL m bs n zs st).1.length ≤ zs.length + 2 := by
  unfold fixL
  split
  · simp
  · simp only
    repeat' split
    all_goals simp
theorem drawL_len (m : Nat) (bs : Nat → Int) (st : Nat × Int) : (drawL m bs st).1.length / 2 ≤ 5 := by
  have hb := nextV_bd 5 m bs (nextS 10 m st) (by omega)
  have hl := drawG_len m bs (nextV 5 m bs (nextS 10 m st)).toNat (nextV 10 m bs st) (nextS 5 m (nextS 10 m st))
  have h1 := fixL_len m bs ((drawG m bs (nextV 5 m bs (nextS 10 m st)).toNat (nextV 10 m bs st) (nextS 5 m (nextS 10 m st))).1.length / 2) (drawG m bs (nextV 5 m bs (nextS 10 m st)).toNat (nextV 10 m bs st) (nextS 5 m (nextS 10 m st))).1 (drawG m bs (nextV 5 m bs (nextS 10 m st)).toNat (nextV 10 m bs st) (nextS 5 m (nextS 10 m st))).2
  have h2 : (drawL m bs st).1.length ≤ (drawG m bs (nextV 5 m bs (nextS 10 m st)).toNat (nextV 10 m bs st) (nextS 5 m (nextS 10 m st))).1.length + 2 := h1
  omega
def DrewE (w w' : World) (B g m : Nat) (bs : Nat → Int) (P : List Int × (Nat × Int)) (e : Ending) : Prop :=
  ∃ (v : Value) (n : Nat), e = .returned v ∧ P.1.length = n * 2 ∧ n ≤ 5 ∧ w'.ownsRow w.heap.size 51 2 v n (P.1.map (Value.int .i64)) ∧ Src w' B g m bs P.2 ∧ w.grownBy w' (some g)

set_option maxRecDepth 100000 in
set_option maxHeartbeats 8000000 in
theorem l20Draw_any (w : World) (B g m : Nat) (bs : Nat → Int) (st : Nat × Int) (h : Src w B g m bs st) :
    Calls Try.prog 51 #[.pointer (some ⟨g, 0, none⟩)] w fun e w' => DrewE w w' B g m bs (drawL m bs st) e := by
  have hgl := h.lt
  obtain ⟨i0, hi, hz0', hz1', hz2'⟩ := info_parts infoWindow
  replace hi := Lib.hid hi
  replace hz0' := Lib.hid hz0'
  replace hz1' := Lib.hid hz1'
  replace hz2' := Lib.hid hz2'
  obtain ⟨r1, hr1⟩ : ∃ r, nextV 10 m bs st = r := ⟨_, rfl⟩
  obtain ⟨s1, hs1⟩ : ∃ s, nextS 10 m st = s := ⟨_, rfl⟩
  obtain ⟨r2, hr2⟩ : ∃ r, nextV 5 m bs s1 = r := ⟨_, rfl⟩
  obtain ⟨s2, hs2⟩ : ∃ s, nextS 5 m s1 = s := ⟨_, rfl⟩
  have hP : drawL m bs st = fixL m bs ((drawG m bs r2.toNat r1 s2).1.length / 2) (drawG m bs r2.toNat r1 s2).1 (drawG m bs r2.toNat r1 s2).2 := by
    unfold drawL
    simp only [hr1, hs1, hr2, hs2]
  replace hP := Lib.hid hP
  generalize drawL m bs st = P at hP ⊢
  go_enter Try.func51, Try.ntmps51
  go_wp2_with fail
  refine (next_val _ _ _ _ _ _ _ _ _ (h.new _) hr1 hs1 (by omega) (by omega)).mono ?_
  rintro e w1 ⟨rfl, r10, r11, hS1, hg1⟩
  go_wp2_with fail
  refine (next_val _ _ _ _ _ _ _ _ _ hS1 hr2 hs2 (by omega) (by omega)).mono ?_
  rintro e w2 ⟨rfl, r20, r21, hS2, hg2⟩
  have hgw0 := only_trans (only_trans (only_new (only_refl w (some g)) (.cells #[] 51)) hg1) hg2
  have hown0 : w2.ownsRow w.heap.size 51 2 (.slice (some ⟨w.heap.size, 0, none⟩) 0 0) 0 (([] : List Int).map (Value.int .i64)) := own_empty (((Whole.new w 51 #[]).grown hg1 (fun e => by injection e with e; omega)).grown hg2 (fun e => by injection e with e; omega)) (Nat.le_refl _)
  clear hS1 hg1 hg2 hr1 hs1 hr2 hs2
  obtain ⟨k2, rfl⟩ : ∃ k : Nat, r2 = k := ⟨r2.toNat, by omega⟩
  simp only [Int.toNat_natCast] at hP
  generalize hT : drawG m bs k2 r1 s2 = T at hP
  replace hT := Lib.hid hT
  go_wp2_with fail
  go_loopw [3, 4, 5] (fun v3 v4 v5 wr => ∃ (n q : Nat) (zs : List Int) (t : Int) (s : Nat × Int), v4 = .int .i64 t ∧ v5 = .int .i64 q ∧ n + q ≤ 4 ∧ 0 ≤ t ∧ t ≤ 10 + 50 * n ∧ zs.length = n * 2 ∧ (∀ x ∈ zs, 0 ≤ x ∧ x ≤ 1000) ∧ Hid ((zs ++ (drawG m bs q t s).1, (drawG m bs q t s).2) = T) ∧
    wr.ownsRow w.heap.size 51 2 v3 n (zs.map (Value.int .i64)) ∧ Src wr B g m bs s ∧ w.grownBy wr (some g)) (fun v3 v4 v5 _ => (intOf v5).toNat)
  case atStart => exact ⟨0, k2, [], r1, s2, rfl, rfl, by omega, r10, by omega, rfl, by simp, Lib.hid (by rw [List.nil_append]; exact hT.out), hown0, hS2, hgw0⟩
  case round =>
    obtain ⟨n, q, zs, t, s, rfl, rfl, hnq, t0, t1, hzl, hzb, hTz, hown, hS, hgw⟩ := hrel
    clear hown0 hS2 hgw0 hT
    have hzw := hgw.size
    rcases Nat.eq_zero_or_pos q with hq | hq
    · subst hq
      have hP2 : P = fixL m bs n zs s := by
        have h1 := hTz.out
        simp only [drawG, List.append_nil] at h1
        rw [hP.out, ← h1]
        simp [hzl]
      clear hP hTz
      rcases Nat.eq_zero_or_pos n with hn0 | hn0
      · subst hn0
        obtain ⟨A', c', rfl, hnc, hcm⟩ := own_form hown
        have hP3 : P = (zs, s) := by rw [hP2]; simp [fixL]
        subst hP3
        clear hP2
        go_wp2
        go_ret
        exact ⟨_, 0, rfl, hzl, by omega, hown, hS, hgw⟩
      obtain ⟨_, hzc⟩ := cells_of hown
      obtain ⟨g', cap, cur, rfl, hg'b, hWh, hncap, hcapm, hcs, hcur⟩ := own_open hown hn0
      have hcells : ∀ j, j < n * 2 → cur[j]? = some (.int .i64 (zs.getD j 0)) := fun j hj => hcur j _ (hzc j hj)
      have hgg : g' < wr.heap.size := hWh.lt
      replace hcells := Lib.hid hcells
      replace hcs := Lib.hid hcs
      obtain ⟨kk, hkk⟩ : ∃ r, nextV n m bs s = r := ⟨_, rfl⟩
      obtain ⟨s3, hs3⟩ : ∃ x, nextS n m s = x := ⟨_, rfl⟩
      obtain ⟨d, hd⟩ : ∃ r, nextV 24 m bs s3 = r := ⟨_, rfl⟩
      obtain ⟨s4, hs4⟩ : ∃ x, nextS 24 m s3 = x := ⟨_, rfl⟩
      have hP3 : P = (if d = 0 then (zs.set (kk.toNat * 2 + 1) (zs.getD (kk.toNat * 2) 0), s4) else if d = 1 then (zs.set (kk.toNat * 2) (-1), s4) else if d = 2 then (zs.set (kk.toNat * 2 + 1) (1000000000 + nextV 2 m bs s4), nextS 2 m s4) else if d = 3 then (zs ++ [zs.getD ((n - 1) * 2 + 1) 0, zs.getD ((n - 1) * 2 + 1) 0 + 5], s4) else (zs, s4)) := by
        rw [hP2]
        unfold fixL
        rw [if_neg (by omega)]
        simp only [hkk, hs3, hd, hs4]
      clear hP2
      replace hP3 := Lib.hid hP3
      go_wp2_with fail
      refine (next_val _ _ _ _ _ _ _ _ _ hS hkk hs3 (by omega) (by omega)).mono ?_
      rintro e w3 ⟨rfl, k0, k1, hS3, hg3⟩
      have hW3 := hWh.grown hg3 (fun e => by injection e with e; omega)
      have hown3 := own_only hown hg3 (fun k e => by injection e with e; omega)
      go_wp2_with fail
      refine (next_val _ _ _ _ _ _ _ _ _ hS3 hd hs4 (by omega) (by omega)).mono ?_
      rintro e w4 ⟨rfl, d0, d1, hS4, hg4⟩
      have hW4 := hW3.grown hg4 (fun e => by injection e with e; omega)
      have hown4 := own_only hown3 hg4 (fun k e => by injection e with e; omega)
      have hgw4 := only_trans (only_trans hgw hg3) hg4
      have hz4 := hgw4.size
      have hgl4 := hW4.lt
      clear hS hS3 hg3 hg4 hW3 hWh hgw hown hown3 hcur hzc hkk hs3 hd hs4
      obtain ⟨k, rfl⟩ : ∃ k : Nat, kk = k := ⟨kk.toNat, by omega⟩
      simp only [Int.toNat_natCast] at hP3
      have hkn : k < n := by omega
      by_cases h0 : d = 0
      · subst h0
        have hP4 := hP3.out
        rw [if_pos rfl] at hP4
        have y0 := hW4.cell (k * 2)
        rw [hcells.out _ (by omega)] at y0
        generalize zs.getD (k * 2) 0 = x0 at hP4 y0
        subst hP4
        clear hP3
        have y1 := hW4.some_ (k * 2 + 1) (by have := hcs.out; omega)
        have f1 := hW4.frz (k * 2 + 1)
        go_wp2
        go_ret
        exact ⟨_, n, rfl, by simpa using hzl, by omega, own_putI hown4 _ _, hS4.keepOnly (row := some g') (only_put (only_refl _ _) _ _) (fun k e => by injection e with e; omega), only_put_new hgw4 (by omega) _ _⟩
      by_cases h1 : d = 1
      · subst h1
        have hP4 := hP3.out
        rw [if_neg (by omega), if_pos rfl] at hP4
        subst hP4
        clear hP3
        have y1 := hW4.some_ (k * 2) (by have := hcs.out; omega)
        have f1 := hW4.frz (k * 2)
        go_wp2
        go_ret
        exact ⟨_, n, rfl, by simpa using hzl, by omega, own_putI hown4 _ _, hS4.keepOnly (row := some g') (only_put (only_refl _ _) _ _) (fun k e => by injection e with e; omega), only_put_new hgw4 (by omega) _ _⟩
      by_cases h2 : d = 2
      · subst h2
        have hP4 := hP3.out
        rw [if_neg (by omega), if_neg (by omega), if_pos rfl] at hP4
        clear hP3
        obtain ⟨r5, hr5⟩ : ∃ r, nextV 2 m bs s4 = r := ⟨_, rfl⟩
        obtain ⟨s5, hs5⟩ : ∃ x, nextS 2 m s4 = x := ⟨_, rfl⟩
        rw [hr5, hs5] at hP4
        subst hP4
        go_wp2_with fail
        refine (next_val _ _ _ _ _ _ _ _ _ hS4 hr5 hs5 (by omega) (by omega)).mono ?_
        rintro e w5 ⟨rfl, q0, q1, hS5, hg5⟩
        have hW5 := hW4.grown hg5 (fun e => by injection e with e; omega)
        have hown5 := own_only hown4 hg5 (fun k e => by injection e with e; omega)
        have hgw5 := only_trans hgw4 hg5
        have y1 := hW5.some_ (k * 2 + 1) (by have := hcs.out; omega)
        have f1 := hW5.frz (k * 2 + 1)
        clear hW4 hown4 hgw4 hg5 hS4
        go_wp2
        go_ret
        exact ⟨_, n, rfl, by simpa using hzl, by omega, own_putI hown5 _ _, hS5.keepOnly (row := some g') (only_put (only_refl _ _) _ _) (fun k e => by injection e with e; omega), only_put_new hgw5 (by omega) _ _⟩
      by_cases h3 : d = 3
      · subst h3
        have hP4 := hP3.out
        rw [if_neg (by omega), if_neg (by omega), if_neg (by omega), if_pos rfl] at hP4
        clear hP3
        obtain ⟨q, rfl⟩ : ∃ q, n = q + 1 := ⟨n - 1, by omega⟩
        simp only [Nat.add_sub_cancel] at hP4
        have hwr : IntKind.i64.wrap (q : Int) = q := IntWalk.i64_in _ (by omega)
        have hq1 : (q : Int) < (q : Int) + 1 := by omega
        have y1 := hW4.cell (q * 2 + 1)
        rw [hcells.out _ (by omega)] at y1
        have hx1 := getD_all (P := fun y => 0 ≤ y ∧ y ≤ 1000) hzb (i := q * 2 + 1) (by omega)
        generalize zs.getD (q * 2 + 1) 0 = x1 at hP4 y1 hx1
        have hw5 : IntKind.i64.wrap (x1 + 5) = x1 + 5 := IntWalk.i64_in _ (by omega)
        subst hP4
        have hown4d : w4.drew.ownsRow w.heap.size 51 2 (.slice (some ⟨g', 0, none⟩) (q + 1) cap) (q + 1) (zs.map (Value.int .i64)) := hown4
        replace hown4 := Lib.hid hown4
        replace hown4d := Lib.hid hown4d
        go_wp2_with fail
        go_region_law (refine step_append_own rfl (.tmp 71) (.tmp 88) 25 rfl w.heap.size 51 i0 _ 2 16 Try.underlying25 hi.out hz0'.out hz1'.out hz2'.out rfl (by decide) _ (q + 1) _ (by rfl) (by first | exact hown4.out.alloc _ | exact (hown4.out.alloc _).drew | exact hown4d.out.alloc _) ⟨w4.heap.size, 0, none⟩ 1 1 [.int .i64 x1, .int .i64 (x1 + 5)] (by rfl) rfl (by first | exact news_whole (Whole.new w4 51 #[.int .i64 x1, .int .i64 (x1 + 5)]).drew | exact news_whole (Whole.new w4 51 #[.int .i64 x1, .int .i64 (x1 + 5)]) | exact news_whole (Whole.new w4.drew 51 #[.int .i64 x1, .int .i64 (x1 + 5)])) (by simp [Value.oneCell']) (by simp only [maxLen]; omega) (by omega) (by simp; omega) ?_; intro v' w5 hown5 hgrow)
        all_goals have hgrow2 : (w4.alloc (.cells #[.int .i64 x1, .int .i64 (x1 + 5)] 51)).grownBy w5 (some g') := (by first | exact hgrow | exact ⟨hgrow.os, hgrow.tape, hgrow.output, hgrow.size, hgrow.block⟩)
        all_goals have hown5' : w5.ownsRow w.heap.size 51 2 v' (q + 1 + 1) ((zs ++ [x1, x1 + 5]).map (Value.int .i64)) := (by simpa using hown5)
        all_goals have hgw5 : w.grownBy w5 (some g) := only_own (v := .slice (some ⟨g', 0, none⟩) (q + 1) cap) (only_new hgw4 _) hgrow2 (fun k hk => (hown4.out.lt k hk).1) (Nat.le_refl _)
        all_goals have hS5 : Src w5 B g m bs s4 := (hS4.new _).keepOnly hgrow2 (fun k e => by injection e with e; omega)
        all_goals clear hown5 hgrow hgrow2 hown4 hown4d hS4 hgw4
        all_goals go_wp2
        all_goals go_ret
        all_goals exact ⟨_, q + 1 + 1, rfl, by simp; omega, by omega, hown5', hS5, hgw5⟩
      · have hP4 := hP3.out
        rw [if_neg h0, if_neg h1, if_neg h2, if_neg h3] at hP4
        subst hP4
        clear hP3
        have n0 : (d == 0) = false := by rw [beq_eq_false_iff_ne]; exact h0
        have n1 : (d == 1) = false := by rw [beq_eq_false_iff_ne]; exact h1
        have n2 : (d == 2) = false := by rw [beq_eq_false_iff_ne]; exact h2
        have n3 : (d == 3) = false := by rw [beq_eq_false_iff_ne]; exact h3
        go_wp2
        go_ret
        exact ⟨_, n, rfl, hzl, by omega, hown4, hS4, hgw4⟩
    · obtain ⟨q, rfl⟩ : ∃ k, q = k + 1 := ⟨q - 1, by omega⟩
      obtain ⟨a1, ha1⟩ : ∃ r, nextV 20 m bs s = r := ⟨_, rfl⟩
      obtain ⟨s3, hs3⟩ : ∃ x, nextS 20 m s = x := ⟨_, rfl⟩
      obtain ⟨a2, ha2⟩ : ∃ r, nextV 20 m bs s3 = r := ⟨_, rfl⟩
      obtain ⟨s4, hs4⟩ : ∃ x, nextS 20 m s3 = x := ⟨_, rfl⟩
      have hTz2 : ((zs ++ [t, t + 1 + a1]) ++ (drawG m bs q (t + 1 + a1 + 1 + a2) s4).1, (drawG m bs q (t + 1 + a1 + 1 + a2) s4).2) = T := by
        have h1 := hTz.out
        simp only [drawG, ha1, hs3, ha2, hs4] at h1
        rw [← h1]
        simp
      replace hTz2 := Lib.hid hTz2
      clear hTz hP
      go_wp2_with fail
      refine (next_val _ _ _ _ _ _ _ _ _ hS ha1 hs3 (by omega) (by omega)).mono ?_
      rintro e w3 ⟨rfl, a10, a11, hS3, hg3⟩
      have hown3 := own_only hown hg3 (fun k e => by injection e with e; omega)
      have hgw3 := only_trans hgw hg3
      have hz3 := hgw3.size
      have hnew := Whole.new w3 51 #[.int .i64 t, .int .i64 (t + 1 + a1)]
      obtain ⟨A', c', rfl, hnc, hcm⟩ := own_form hown3
      clear hown hgw hg3 hS
      go_wp2_with (at_builtin; refine wpList_append_own_at _ rfl _ _ 25 rfl w.heap.size 51 i0 _ 2 16 Try.underlying25 hi.out hz0'.out hz1'.out hz2'.out rfl (by decide) _ _ _ rfl (hown3.alloc _) ⟨w3.heap.size, 0, none⟩ 1 1 [.int .i64 t, .int .i64 (t + 1 + a1)] rfl rfl ?c1 ?c2 ?c3 ?c4 ?c5 ?_)
      case c1 =>
        intro j u hu
        rw [add_zero_off, hnew.cell]
        simpa using hu
      case c2 => simp [Value.oneCell']
      case c3 => simp only [maxLen]; omega
      case c4 => omega
      case c5 => simp; omega
      intro v' w4 hown' hgrow _ hat
      have hgw4 : w.grownBy w4 (some g) := only_own (only_new hgw3 _) hgrow (fun k hk => (hown3.lt k hk).1) (Nat.le_refl _)
      have hS4 : Src w4 B g m bs s3 := (hS3.new _).keepOnly hgrow (fun k hk => by have := (hown3.lt k hk).1; omega)
      have hown4 : w4.ownsRow w.heap.size 51 2 v' (n + 1) ((zs ++ [t, t + 1 + a1]).map (Value.int .i64)) := by simpa using hown'
      clear hown' hgrow hat hown3 hgw3 hS3
      go_wp2_with fail
      refine (next_val _ _ _ _ _ _ _ _ _ hS4 ha2 hs4 (by omega) (by omega)).mono ?_
      rintro e w5 ⟨rfl, a20, a21, hS5, hg5⟩
      have hown5 := own_only hown4 hg5 (fun k e => by injection e with e; omega)
      have hgw5 := only_trans hgw4 hg5
      have hzb5 : ∀ x ∈ zs ++ [t, t + 1 + a1], 0 ≤ x ∧ x ≤ 1000 := by
        intro x hx
        rcases List.mem_append.1 hx with hx | hx
        · exact hzb x hx
        · simp at hx; rcases hx with rfl | rfl <;> omega
      clear hown4 hgw4 hg5 hS4
      go_wp2
      go_roundw
      case rel => exact ⟨n + 1, q, zs ++ [t, t + 1 + a1], t + 1 + a1 + 1 + a2, s4, rfl, by go_num, by omega, by omega, by omega, by simp; omega, hzb5, hTz2, hown5, hS5, hgw5⟩
      case measure => simp [intOf]
end Go.Proofs.Ytghpaegabppeaaa
