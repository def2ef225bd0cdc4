/- The draw of a log: its range. -/
import Derived.Test.YtfckoeoohlgmiaaSig12
import Derived.Test.YtfckoeoohlgmiaaPick
import Derived.Maps.AppendAt
import Derived.Deep.CutRange
import Derived.Deep.RegionWith
import Derived.Deep.CutBlock
set_option linter.unusedSimpArgs false
set_option linter.unusedVariables false
namespace Go.Proofs.Ytfckoeoohlgmiaa
open Go.RowKit

theorem refV_le {st wn mk k t T : Int} (T0 : 0 ≤ T) (t0 : 0 ≤ t) (t1 : t ≤ T) (s0 : 0 ≤ wn) (s1 : wn ≤ T) : 0 ≤ (refV st wn mk k t).1.2.1 ∧ (refV st wn mk k t).1.2.1 ≤ T ∧ 0 ≤ (refV st wn mk k t).1.2.2 ∧ (refV st wn mk k t).1.2.2 ≤ T := by
  unfold refV; repeat (split; (refine ⟨?_, ?_, ?_, ?_⟩ <;> first | assumption | (simp; done)))
  refine ⟨?_, ?_, ?_, ?_⟩ <;> first | assumption | (simp; done)
theorem refV_st {st wn mk k t : Int} : 0 ≤ (refV st wn mk k t).1.1 ∧ (refV st wn mk k t).1.1 ≤ 8 := by
  unfold refV; repeat (split; (constructor <;> (simp; done)))
  constructor <;> (simp; done)
/-- What is known of memory in the round: the state, the source, the list drawn so far. -/
structure DrawW (w wr : World) (B g m : Nat) (bs : Nat → Int) (n : Nat) (vo : Value) (zs : List Int) (st wn mk T : Int) : Prop where
  own : wr.ownsRow w.heap.size 43 2 vo n (zs.map (Value.int .i64))
  apart : vo.ownBlock ≠ some (w.heap.size + 1)
  state : Whole wr (w.heap.size + 1) 56 #[.int .i64 st, .int .i64 wn, .int .i64 mk]
  src : SrcX wr B g m bs
  below : w.grownBy wr (some g)
  b0 : 0 ≤ st ∧ st ≤ 8
  b1 : 0 ≤ wn ∧ wn ≤ T
  b2 : 0 ≤ mk ∧ mk ≤ T
  zs : ∀ x ∈ zs, 0 ≤ x ∧ x ≤ T
theorem DrawW.next {w wr w' : World} {B g m : Nat} {bs : Nat → Int} {n : Nat} {vo : Value} {zs : List Int} {st wn mk T : Int} (h : DrawW w wr B g m bs n vo zs st wn mk T) (hg : g < w.heap.size) (hs : SrcX w' B g m bs) (hb : wr.grownBy w' (some g)) : DrawW w w' B g m bs n vo zs st wn mk T :=
  ⟨own_only h.own hb (fun k e => by injection e with e; omega), h.apart, h.state.grown hb (fun e => by injection e with e; omega), hs, only_trans h.below hb, h.b0, h.b1, h.b2, h.zs⟩
theorem DrawW.more {w wr : World} {B g m : Nat} {bs : Nat → Int} {n : Nat} {vo : Value} {zs : List Int} {st wn mk T T' : Int} (h : DrawW w wr B g m bs n vo zs st wn mk T) (hT : T ≤ T') : DrawW w wr B g m bs n vo zs st wn mk T' :=
  ⟨h.own, h.apart, h.state, h.src, h.below, h.b0, ⟨h.b1.1, by have := h.b1.2; omega⟩, ⟨h.b2.1, by have := h.b2.2; omega⟩, fun x hx => ⟨(h.zs x hx).1, by have := (h.zs x hx).2; omega⟩⟩
theorem only_far {a w w' : World} {row : Option Nat} {k : Nat} (h : a.grownBy w row) (hb : w.grownBy w' (some k)) (hk : a.heap.size ≤ k) : a.grownBy w' row :=
  ⟨hb.os.trans h.os, hb.tape.trans h.tape, hb.output.trans h.output, Nat.le_trans h.size hb.size, fun i hi hne => (hb.block i (Nat.lt_of_lt_of_le hi h.size) (fun e => by injection e with e; omega)).trans (h.block i hi hne)⟩
theorem DrawW.set {w wr w' : World} {B g m : Nat} {bs : Nat → Int} {n : Nat} {vo : Value} {zs : List Int} {st wn mk T s1 s2 s3 : Int} (h : DrawW w wr B g m bs n vo zs st wn mk T) (hgl : g < w.heap.size) (hs : Whole w' (w.heap.size + 1) 56 #[.int .i64 s1, .int .i64 s2, .int .i64 s3]) (hb : wr.grownBy w' (some (w.heap.size + 1))) (b0 : 0 ≤ s1 ∧ s1 ≤ 8) (b1 : 0 ≤ s2 ∧ s2 ≤ T) (b2 : 0 ≤ s3 ∧ s3 ≤ T) : DrawW w w' B g m bs n vo zs s1 s2 s3 T := by
  refine ⟨h.own.kept hb ?_, h.apart, hs, h.src.only hb (fun k e => by injection e with e; omega), only_far h.below hb (by omega), b0, b1, b2, h.zs⟩
  cases hv : vo.ownBlock with
  | none => exact .inl rfl
  | some k => right; intro e; exact h.apart (hv.trans e)
theorem DrawW.app {w w2 w3 : World} {B g m : Nat} {bs : Nat → Int} {n : Nat} {vo v' : Value} {zs : List Int} {st wn mk T k t : Int} (h : DrawW w w2 B g m bs n vo zs st wn mk T) (hgl : g < w.heap.size) (hown : w3.ownsRow w.heap.size 43 2 v' (n + 1) (zs.map (Value.int .i64) ++ [.int .i64 k, .int .i64 t])) (hg : w2.grownBy w3 vo.ownBlock) (ha : v'.ownBlock = vo.ownBlock ∨ v'.ownBlock = some w2.heap.size) (k0 : 0 ≤ k ∧ k ≤ T) (t0 : 0 ≤ t ∧ t ≤ T) : DrawW w w3 B g m bs (n + 1) v' (zs ++ [k, t]) st wn mk T := by
  have hl := h.state.lt
  refine ⟨by simpa using hown, ?_, h.state.grown hg h.apart, h.src.only hg (fun j e => by have := (h.own.lt j e).1; omega), only_own h.below hg (fun j e => (h.own.lt j e).1) (Nat.le_refl _), h.b0, h.b1, h.b2, ?_⟩
  · rcases ha with e | e
    · rw [e]; exact h.apart
    · rw [e]; intro e'; injection e' with e'; omega
  · intro x hx
    rcases List.mem_append.1 hx with hx | hx
    · exact h.zs x hx
    · simp at hx; rcases hx with rfl | rfl <;> assumption
theorem DrawW.new {w wr : World} {B g m : Nat} {bs : Nat → Int} {n : Nat} {vo : Value} {zs : List Int} {st wn mk T : Int} (h : DrawW w wr B g m bs n vo zs st wn mk T) (o : Obj) : DrawW w (wr.alloc o) B g m bs n vo zs st wn mk T :=
  ⟨h.own.alloc _, h.apart, h.state.alloc _, h.src.new _, only_new h.below _, h.b0, h.b1, h.b2, h.zs⟩

/-- A list of signals, drawn. -/
def DrewL (w w' : World) (B g m : Nat) (bs : Nat → Int) (N : Nat) (M : Int) (e : Ending) : Prop :=
  ∃ (v : Value) (n : Nat) (zs : List Int), e = .returned v ∧ n ≤ N ∧ w'.ownsRow w.heap.size 43 2 v n (zs.map (Value.int .i64)) ∧ SrcX w' B g m bs ∧ w.grownBy w' (some g) ∧ ∀ x ∈ zs, -1 ≤ x ∧ x ≤ M
set_option maxRecDepth 100000 in
set_option maxHeartbeats 8000000 in
theorem l13Draw_any (w : World) (B g m : Nat) (bs : Nat → Int) (h : SrcX w B g m bs) :
    Calls Try.prog 52 #[.pointer (some ⟨g, 0, none⟩)] w fun e w' => DrewL w w' B g m bs 11 10000000 e := by
  have hgl := h.lt
  obtain ⟨i0, hi, hz0', hz1', hz2'⟩ := info_parts infoSignal
  replace hi := Lib.hid hi
  replace hz0' := Lib.hid hz0'
  replace hz1' := Lib.hid hz1'
  replace hz2' := Lib.hid hz2'
  go_enter Try.func52, Try.ntmps52
  go_wp2_with fail
  have hW0 := Whole.new w 43 #[]
  have hS0 := Whole.new (w.alloc (.cells #[] 43)) 56 #[.int .i64 0, .int .i64 0, .int .i64 0]
  simp only [World.size_alloc] at hS0
  have hD0 : DrawW w ((w.alloc (.cells #[] 43)).alloc (.cells #[.int .i64 0, .int .i64 0, .int .i64 0] 56)) B g m bs 0 (.slice (some ⟨w.heap.size, 0, none⟩) 0 0) [] 0 0 0 1000 :=
    ⟨(own_empty hW0 (Nat.le_refl _)).alloc _, by simp [Value.ownBlock], hS0, (h.new _).new _, only_new (only_new (only_refl w (some g)) _) _, by omega, by omega, by omega, by simp⟩
  refine (nextR _ _ _ _ _ _ hD0.src (by omega) (by omega)).mono ?_
  rintro e w1 ⟨t0, rfl, t00, t01, hs1, hg1⟩
  have hD1 := hD0.next hgl hs1 hg1
  go_wp2_with fail
  refine (nextR _ _ _ _ _ _ hs1 (by omega) (by omega)).mono ?_
  rintro e w2 ⟨q0, rfl, q00, q01, hs2, hg2⟩
  have hD2 := hD1.next hgl hs2 hg2
  clear hD0 hD1 hW0 hS0 hs1 hs2 hg1 hg2
  replace hD2 := Lib.hid hD2
  go_wp2_with fail
  go_loopw [3, 5, 6] (fun v3 v5 v6 wr => ∃ (n : Nat) (zs : List Int) (st wn mk tm q : Int), v5 = .int .i64 tm ∧ v6 = .int .i64 q ∧ 0 ≤ q ∧ n + q ≤ 11 ∧ q ≤ 11 ∧ 0 ≤ tm ∧ tm ≤ 1000 + 400000 * (11 - q) ∧ DrawW w wr B g m bs n v3 zs st wn mk (1000 + 400000 * (11 - q))) (fun v3 v5 v6 _ => (intOf v6).toNat)
  case atStart => exact ⟨0, [], 0, 0, 0, t0, q0, rfl, rfl, q00, by omega, by omega, t00, by omega, hD2.out.more (by omega)⟩
  case round =>
    obtain ⟨n, zs, st, wn, mk, tm, q, rfl, rfl, hq0, hnq, hq11, ht0, ht1, hD⟩ := hrel
    clear hD2
    generalize hT : 1000 + 400000 * (11 - q) = T at ht1 hD
    have hTb : 1000 ≤ T ∧ T ≤ 10000000 := by omega
    by_cases hq : 0 < q
    · have y0 := hD.state.cell 0
      simp at y0
      have hb0 := hD.b0
      replace hT := Lib.hid hT
      go_wp2_with fail
      refine (nextR _ _ _ _ _ _ hD.src (by omega) (by omega)).mono ?_
      rintro e w3 ⟨r1, rfl, r10, r11, hs3, hg3⟩
      have hD3 := hD.next hgl hs3 hg3
      clear hD hs3 hg3 y0
      have y0 := hD3.state.cell 0
      simp at y0
      have hs3 := hD3.src
      go_upto_block 2 with fail
      go_cut [7] from 17 to 117 (fun v7 wx => ∃ kd : Int, v7 = .int .i64 kd ∧ 1 ≤ kd ∧ kd ≤ 8 ∧ DrawW w wx B g m bs n u3 zs st wn mk T)
      case first =>
        obtain rfl | rfl | rfl | rfl | rfl | rfl | rfl | rfl | rfl : st = 0 ∨ st = 1 ∨ st = 2 ∨ st = 3 ∨ st = 4 ∨ st = 5 ∨ st = 6 ∨ st = 7 ∨ st = 8 := by omega
        · go_wp2_with fail
          go_meet
          exact ⟨_, rfl, by omega, by omega, hD3⟩
        · go_wp2_with fail
          go_meet
          exact ⟨_, rfl, by omega, by omega, hD3⟩
        · go_wp2_with fail
          go_meet
          exact ⟨_, rfl, by omega, by omega, hD3⟩
        · go_wp2_with fail
          go_meet
          exact ⟨_, rfl, by omega, by omega, hD3⟩
        · go_wp2_with fail
          refine (nextR _ _ _ _ _ _ (hs3.new _) (by omega) (by omega)).mono ?_
          rintro e w4 ⟨r2, rfl, r20, r21, hs4, hg4⟩
          obtain ⟨x, hx, hcell⟩ := ((Whole.new w3 2 _).grown hg4 (fun e => by injection e with e; have := hs3.lt; omega)).pick [7, 7, 8] rfl r2 r20 (by simpa using r21)
          simp at hx
          have hD4 := (hD3.new _).next hgl hs4 hg4
          go_wp2_with fail
          go_meet
          exact ⟨_, rfl, by omega, by omega, hD4⟩
        · go_wp2_with fail
          go_meet
          exact ⟨_, rfl, by omega, by omega, hD3⟩
        · go_wp2_with fail
          go_meet
          exact ⟨_, rfl, by omega, by omega, hD3⟩
        · go_wp2_with fail
          go_meet
          exact ⟨_, rfl, by omega, by omega, hD3⟩
        · go_wp2_with fail
          go_meet
          exact ⟨_, rfl, by omega, by omega, hD3⟩
      case rest =>
      obtain ⟨kd, rfl, kd0, kd1, hD4⟩ := hcut
      clear hD3 hs3 y0
      rename World => w4
      go_wp2_with fail
      refine (nextR _ _ _ _ _ _ hD4.src (by omega) (by omega)).mono ?_
      rintro e w5 ⟨r3, rfl, r30, r31, hs5, hg5⟩
      have hD5 := hD4.next hgl hs5 hg5
      clear hD4 hs5 hg5
      have hs5 := hD5.src
      go_upto_if 47 with fail
      go_cut [7] from 17 to 117 (fun v7 wx => ∃ kd : Int, v7 = .int .i64 kd ∧ 1 ≤ kd ∧ kd ≤ 8 ∧ DrawW w wx B g m bs n u3 zs st wn mk T)
      case first =>
        by_cases h0 : r3 = 0
        · subst h0
          go_wp2_with fail
          refine (nextR _ _ _ _ _ _ hs5 (by omega) (by omega)).mono ?_
          rintro e w6 ⟨r4, rfl, r40, r41, hs6, hg6⟩
          have hD6 := hD5.next hgl hs6 hg6
          go_wp2_with fail
          refine (nextR _ _ _ _ _ _ (hs6.new _) (by omega) (by omega)).mono ?_
          rintro e w7 ⟨r5, rfl, r50, r51, hs7, hg7⟩
          obtain ⟨x, hx, hcell⟩ := ((Whole.new w6 2 _).grown hg7 (fun e => by injection e with e; have := hs6.lt; omega)).pick [5, 5, 8, 1 + r4] rfl r5 r50 (by simpa using r51)
          simp at hx
          have hD7 := (hD6.new _).next hgl hs7 hg7
          go_wp2_with fail
          go_meet
          exact ⟨_, rfl, by omega, by omega, hD7⟩
        · have h0' : (r3 == 0) = false := by simpa using h0
          go_wp2_with fail
          go_meet
          exact ⟨_, rfl, by omega, by omega, hD5⟩
      case rest =>
      clear kd0 kd1
      obtain ⟨kd', rfl, kd0, kd1, hD6⟩ := hcut
      clear hD5 hs5
      rename World => w6
      have y0 := hD6.state.cell 0
      have y1 := hD6.state.cell 1
      have y2 := hD6.state.cell 2
      simp at y0 y1 y2
      have hs6 := hD6.src
      have hb1 := hD6.b1
      have hb2 := hD6.b2
      go_upto_block 3 with fail
      go_cut [5] from 17 to 117 (fun v5 wx => ∃ t' : Int, v5 = .int .i64 t' ∧ 0 ≤ t' ∧ t' ≤ T + 300000 ∧ DrawW w wx B g m bs n u3 zs st wn mk T)
      case first =>
        obtain rfl | rfl | rfl | rfl | hkd : kd' = 1 ∨ kd' = 2 ∨ kd' = 3 ∨ kd' = 4 ∨ 5 ≤ kd' := by omega
        · cases h0 : (st != 0) with
          | false =>
            obtain rfl : st = 0 := by simpa using h0
            clear h0
            go_wp2_with fail
            go_meet
            exact ⟨_, rfl, by omega, by omega, hD6⟩
          | true =>
            go_wp2_with fail
            go_meet
            exact ⟨_, rfl, by omega, by omega, hD6⟩
        · go_wp2_with fail
          go_meet
          exact ⟨_, rfl, by omega, by omega, hD6⟩
        · go_wp2_with fail
          go_meet
          exact ⟨_, rfl, by omega, by omega, hD6⟩
        · go_wp2_with fail
          go_meet
          exact ⟨_, rfl, by omega, by omega, hD6⟩
        · have k1 : (kd' == 1) = false := by rw [beq_eq_false_iff_ne]; omega
          have k2 : (kd' == 2) = false := by rw [beq_eq_false_iff_ne]; omega
          have k3 : (kd' == 3) = false := by rw [beq_eq_false_iff_ne]; omega
          have k4 : (kd' == 4) = false := by rw [beq_eq_false_iff_ne]; omega
          go_wp2_with fail
          refine (nextR _ _ _ _ _ _ hs6 (by omega) (by omega)).mono ?_
          rintro e w7 ⟨r5, rfl, r50, r51, hs7, hg7⟩
          have hD7 := hD6.next hgl hs7 hg7
          go_wp2_with fail
          go_meet
          exact ⟨_, rfl, by omega, by omega, hD7⟩
      case rest =>
      obtain ⟨t', rfl, t'0, t'1, hD7⟩ := hcut
      clear hD6 hs6 y0 y1 y2 hb1 hb2
      rename World => w7
      obtain ⟨A', c', rfl, hnc, hcm⟩ := own_form hD7.own
      go_upto_if 86 with fail
      go_cut [5] from 17 to 117 (fun v5 wx => ∃ t' : Int, v5 = .int .i64 t' ∧ 0 ≤ t' ∧ t' ≤ T + 300000 ∧ DrawW w wx B g m bs n (.slice A' n c') zs st wn mk T)
      case first =>
        rcases Nat.eq_zero_or_pos n with hn0 | hn0
        · subst hn0
          go_wp2_with fail
          go_meet
          exact ⟨_, rfl, by omega, by omega, hD7⟩
        · obtain ⟨k, rfl⟩ : ∃ k, n = k + 1 := ⟨n - 1, by omega⟩
          obtain ⟨hzl, hzc⟩ := cells_of hD7.own
          obtain ⟨g', cap, cur, hv, hg'b, hWh, hncap, hcapm, hcs, hcur⟩ := own_open hD7.own (by omega)
          injection hv with hv1 _ hv3
          subst hv1
          subst hv3
          have hlast := (hWh.cell (k * 2 + 1)).trans (hcur _ _ (hzc (k * 2 + 1) (by omega)))
          have hmem : zs.getD (k * 2 + 1) 0 ∈ zs := by
            rw [List.getD_eq_getElem?_getD, List.getElem?_eq_getElem (by omega)]
            exact List.getElem_mem _
          have hzb := hD7.zs _ hmem
          generalize zs.getD (k * 2 + 1) 0 = lt at hlast hzb
          have hwr : IntKind.i64.wrap (k : Int) = k := IntWalk.i64_in _ (by omega)
          have hgl' := hWh.lt
          clear hcs hcur hzc hmem hWh
          go_wp2_with fail
          all_goals go_meet
          all_goals exact ⟨_, rfl, by omega, by omega, hD7⟩
      case rest =>
      clear t'0 t'1
      obtain ⟨t2, rfl, t20, t21, hD8⟩ := hcut
      clear hD7
      rename World => w8
      have y0 := hD8.state.cell 0
      have y1 := hD8.state.cell 1
      have y2 := hD8.state.cell 2
      simp at y0 y1 y2
      have hs8 := hD8.src
      have hb1 := hD8.b1
      have hb2 := hD8.b2
      have hcall := fun W => step_any st wn mk kd' t2 W kd0 kd1 t20 (by omega) hb1.1 (by omega) hb2.1 (by omega)
      have hst := @refV_st st wn mk kd' t2
      have hle := @refV_le st wn mk kd' t2 (T + 300000) (by omega) t20 t21 hb1.1 (by omega)
      generalize refV st wn mk kd' t2 = V at hcall hst hle
      obtain ⟨⟨s1, s2, s3⟩, vb⟩ := V
      dsimp only at hcall hst hle
      replace hcall := Lib.hid hcall
      have hsl := hD8.state.lt
      have hsl0 : w.heap.size < w8.heap.size := by omega
      go_wp2_with fail
      refine (hcall.out _).mono ?_
      rintro e w9 ⟨rfl, hb9⟩
      have hX := Whole.new w8 43 #[.int .i64 kd', .int .i64 t2]
      have hX9 := hX.below hb9 hX.lt
      have z9 := hb9.size
      simp at z9
      have hD9 := ((hD8.more (show T ≤ T + 300000 by omega)).new (.cells #[.int .i64 kd', .int .i64 t2] 43)).next hgl ((hs8.new _).only (row := none) (only_below hb9 none) (by simp)) (only_below hb9 (some g))
      clear hD8 y0 y1 y2 hs8 hb9 hX hcall
      have hS9 := hD9.state
      have y0 := hS9.cell 0
      have y1 := hS9.cell 1
      have y2 := hS9.cell 2
      have f0 := hS9.frz 0
      have f1 := hS9.frz 1
      have f2 := hS9.frz 2
      have x0 := hX9.cell 0
      have x1 := hX9.cell 1
      simp at y0 y1 y2 x0 x1
      have hsl9 := hS9.lt
      have hsl90 : w.heap.size < w9.heap.size := by omega
      have hx9l := hX9.lt
      have hTT := hT.out
      cases vb with
      | true =>
        have hst3 : Whole (((w9.setCell ⟨w.heap.size + 1, 0, none⟩ (.int .i64 s1)).setCell ⟨w.heap.size + 1, 1, none⟩ (.int .i64 s2)).setCell ⟨w.heap.size + 1, 2, none⟩ (.int .i64 s3)) (w.heap.size + 1) 56 #[.int .i64 s1, .int .i64 s2, .int .i64 s3] := by
          simpa using (((hS9.put 0 (.int .i64 s1)).put 1 (.int .i64 s2)).put 2 (.int .i64 s3))
        have hD10 := (hD9.set hgl hst3 (only_put (only_put (only_put (only_refl _ _) 0 _) 1 _) 2 _) hst ⟨hle.1, hle.2.1⟩ ⟨hle.2.2.1, hle.2.2.2⟩).new (.cells #[.int .i64 s1, .int .i64 s2, .int .i64 s3] 56)
        have hW10 := Whole.new ((((w9.setCell ⟨w.heap.size + 1, 0, none⟩ (.int .i64 s1)).setCell ⟨w.heap.size + 1, 1, none⟩ (.int .i64 s2)).setCell ⟨w.heap.size + 1, 2, none⟩ (.int .i64 s3)).alloc (.cells #[.int .i64 s1, .int .i64 s2, .int .i64 s3] 56)) 43 #[.int .i64 kd', .int .i64 t2]
        simp only [World.size_alloc, World.size_setCell] at hW10
        clear hst3
        replace hD9 := Lib.hid hD9
        go_wp2_with (at_builtin; refine wpList_append_own_at _ rfl _ _ 26 rfl w.heap.size 43 i0 _ 2 16 Try.underlying26 hi.out hz0'.out hz1'.out hz2'.out rfl (by decide) _ _ _ rfl (hD10.own.alloc _) ⟨w9.heap.size + 1, 0, none⟩ 1 1 [.int .i64 kd', .int .i64 t2] rfl rfl ?c1 ?c2 ?c3 ?c4 ?c5 ?_)
        case c1 =>
          intro j u hu
          rw [add_zero_off, hW10.cell]
          simpa using hu
        case c2 => simp [Value.oneCell']
        case c3 => simp only [maxLen]; omega
        case c4 => omega
        case c5 => simp; omega
        intro v' w10 hown' hgrow _ hat
        have hD11 := (hD10.new _).app hgl hown' hgrow (by simpa using hat) ⟨by omega, by omega⟩ ⟨t20, t21⟩
        have hsz10 := hgrow.size
        clear hown' hgrow hat hD10
        replace hD11 := Lib.hid hD11
        go_wp2
        go_roundw
        case rel => exact ⟨n + 1, _, s1, s2, s3, t2, q - 1, rfl, by go_num, by omega, by omega, by omega, t20, by omega, hD11.out.more (by omega)⟩
        case measure => simp [intOf]; omega
      | false =>
        have hnx := hD9.new (.cells #[.int .i64 s1, .int .i64 s2, .int .i64 s3] 56)
        have hsx := hnx.src
        clear hD9
        go_wp2_with fail
        refine (nextR _ _ _ _ _ _ hsx (by omega) (by omega)).mono ?_
        rintro e w10 ⟨r6, rfl, r60, r61, hs10, hg10⟩
        have hX10 := (hX9.alloc (.cells #[.int .i64 s1, .int .i64 s2, .int .i64 s3] 56)).grown hg10 (fun e => by injection e with e; omega)
        have hD10 := hnx.next hgl hs10 hg10
        have hz10 := hg10.size
        simp at hz10
        clear hnx hsx hs10 hg10 x0 x1
        have x0 := hX10.cell 0
        have x1 := hX10.cell 1
        simp at x0 x1
        by_cases h6 : r6 = 0
        · subst h6
          have hW10 := Whole.new w10 43 #[.int .i64 kd', .int .i64 t2]
          go_wp2_with (at_builtin; refine wpList_append_own_at _ rfl _ _ 26 rfl w.heap.size 43 i0 _ 2 16 Try.underlying26 hi.out hz0'.out hz1'.out hz2'.out rfl (by decide) _ _ _ rfl (hD10.own.alloc _) ⟨w10.heap.size, 0, none⟩ 1 1 [.int .i64 kd', .int .i64 t2] rfl rfl ?c1 ?c2 ?c3 ?c4 ?c5 ?_)
          case c1 =>
            intro j u hu
            rw [add_zero_off, hW10.cell]
            simpa using hu
          case c2 => simp [Value.oneCell']
          case c3 => simp only [maxLen]; omega
          case c4 => omega
          case c5 => simp; omega
          intro v' w11 hown' hgrow _ hat
          have hD11 := (hD10.new _).app hgl hown' hgrow (by simpa using hat) ⟨by omega, by omega⟩ ⟨t20, t21⟩
          have hsz10 := hgrow.size
          clear hown' hgrow hat hD10
          replace hD11 := Lib.hid hD11
          go_wp2
          go_roundw
          case rel => exact ⟨n + 1, _, st, wn, mk, t2, q - 1, rfl, by go_num, by omega, by omega, by omega, t20, by omega, hD11.out.more (by omega)⟩
          case measure => simp [intOf]; omega
        · have h6' : (r6 == 0) = false := by simpa using h6
          replace hD10 := Lib.hid hD10
          go_wp2
          go_roundw
          case rel => exact ⟨n, _, st, wn, mk, t2, q - 1, rfl, by go_num, by omega, by omega, by omega, t20, by omega, hD10.out.more (by omega)⟩
          case measure => simp [intOf]; omega
    · obtain ⟨A', c', rfl, hnc, hcm⟩ := own_form hD.own
      go_wp2
      go_ret
      exact ⟨_, n, zs, rfl, by omega, hD.own, hD.src, hD.below, fun x hx => ⟨by have := (hD.zs x hx).1; omega, by have := (hD.zs x hx).2; omega⟩⟩

end Go.Proofs.Ytfckoeoohlgmiaa
