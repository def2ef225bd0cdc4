/- The run of whatever list, the reference's; the draw of a log and a time. -/
import Derived.Test.YtfckoeoohlgmiaaSig15
import Derived.Test.YtfckoeoohlgmiaaSig16
import Derived.Deep.CutRange
import Derived.Deep.RegionWith
import Derived.Deep.RegionLaw
set_option linter.unusedSimpArgs false
set_option linter.unusedVariables false
namespace Go.Proofs.Ytfckoeoohlgmiaa
open Go.RowKit

set_option maxHeartbeats 4000000 in
theorem l13RunW_any (A : Option Addr) (n c B : Nat) (xs : Nat → Int) (w : World) (hx : Ints w B A (n * 2) xs) (hB : B ≤ w.heap.size) (hn : n ≤ 41) (hs : ∀ j, j < n * 2 → -2000000000 ≤ xs j ∧ xs j ≤ 2000000000) :
    Calls Try.prog 36 #[.slice A n c] w fun e w' => e = .returned (.tuple #[.agg #[.int .i64 (stR xs (lead (okR xs) n)).1, .int .i64 (stR xs (lead (okR xs) n)).2.1, .int .i64 (stR xs (lead (okR xs) n)).2.2], .int .i64 (if lead (okR xs) n < n then ((lead (okR xs) n : Nat) : Int) else -1)]) ∧ Below w.heap.size w w' := by
  generalize hv : lead (okR xs) n = v
  replace hv := Lib.hid hv
  replace hx := Lib.hid hx
  replace hs := Lib.hid hs
  go_enter Try.func36, Try.ntmps36
  go_wp2
  go_loopw [5] (fun u wr => ∃ k : Nat, k ≤ n ∧ u = .int .i64 k ∧ Hid (∀ i, i < k → okR xs i = true) ∧ wr.cell? ⟨w.heap.size + 1, 0, none⟩ = some (.int .i64 (stR xs k).1) ∧ wr.cell? ⟨w.heap.size + 1, 1, none⟩ = some (.int .i64 (stR xs k).2.1) ∧ wr.cell? ⟨w.heap.size + 1, 2, none⟩ = some (.int .i64 (stR xs k).2.2) ∧ (∀ i, wr.frozen? ⟨w.heap.size + 1, i, none⟩ = false) ∧ (∀ i, i < 3 → wr.cell? ⟨w.heap.size, i, none⟩ = some (.int .i64 0)) ∧ (∀ i, wr.frozen? ⟨w.heap.size, i, none⟩ = false) ∧ w.heap.size + 2 ≤ wr.heap.size ∧ Below w.heap.size w wr) (fun u _ => (n - intOf u).toNat)
  case atStart =>
    refine ⟨0, by omega, rfl, Lib.hid (fun i hi => by omega), by simp [stR], by simp [stR], by simp [stR], by simp, ?_, by simp, by simp, ?_⟩
    · intro i hi
      obtain rfl | rfl | rfl : i = 0 ∨ i = 1 ∨ i = 2 := by omega
      · simp
      · simp
      · simp
    · exact ((Below.refl _ _).alloc (Nat.le_refl _) _).alloc (by simp) _
  case round =>
    obtain ⟨k, hk1, rfl, hok, x0, x1, x2, hfx, hr', hfr, hsz, hbel⟩ := hrel
    have hs0 : w.heap.size < wr.heap.size := by omega
    have hs1 : w.heap.size + 1 < wr.heap.size := by omega
    have f0 := hfx 0
    have f1 := hfx 1
    have f2 := hfx 2
    have q0 := hfr 0
    have q1 := hfr 1
    have q2 := hfr 2
    have r0 := hr' 0 (by omega)
    have r1 := hr' 1 (by omega)
    have r2 := hr' 2 (by omega)
    replace hfx := Lib.hid hfx
    replace hr' := Lib.hid hr'
    replace hfr := Lib.hid hfr
    by_cases h1 : k < n
    · obtain ⟨b, o, rfl, hadB, hcode⟩ := hx.out (by omega)
      have g0 : wr.cell? ⟨b, o + k * 2, none⟩ = some (.int .i64 (xs (k * 2))) := by rw [hbel.cell (by simp; omega)]; exact hcode (k * 2) (by omega)
      have g1 : wr.cell? ⟨b, o + k * 2 + 1, none⟩ = some (.int .i64 (xs (k * 2 + 1))) := by rw [hbel.cell (by simp; omega)]; exact hcode (k * 2 + 1) (by omega)
      have hbb : b < wr.heap.size := by omega
      have hin := stR_wide hs.out k (by omega)
      have hks := hs.out (k * 2 + 1) (by omega)
      clear hcode
      have hstep : stR xs (k + 1) = (refV (stR xs k).1 (stR xs k).2.1 (stR xs k).2.2 (xs (k * 2)) (xs (k * 2 + 1))).1 := rfl
      have hokk : okR xs k = (refV (stR xs k).1 (stR xs k).2.1 (stR xs k).2.2 (xs (k * 2)) (xs (k * 2 + 1))).2 := rfl
      replace hstep := Lib.hid hstep
      replace hokk := Lib.hid hokk
      generalize hS : stR xs k = S at x0 x1 x2 hin hstep hokk
      obtain ⟨s1, s2, s3⟩ := S
      have hcall := fun w0 => step_wide s1 s2 s3 (xs (k * 2)) (xs (k * 2 + 1)) w0 hks.1 hks.2 hin.1 hin.2.1 hin.2.2.1 hin.2.2.2
      generalize hSV : refV s1 s2 s3 (xs (k * 2)) (xs (k * 2 + 1)) = V at hstep hokk hcall
      obtain ⟨⟨t1, t2, t3⟩, vb⟩ := V
      clear hin hks hSV
      replace hcall := Lib.hid hcall
      replace hS := Lib.hid hS
      go_upto_region 5 with fail
      go_cut [6, 7] from 15 to 23 (fun u6 u7 wx => ∃ p : Nat, u6 = .pointer (some ⟨p, 0, none⟩) ∧ u7 = .bool vb ∧ wr.heap.size ≤ p ∧ p < wx.heap.size ∧ wx.cell? ⟨p, 0, none⟩ = some (.int .i64 t1) ∧ wx.cell? ⟨p, 1, none⟩ = some (.int .i64 t2) ∧ wx.cell? ⟨p, 2, none⟩ = some (.int .i64 t3) ∧ Below wr.heap.size wr wx)
      case first =>
        go_region_with (go_at_call 45; refine (hcall.out _).mono ?_; rintro e w' ⟨rfl, hb⟩; obtain ⟨hc, hf⟩ := bcell hb; have hz := hb.size; simp at hz)
        all_goals (go_wp2_with fail; go_meet)
        all_goals (first
          | (exact ⟨_, rfl, rfl, hz, by simp, by simp, by simp, by simp, ((Below.refl _ _).drew.trans hb).alloc hz _⟩)
          | (have y0 : w'.cell? ⟨wr.heap.size, 0, none⟩ = some (.int .i64 0) := by rw [hc _ _ (by simp)]; simp
             have y1 : w'.cell? ⟨wr.heap.size, 1, none⟩ = some (.int .i64 0) := by rw [hc _ _ (by simp)]; simp
             have y2 : w'.cell? ⟨wr.heap.size, 2, none⟩ = some (.int .i64 0) := by rw [hc _ _ (by simp)]; simp
             have hb0 : Below wr.heap.size wr w' := (((Below.refl _ _).alloc (Nat.le_refl _) _).drew).trans (hb.mono (by simp))
             exact ⟨_, rfl, rfl, Nat.le_refl _, by simp; omega, set2 (by decide) (set2 (by decide) (set1 y0)), set2 (by decide) (set1 (set2 (by decide) y1)), set1 (set2 (by decide) (set2 (by decide) y2)), (((hb0.setCell (by simp) _).setCell (by simp) _).setCell (by simp) _)⟩))
      case rest =>
        obtain ⟨p, rfl, rfl, hp1, hp2, p0, p1, p2, hbx⟩ := hcut
        have hwz := hbx.size
        have x0' : wc.cell? ⟨w.heap.size + 1, 0, none⟩ = some (.int .i64 s1) := (hbx.cell (p := ⟨_, _, none⟩) hs1).trans x0
        have x1' : wc.cell? ⟨w.heap.size + 1, 1, none⟩ = some (.int .i64 s2) := (hbx.cell (p := ⟨_, _, none⟩) hs1).trans x1
        have x2' : wc.cell? ⟨w.heap.size + 1, 2, none⟩ = some (.int .i64 s3) := (hbx.cell (p := ⟨_, _, none⟩) hs1).trans x2
        have f0' : wc.frozen? ⟨w.heap.size + 1, 0, none⟩ = false := (hbx.frozen (p := ⟨_, _, none⟩) hs1).trans f0
        have f1' : wc.frozen? ⟨w.heap.size + 1, 1, none⟩ = false := (hbx.frozen (p := ⟨_, _, none⟩) hs1).trans f1
        have f2' : wc.frozen? ⟨w.heap.size + 1, 2, none⟩ = false := (hbx.frozen (p := ⟨_, _, none⟩) hs1).trans f2
        have r0' : wc.cell? ⟨w.heap.size, 0, none⟩ = some (.int .i64 0) := (hbx.cell (p := ⟨_, _, none⟩) hs0).trans r0
        have r1' : wc.cell? ⟨w.heap.size, 1, none⟩ = some (.int .i64 0) := (hbx.cell (p := ⟨_, _, none⟩) hs0).trans r1
        have r2' : wc.cell? ⟨w.heap.size, 2, none⟩ = some (.int .i64 0) := (hbx.cell (p := ⟨_, _, none⟩) hs0).trans r2
        have q0' : wc.frozen? ⟨w.heap.size, 0, none⟩ = false := (hbx.frozen (p := ⟨_, _, none⟩) hs0).trans q0
        have q1' : wc.frozen? ⟨w.heap.size, 1, none⟩ = false := (hbx.frozen (p := ⟨_, _, none⟩) hs0).trans q1
        have q2' : wc.frozen? ⟨w.heap.size, 2, none⟩ = false := (hbx.frozen (p := ⟨_, _, none⟩) hs0).trans q2
        have hbw : Below w.heap.size w wc := hbel.trans (hbx.mono (by omega))
        cases vb with
        | false =>
          have hr : v = k := by rw [← hv.out]; exact lead_at h1 hok.out hokk.out
          subst hr
          have e0 := set1 (v := .int .i64 s1) r0'
          have e1 := set1 (v := .int .i64 s2) (set2 (i := 0) (j := 1) (v := .int .i64 s1) (by decide) r1')
          have e2 := set1 (v := .int .i64 s3) (set2 (i := 1) (j := 2) (v := .int .i64 s2) (by decide) (set2 (i := 0) (j := 2) (v := .int .i64 s1) (by decide) r2'))
          have d0 := set2 (i := 1) (j := 0) (v := .int .i64 s2) (by decide) e0
          have d1 := set2 (i := 2) (j := 1) (v := .int .i64 s3) (by decide) e1
          have d2 := set2 (i := 2) (j := 0) (v := .int .i64 s3) (by decide) d0
          go_wp2
          rw [hS.out]
          refine bodyPost_ret (v := .tuple #[.agg #[.int .i64 s1, .int .i64 s2, .int .i64 s3], .int .i64 v]) (by simp [results, Try.results36, go_sem, e0, e1, e2, d0, d1, d2]) rfl ⟨by simp, ?_⟩
          exact ((hbw.setCell (by simp) _).setCell (by simp) _).setCell (by simp) _
        | true =>
          go_wp2
          go_roundw
          case rel =>
            have hst : stR xs (k + 1) = (t1, t2, t3) := hstep.out
            refine ⟨k + 1, by omega, by go_num, Lib.hid (fun i hi => ?_), ?_, ?_, ?_, ?_, ?_, ?_, ?_, ?_⟩
            · by_cases e : i = k
              · subst e; exact hokk.out
              · exact hok.out i (by omega)
            · rw [hst]; exact set2 (by decide) (set2 (by decide) (set1 x0'))
            · rw [hst]; exact set2 (by decide) (set1 (set2 (by decide) x1'))
            · rw [hst]; exact set1 (set2 (by decide) (set2 (by decide) x2'))
            · intro i; rw [World.frozen?_setCell, World.frozen?_setCell, World.frozen?_setCell]; exact (hbx.frozen (p := ⟨_, _, none⟩) hs1).trans (hfx.out i)
            · intro i hi; exact set3 (by omega) (set3 (by omega) (set3 (by omega) ((hbx.cell (p := ⟨_, _, none⟩) hs0).trans (hr'.out i hi))))
            · intro i; rw [World.frozen?_setCell, World.frozen?_setCell, World.frozen?_setCell]; exact (hbx.frozen (p := ⟨_, _, none⟩) hs0).trans (hfr.out i)
            · simp; omega
            · exact ((hbw.setCell (by simp) _).setCell (by simp) _).setCell (by simp) _
          case measure => simp [intOf]; omega
    · obtain rfl : k = n := by omega
      have hr : v = k := by rw [← hv.out]; exact lead_all hok.out
      subst hr
      generalize hS : stR xs v = S at x0 x1 x2
      obtain ⟨s1, s2, s3⟩ := S
      replace hS := Lib.hid hS
      have e0 := set1 (v := .int .i64 s1) r0
      have e1 := set1 (v := .int .i64 s2) (set2 (i := 0) (j := 1) (v := .int .i64 s1) (by decide) r1)
      have e2 := set1 (v := .int .i64 s3) (set2 (i := 1) (j := 2) (v := .int .i64 s2) (by decide) (set2 (i := 0) (j := 2) (v := .int .i64 s1) (by decide) r2))
      have d0 := set2 (i := 1) (j := 0) (v := .int .i64 s2) (by decide) e0
      have d1 := set2 (i := 2) (j := 1) (v := .int .i64 s3) (by decide) e1
      have d2 := set2 (i := 2) (j := 0) (v := .int .i64 s3) (by decide) d0
      go_wp2
      rw [hS.out]
      refine bodyPost_ret (v := .tuple #[.agg #[.int .i64 s1, .int .i64 s2, .int .i64 s3], .int .i64 (-1)]) (by simp [results, Try.results36, go_sem, x0, x1, e0, e1, e2, d0, d1, d2]) rfl ⟨rfl, ?_⟩
      exact ((hbel.setCell (by simp) _).setCell (by simp) _).setCell (by simp) _

/-- A log and a time, drawn. -/
def DrewT (w w' : World) (e : Ending) : Prop :=
  ∃ (A : Option Addr) (n c : Nat) (xs : Nat → Int) (t : Int), e = .returned (.tuple #[.slice A n c, .int .i64 t]) ∧ n ≤ 41 ∧ -3000000000 ≤ t ∧ t ≤ 3000000000 ∧ Ints w' w'.heap.size A (n * 2) xs ∧ Below w.heap.size w w'
theorem l13RunX (A : Option Addr) (n c B : Nat) (xs : Nat → Int) (w : World) (hx : Ints w B A (n * 2) xs) (hB : B ≤ w.heap.size) (hn : n ≤ 41) (hs : ∀ j, j < n * 2 → -2000000000 ≤ xs j ∧ xs j ≤ 2000000000) :
    ∃ s1 s2 s3 v : Int, -2000000000 ≤ s2 ∧ s2 ≤ 2000000000 ∧ -2000000000 ≤ s3 ∧ s3 ≤ 2000000000 ∧ Calls Try.prog 36 #[.slice A n c] w fun e w' => e = .returned (.tuple #[.agg #[.int .i64 s1, .int .i64 s2, .int .i64 s3], .int .i64 v]) ∧ Below w.heap.size w w' := by
  have hb := stR_wide hs (lead (okR xs) n) (lead_le _ _)
  exact ⟨_, _, _, _, hb.1, hb.2.1, hb.2.2.1, hb.2.2.2, l13RunW_any A n c B xs w hx hB hn hs⟩
set_option maxRecDepth 100000 in
set_option maxHeartbeats 8000000 in
theorem l13DrawTime_any (w : World) (B g m : Nat) (bs : Nat → Int) (h : SrcX w B g m bs) :
    Calls Try.prog 50 #[.pointer (some ⟨g, 0, none⟩)] w fun e w' => ∃ (A : Option Addr) (n c : Nat) (zs : List Int) (t : Int), e = .returned (.tuple #[.slice A n c, .int .i64 t]) ∧ n ≤ 41 ∧ -3000000000 ≤ t ∧ t ≤ 3000000000 ∧ w'.ownsRow w.heap.size 43 2 (.slice A n c) n (zs.map (Value.int .i64)) ∧ w.grownBy w' (some g) := by
  have hgl := h.lt
  go_enter Try.func50, Try.ntmps50
  go_wp2_with fail
  refine (l13DrawAny_any _ _ _ _ _ h).mono ?_
  rintro e w1 ⟨v, n, zs, rfl, n41, hown, hS1, hg1, hzb⟩
  obtain ⟨A, c, rfl, hnc, hcm⟩ := own_form hown
  obtain ⟨hzl, hzc⟩ := cells_of hown
  have hz1 := hg1.size
  have hI : Ints w1 w1.heap.size A (n * 2) (fun j => zs.getD j 0) := Ints.of_own hown (Nat.le_refl _) (by simp; omega) hzc
  obtain ⟨s1, s2, s3, v, b0, b1, b2, b3, hcall⟩ := l13RunX A n c w1.heap.size _ w1 hI (Nat.le_refl _) n41 (fun j hj => by have := getD_all (P := fun y => -1 ≤ y ∧ y ≤ 1000000001) hzb (i := j) (by omega); omega)
  go_wp2_with fail
  refine hcall.mono ?_
  rintro e w2 ⟨rfl, hb2⟩
  clear hcall
  have z2 := hb2.size
  have hown2 := own_below hown hb2
  have hS2 := hS1.only (row := none) (only_below hb2 none) (by simp)
  have hg2 := only_trans hg1 (only_below hb2 (some g))
  have hI2 := hI.below hb2
  clear hS1 hg1 hb2 hzc hI hown
  rcases Nat.eq_zero_or_pos n with hn0 | hn0
  · subst hn0
    go_wp2_with fail
    refine (nextR _ _ _ _ _ _ (hS2.new _) (by omega) (by omega)).mono ?_
    rintro e w4 ⟨d, rfl, d0, d1, hS4, hg4⟩
    have hST := (Whole.new w2 56 #[.int .i64 s1, .int .i64 s2, .int .i64 s3]).grown hg4 (fun e => by injection e with e; omega)
    have y0 := hST.cell 0
    have y1 := hST.cell 1
    have y2 := hST.cell 2
    simp at y0 y1 y2
    have hl4 := hST.lt
    have hown4 := own_only (hown2.alloc (.cells #[.int .i64 s1, .int .i64 s2, .int .i64 s3] 56)) hg4 (fun k e => by injection e with e; omega)
    have hgw4 := only_trans (only_new hg2 (.cells #[.int .i64 s1, .int .i64 s2, .int .i64 s3] 56)) hg4
    clear hg4 hS2 hg2 hown2 hST
    by_cases h0 : d = 0
    · subst h0
      go_wp2
      go_ret2
      exact ⟨_, _, _, zs, _, rfl, n41, by omega, by omega, hown4, hgw4⟩
    by_cases h1 : d = 1
    · subst h1
      go_wp2_with fail
      go_region_law (go_simp; go_at_call 53; refine (nextR _ _ _ _ _ _ (by first | exact hS4 | exact hS4.new _ | exact hS4.d1 | exact (hS4.new _).d1 | exact hS4.d1.new _) (by omega) (by omega)).mono ?_; rintro e w5 ⟨r, rfl, r0, r1', hS5, hg5⟩; (first | (have hg6 : (w4.alloc (.cells #[.int .i64 0, .int .i64 1000000000, .int .i64 1000000001] 2)).grownBy w5 (some g) := (by first | exact hg5 | exact ⟨hg5.os, hg5.tape, hg5.output, hg5.size, hg5.block⟩); obtain ⟨x, hx, hcell⟩ := ((Whole.new w4 2 _).grown hg6 (fun e => by injection e with e; omega)).pick [0, 1000000000, 1000000001] rfl r r0 (by simpa using r1'); have hown5 := own_only (hown4.alloc (.cells #[.int .i64 0, .int .i64 1000000000, .int .i64 1000000001] 2)) hg6 (fun k e => by injection e with e; omega); have hgw5 := only_trans (only_new hgw4 (.cells #[.int .i64 0, .int .i64 1000000000, .int .i64 1000000001] 2)) hg6; have z5 := hg6.size; simp at z5) | (have hg6 : w4.grownBy w5 (some g) := (by first | exact hg5 | exact ⟨hg5.os, hg5.tape, hg5.output, hg5.size, hg5.block⟩); obtain ⟨x, hx, hcell⟩ := (Whole.new w5 2 _).pick [0, 1000000000, 1000000001] rfl r r0 (by simpa using r1'); have hown5 := (own_only hown4 hg6 (fun k e => by injection e with e; omega)).alloc (.cells #[.int .i64 0, .int .i64 1000000000, .int .i64 1000000001] 2); have hgw5 := only_new (only_trans hgw4 hg6) (.cells #[.int .i64 0, .int .i64 1000000000, .int .i64 1000000001] 2))); have hxx : 0 ≤ x ∧ x ≤ 1000000001 := (by simp at hx; omega))
      all_goals clear hx hg5 hS4 hS5 hown4 hgw4
      all_goals (obtain rfl | rfl | rfl : r = 0 ∨ r = 1 ∨ r = 2 := by omega)
      all_goals go_wp2
      all_goals go_ret2
      all_goals (first | (refine ⟨_, _, _, zs, x, rfl, n41, ?_, ?_, ?_, ?_⟩) | (refine ⟨_, _, _, zs, 0, rfl, n41, ?_, ?_, ?_, ?_⟩) | (refine ⟨_, _, _, zs, 1000000000, rfl, n41, ?_, ?_, ?_, ?_⟩) | (refine ⟨_, _, _, zs, 1000000001, rfl, n41, ?_, ?_, ?_, ?_⟩))
      all_goals first | omega | exact hown5 | exact hown5.drew | exact hgw5 | exact only_drew' hgw5
    by_cases h2 : d = 2
    · subst h2
      go_wp2
      go_region
      go_wp2
      go_ret2
      exact ⟨_, _, _, zs, s3 + 60000, rfl, n41, by omega, by omega, by first | exact hown4 | exact hown4.drew, by first | exact hgw4 | exact only_drew' hgw4⟩
    have n0 : (d == 0) = false := by rw [beq_eq_false_iff_ne]; exact h0
    have n1 : (d == 1) = false := by rw [beq_eq_false_iff_ne]; exact h1
    have n2 : (d == 2) = false := by rw [beq_eq_false_iff_ne]; exact h2
    go_wp2_with fail
    have hS4d := hS4.d1
    go_region_law (go_simp; go_at_call 53; refine (nextR _ _ _ _ _ _ (by first | exact hS4 | exact hS4d) (by omega) (by omega)).mono ?_; rintro e w5 ⟨r, rfl, r0, r1', hS5, hg5⟩; have hg6 : w4.grownBy w5 (some g) := (by first | exact hg5 | exact ⟨hg5.os, hg5.tape, hg5.output, hg5.size, hg5.block⟩); have y1' : w5.cell? ⟨w2.heap.size, 1, none⟩ = some (.int .i64 s2) := (World.cell?_of_block (a := ⟨w2.heap.size, 1, none⟩) (hg6.block w2.heap.size hl4 (fun e => by injection e with e; omega))).trans y1; have hw1 : IntKind.i64.wrap (s2 + 60000 * (1 + r)) = s2 + 60000 * (1 + r) := IntWalk.i64_in _ (by omega); have hw2 : IntKind.i64.wrap (60000 * (1 + r)) = 60000 * (1 + r) := IntWalk.i64_in _ (by omega); have hw3 : IntKind.i64.wrap (1 + r) = 1 + r := IntWalk.i64_in _ (by omega))
    all_goals have z5 := hg6.size
    all_goals have hown5 := own_only hown4 hg6 (fun k e => by injection e with e; omega)
    all_goals have hgw5 := only_trans hgw4 hg6
    all_goals clear hS4 hS5 hg5 hg6 hown4 hgw4
    all_goals go_wp2
    all_goals go_ret2
    all_goals (first | (refine ⟨_, _, _, zs, s2 + 60000 * (1 + r), rfl, n41, ?_, ?_, ?_, ?_⟩) | (refine ⟨_, _, _, zs, 0, rfl, n41, ?_, ?_, ?_, ?_⟩) | (refine ⟨_, _, _, zs, max (0 : Int) (s2 + 60000 * (1 + r)), rfl, n41, ?_, ?_, ?_, ?_⟩))
    all_goals first | omega | exact hown5 | exact hown5.drew | exact hgw5 | exact only_drew' hgw5
  · obtain ⟨q, rfl⟩ : ∃ q, n = q + 1 := ⟨n - 1, by omega⟩
    obtain ⟨b, o, rfl, hadB, hcode⟩ := hI2 (by omega)
    have g1 : w2.cell? ⟨b, o + q * 2 + 1, none⟩ = some (.int .i64 (zs.getD (q * 2 + 1) 0)) := hcode (q * 2 + 1) (by omega)
    have hxb := getD_all (P := fun y => -1 ≤ y ∧ y ≤ 1000000001) hzb (i := q * 2 + 1) (by omega)
    generalize zs.getD (q * 2 + 1) 0 = last at g1 hxb
    have hwr : IntKind.i64.wrap (q : Int) = q := IntWalk.i64_in _ (by omega)
    have hq1 : (q : Int) < (q : Int) + 1 := by omega
    have hbl : b < w2.heap.size := by omega
    clear hcode hzb
    go_wp2_with fail
    refine (nextR _ _ _ _ _ _ (hS2.new _) (by omega) (by omega)).mono ?_
    rintro e w4 ⟨d, rfl, d0, d1, hS4, hg4⟩
    have hST := (Whole.new w2 56 #[.int .i64 s1, .int .i64 s2, .int .i64 s3]).grown hg4 (fun e => by injection e with e; omega)
    have y0 := hST.cell 0
    have y1 := hST.cell 1
    have y2 := hST.cell 2
    simp at y0 y1 y2
    have hl4 := hST.lt
    have hown4 := own_only (hown2.alloc (.cells #[.int .i64 s1, .int .i64 s2, .int .i64 s3] 56)) hg4 (fun k e => by injection e with e; omega)
    have hgw4 := only_trans (only_new hg2 (.cells #[.int .i64 s1, .int .i64 s2, .int .i64 s3] 56)) hg4
    clear hg4 hS2 hg2 hown2 hST
    by_cases h0 : d = 0
    · subst h0
      go_wp2
      go_ret2
      exact ⟨_, _, _, zs, _, rfl, n41, by omega, by omega, hown4, hgw4⟩
    by_cases h1 : d = 1
    · subst h1
      go_wp2_with fail
      go_region_law (go_simp; go_at_call 53; refine (nextR _ _ _ _ _ _ (by first | exact hS4 | exact hS4.new _ | exact hS4.d1 | exact (hS4.new _).d1 | exact hS4.d1.new _) (by omega) (by omega)).mono ?_; rintro e w5 ⟨r, rfl, r0, r1', hS5, hg5⟩; (first | (have hg6 : (w4.alloc (.cells #[.int .i64 0, .int .i64 1000000000, .int .i64 1000000001] 2)).grownBy w5 (some g) := (by first | exact hg5 | exact ⟨hg5.os, hg5.tape, hg5.output, hg5.size, hg5.block⟩); obtain ⟨x, hx, hcell⟩ := ((Whole.new w4 2 _).grown hg6 (fun e => by injection e with e; omega)).pick [0, 1000000000, 1000000001] rfl r r0 (by simpa using r1'); have hown5 := own_only (hown4.alloc (.cells #[.int .i64 0, .int .i64 1000000000, .int .i64 1000000001] 2)) hg6 (fun k e => by injection e with e; omega); have hgw5 := only_trans (only_new hgw4 (.cells #[.int .i64 0, .int .i64 1000000000, .int .i64 1000000001] 2)) hg6; have z5 := hg6.size; simp at z5) | (have hg6 : w4.grownBy w5 (some g) := (by first | exact hg5 | exact ⟨hg5.os, hg5.tape, hg5.output, hg5.size, hg5.block⟩); obtain ⟨x, hx, hcell⟩ := (Whole.new w5 2 _).pick [0, 1000000000, 1000000001] rfl r r0 (by simpa using r1'); have hown5 := (own_only hown4 hg6 (fun k e => by injection e with e; omega)).alloc (.cells #[.int .i64 0, .int .i64 1000000000, .int .i64 1000000001] 2); have hgw5 := only_new (only_trans hgw4 hg6) (.cells #[.int .i64 0, .int .i64 1000000000, .int .i64 1000000001] 2))); have hxx : 0 ≤ x ∧ x ≤ 1000000001 := (by simp at hx; omega))
      all_goals clear hx hg5 hS4 hS5 hown4 hgw4
      all_goals (obtain rfl | rfl | rfl : r = 0 ∨ r = 1 ∨ r = 2 := by omega)
      all_goals go_wp2
      all_goals go_ret2
      all_goals (first | (refine ⟨_, _, _, zs, x, rfl, n41, ?_, ?_, ?_, ?_⟩) | (refine ⟨_, _, _, zs, 0, rfl, n41, ?_, ?_, ?_, ?_⟩) | (refine ⟨_, _, _, zs, 1000000000, rfl, n41, ?_, ?_, ?_, ?_⟩) | (refine ⟨_, _, _, zs, 1000000001, rfl, n41, ?_, ?_, ?_, ?_⟩))
      all_goals first | omega | exact hown5 | exact hown5.drew | exact hgw5 | exact only_drew' hgw5
    by_cases h2 : d = 2
    · subst h2
      go_wp2
      go_region
      go_wp2
      go_ret2
      exact ⟨_, _, _, zs, s3 + 60000, rfl, n41, by omega, by omega, by first | exact hown4 | exact hown4.drew, by first | exact hgw4 | exact only_drew' hgw4⟩
    have n0 : (d == 0) = false := by rw [beq_eq_false_iff_ne]; exact h0
    have n1 : (d == 1) = false := by rw [beq_eq_false_iff_ne]; exact h1
    have n2 : (d == 2) = false := by rw [beq_eq_false_iff_ne]; exact h2
    go_wp2_with fail
    have hS4d := hS4.d1
    go_region_law (go_simp; go_at_call 53; refine (nextR _ _ _ _ _ _ (by first | exact hS4 | exact hS4d) (by omega) (by omega)).mono ?_; rintro e w5 ⟨r, rfl, r0, r1', hS5, hg5⟩; have hg6 : w4.grownBy w5 (some g) := (by first | exact hg5 | exact ⟨hg5.os, hg5.tape, hg5.output, hg5.size, hg5.block⟩); have y1' : w5.cell? ⟨w2.heap.size, 1, none⟩ = some (.int .i64 s2) := (World.cell?_of_block (a := ⟨w2.heap.size, 1, none⟩) (hg6.block w2.heap.size hl4 (fun e => by injection e with e; omega))).trans y1; have hw1 : IntKind.i64.wrap (s2 + 60000 * (1 + r)) = s2 + 60000 * (1 + r) := IntWalk.i64_in _ (by omega); have hw2 : IntKind.i64.wrap (60000 * (1 + r)) = 60000 * (1 + r) := IntWalk.i64_in _ (by omega); have hw3 : IntKind.i64.wrap (1 + r) = 1 + r := IntWalk.i64_in _ (by omega))
    all_goals have z5 := hg6.size
    all_goals have hown5 := own_only hown4 hg6 (fun k e => by injection e with e; omega)
    all_goals have hgw5 := only_trans hgw4 hg6
    all_goals clear hS4 hS5 hg5 hg6 hown4 hgw4
    all_goals go_wp2
    all_goals go_ret2
    all_goals (first | (refine ⟨_, _, _, zs, s2 + 60000 * (1 + r), rfl, n41, ?_, ?_, ?_, ?_⟩) | (refine ⟨_, _, _, zs, last, rfl, n41, ?_, ?_, ?_, ?_⟩) | (refine ⟨_, _, _, zs, max (last) (s2 + 60000 * (1 + r)), rfl, n41, ?_, ?_, ?_, ?_⟩))
    all_goals first | omega | exact hown5 | exact hown5.drew | exact hgw5 | exact only_drew' hgw5
end Go.Proofs.Ytfckoeoohlgmiaa
