/- The run of a log: the reference's. -/
import Derived.Test.YtfckoeoohlgmiaaSig4
import Derived.Deep.CutRange
import Derived.Deep.RegionWith
set_option linter.unusedSimpArgs false
set_option linter.unusedVariables false
namespace Go.Proofs.Ytfckoeoohlgmiaa
open Go.RowKit

set_option maxHeartbeats 4000000 in
theorem l13Run_any (A : Option Addr) (n c B : Nat) (xs : Nat → Int) (w : World) (hx : Ints w B A (n * 2) xs) (hB : B ≤ w.heap.size) (hn : n ≤ 40) (hs : ∀ i, i < n → okS xs i = true) :
    Calls Try.prog 36 #[.slice A n c] w fun e w' => e = .returned (.tuple #[.agg #[.int .i64 (stR xs (lead (okR xs) n)).1, .int .i64 (stR xs (lead (okR xs) n)).2.1, .int .i64 (stR xs (lead (okR xs) n)).2.2], .int .i64 (if lead (okR xs) n < n then ((lead (okR xs) n : Nat) : Int) else -1)]) ∧ Below w.heap.size w w' := by
  generalize hv : lead (okR xs) n = v
  replace hv := Lib.hid hv
  replace hx := Lib.hid hx
  replace hs := Lib.hid hs
  go_enter Try.func36, Try.ntmps36
  go_wp2
  go_loopw [5] (fun u wr => ∃ k : Nat, k ≤ n ∧ u = .int .i64 k ∧ Hid (∀ i, i < k → okR xs i = true) ∧ wr.cell? ⟨w.heap.size + 1, 0, none⟩ = some (.int .i64 (stR xs k).1) ∧ wr.cell? ⟨w.heap.size + 1, 1, none⟩ = some (.int .i64 (stR xs k).2.1) ∧ wr.cell? ⟨w.heap.size + 1, 2, none⟩ = some (.int .i64 (stR xs k).2.2) ∧ (∀ i, wr.frozen? ⟨w.heap.size + 1, i, none⟩ = false) ∧ (∀ i, i < 3 → wr.cell? ⟨w.heap.size, i, none⟩ = some (.int .i64 0)) ∧ (∀ i, wr.frozen? ⟨w.heap.size, i, none⟩ = false) ∧ w.heap.size + 2 ≤ wr.heap.size ∧ Below w.heap.size w wr) (fun u _ => (n - intOf u).toNat)
  case atStart =>
    refine ⟨0, by omega, rfl, Lib.hid (fun i hi => by omega), by simp [stR], by simp [stR], by simp [stR], by simp, ?_, by simp, by simp, ?_⟩
    · intro i hi
      obtain rfl | rfl | rfl : i = 0 ∨ i = 1 ∨ i = 2 := by omega
      · simp
      · simp
      · simp
    · exact ((Below.refl _ _).alloc (Nat.le_refl _) _).alloc (by simp) _
  case round =>
    obtain ⟨k, hk1, rfl, hok, x0, x1, x2, hfx, hr', hfr, hsz, hbel⟩ := hrel
    have hs0 : w.heap.size < wr.heap.size := by omega
    have hs1 : w.heap.size + 1 < wr.heap.size := by omega
    have f0 := hfx 0
    have f1 := hfx 1
    have f2 := hfx 2
    have q0 := hfr 0
    have q1 := hfr 1
    have q2 := hfr 2
    have r0 := hr' 0 (by omega)
    have r1 := hr' 1 (by omega)
    have r2 := hr' 2 (by omega)
    replace hfx := Lib.hid hfx
    replace hr' := Lib.hid hr'
    replace hfr := Lib.hid hfr
    by_cases h1 : k < n
    · obtain ⟨b, o, rfl, hadB, hcode⟩ := hx.out (by omega)
      have g0 : wr.cell? ⟨b, o + k * 2, none⟩ = some (.int .i64 (xs (k * 2))) := by rw [hbel.cell (by simp; omega)]; exact hcode (k * 2) (by omega)
      have g1 : wr.cell? ⟨b, o + k * 2 + 1, none⟩ = some (.int .i64 (xs (k * 2 + 1))) := by rw [hbel.cell (by simp; omega)]; exact hcode (k * 2 + 1) (by omega)
      have hbb : b < wr.heap.size := by omega
      have hin := stR_in hs.out k (by omega)
      have hks := okS_t (hs.out k h1)
      clear hcode
      have hstep : stR xs (k + 1) = (refV (stR xs k).1 (stR xs k).2.1 (stR xs k).2.2 (xs (k * 2)) (xs (k * 2 + 1))).1 := rfl
      have hokk : okR xs k = (refV (stR xs k).1 (stR xs k).2.1 (stR xs k).2.2 (xs (k * 2)) (xs (k * 2 + 1))).2 := rfl
      replace hstep := Lib.hid hstep
      replace hokk := Lib.hid hokk
      generalize hS : stR xs k = S at x0 x1 x2 hin hstep hokk
      obtain ⟨s1, s2, s3⟩ := S
      have hcall := fun w0 => step_any s1 s2 s3 (xs (k * 2)) (xs (k * 2 + 1)) w0 hks.1 hks.2.1 hks.2.2.1 hks.2.2.2.1 hin.1 hin.2.1 hin.2.2.1 hin.2.2.2
      generalize hSV : refV s1 s2 s3 (xs (k * 2)) (xs (k * 2 + 1)) = V at hstep hokk hcall
      obtain ⟨⟨t1, t2, t3⟩, vb⟩ := V
      clear hin hks hSV
      replace hcall := Lib.hid hcall
      replace hS := Lib.hid hS
      go_upto_region 5 with fail
      go_cut [6, 7] from 15 to 23 (fun u6 u7 wx => ∃ p : Nat, u6 = .pointer (some ⟨p, 0, none⟩) ∧ u7 = .bool vb ∧ wr.heap.size ≤ p ∧ p < wx.heap.size ∧ wx.cell? ⟨p, 0, none⟩ = some (.int .i64 t1) ∧ wx.cell? ⟨p, 1, none⟩ = some (.int .i64 t2) ∧ wx.cell? ⟨p, 2, none⟩ = some (.int .i64 t3) ∧ Below wr.heap.size wr wx)
      case first =>
        go_region_with (go_at_call 45; refine (hcall.out _).mono ?_; rintro e w' ⟨rfl, hb⟩; obtain ⟨hc, hf⟩ := bcell hb; have hz := hb.size; simp at hz)
        all_goals (go_wp2_with fail; go_meet)
        all_goals (first
          | (exact ⟨_, rfl, rfl, hz, by simp, by simp, by simp, by simp, ((Below.refl _ _).drew.trans hb).alloc hz _⟩)
          | (have y0 : w'.cell? ⟨wr.heap.size, 0, none⟩ = some (.int .i64 0) := by rw [hc _ _ (by simp)]; simp
             have y1 : w'.cell? ⟨wr.heap.size, 1, none⟩ = some (.int .i64 0) := by rw [hc _ _ (by simp)]; simp
             have y2 : w'.cell? ⟨wr.heap.size, 2, none⟩ = some (.int .i64 0) := by rw [hc _ _ (by simp)]; simp
             have hb0 : Below wr.heap.size wr w' := (((Below.refl _ _).alloc (Nat.le_refl _) _).drew).trans (hb.mono (by simp))
             exact ⟨_, rfl, rfl, Nat.le_refl _, by simp; omega, set2 (by decide) (set2 (by decide) (set1 y0)), set2 (by decide) (set1 (set2 (by decide) y1)), set1 (set2 (by decide) (set2 (by decide) y2)), (((hb0.setCell (by simp) _).setCell (by simp) _).setCell (by simp) _)⟩))
      case rest =>
        obtain ⟨p, rfl, rfl, hp1, hp2, p0, p1, p2, hbx⟩ := hcut
        have hwz := hbx.size
        have x0' : wc.cell? ⟨w.heap.size + 1, 0, none⟩ = some (.int .i64 s1) := (hbx.cell (p := ⟨_, _, none⟩) hs1).trans x0
        have x1' : wc.cell? ⟨w.heap.size + 1, 1, none⟩ = some (.int .i64 s2) := (hbx.cell (p := ⟨_, _, none⟩) hs1).trans x1
        have x2' : wc.cell? ⟨w.heap.size + 1, 2, none⟩ = some (.int .i64 s3) := (hbx.cell (p := ⟨_, _, none⟩) hs1).trans x2
        have f0' : wc.frozen? ⟨w.heap.size + 1, 0, none⟩ = false := (hbx.frozen (p := ⟨_, _, none⟩) hs1).trans f0
        have f1' : wc.frozen? ⟨w.heap.size + 1, 1, none⟩ = false := (hbx.frozen (p := ⟨_, _, none⟩) hs1).trans f1
        have f2' : wc.frozen? ⟨w.heap.size + 1, 2, none⟩ = false := (hbx.frozen (p := ⟨_, _, none⟩) hs1).trans f2
        have r0' : wc.cell? ⟨w.heap.size, 0, none⟩ = some (.int .i64 0) := (hbx.cell (p := ⟨_, _, none⟩) hs0).trans r0
        have r1' : wc.cell? ⟨w.heap.size, 1, none⟩ = some (.int .i64 0) := (hbx.cell (p := ⟨_, _, none⟩) hs0).trans r1
        have r2' : wc.cell? ⟨w.heap.size, 2, none⟩ = some (.int .i64 0) := (hbx.cell (p := ⟨_, _, none⟩) hs0).trans r2
        have q0' : wc.frozen? ⟨w.heap.size, 0, none⟩ = false := (hbx.frozen (p := ⟨_, _, none⟩) hs0).trans q0
        have q1' : wc.frozen? ⟨w.heap.size, 1, none⟩ = false := (hbx.frozen (p := ⟨_, _, none⟩) hs0).trans q1
        have q2' : wc.frozen? ⟨w.heap.size, 2, none⟩ = false := (hbx.frozen (p := ⟨_, _, none⟩) hs0).trans q2
        have hbw : Below w.heap.size w wc := hbel.trans (hbx.mono (by omega))
        cases vb with
        | false =>
          have hr : v = k := by rw [← hv.out]; exact lead_at h1 hok.out hokk.out
          subst hr
          have e0 := set1 (v := .int .i64 s1) r0'
          have e1 := set1 (v := .int .i64 s2) (set2 (i := 0) (j := 1) (v := .int .i64 s1) (by decide) r1')
          have e2 := set1 (v := .int .i64 s3) (set2 (i := 1) (j := 2) (v := .int .i64 s2) (by decide) (set2 (i := 0) (j := 2) (v := .int .i64 s1) (by decide) r2'))
          have d0 := set2 (i := 1) (j := 0) (v := .int .i64 s2) (by decide) e0
          have d1 := set2 (i := 2) (j := 1) (v := .int .i64 s3) (by decide) e1
          have d2 := set2 (i := 2) (j := 0) (v := .int .i64 s3) (by decide) d0
          go_wp2
          rw [hS.out]
          refine bodyPost_ret (v := .tuple #[.agg #[.int .i64 s1, .int .i64 s2, .int .i64 s3], .int .i64 v]) (by simp [results, Try.results36, go_sem, e0, e1, e2, d0, d1, d2]) rfl ⟨by simp, ?_⟩
          exact ((hbw.setCell (by simp) _).setCell (by simp) _).setCell (by simp) _
        | true =>
          go_wp2
          go_roundw
          case rel =>
            have hst : stR xs (k + 1) = (t1, t2, t3) := hstep.out
            refine ⟨k + 1, by omega, by go_num, Lib.hid (fun i hi => ?_), ?_, ?_, ?_, ?_, ?_, ?_, ?_, ?_⟩
            · by_cases e : i = k
              · subst e; exact hokk.out
              · exact hok.out i (by omega)
            · rw [hst]; exact set2 (by decide) (set2 (by decide) (set1 x0'))
            · rw [hst]; exact set2 (by decide) (set1 (set2 (by decide) x1'))
            · rw [hst]; exact set1 (set2 (by decide) (set2 (by decide) x2'))
            · intro i; rw [World.frozen?_setCell, World.frozen?_setCell, World.frozen?_setCell]; exact (hbx.frozen (p := ⟨_, _, none⟩) hs1).trans (hfx.out i)
            · intro i hi; exact set3 (by omega) (set3 (by omega) (set3 (by omega) ((hbx.cell (p := ⟨_, _, none⟩) hs0).trans (hr'.out i hi))))
            · intro i; rw [World.frozen?_setCell, World.frozen?_setCell, World.frozen?_setCell]; exact (hbx.frozen (p := ⟨_, _, none⟩) hs0).trans (hfr.out i)
            · simp; omega
            · exact ((hbw.setCell (by simp) _).setCell (by simp) _).setCell (by simp) _
          case measure => simp [intOf]; omega
    · obtain rfl : k = n := by omega
      have hr : v = k := by rw [← hv.out]; exact lead_all hok.out
      subst hr
      generalize hS : stR xs v = S at x0 x1 x2
      obtain ⟨s1, s2, s3⟩ := S
      replace hS := Lib.hid hS
      have e0 := set1 (v := .int .i64 s1) r0
      have e1 := set1 (v := .int .i64 s2) (set2 (i := 0) (j := 1) (v := .int .i64 s1) (by decide) r1)
      have e2 := set1 (v := .int .i64 s3) (set2 (i := 1) (j := 2) (v := .int .i64 s2) (by decide) (set2 (i := 0) (j := 2) (v := .int .i64 s1) (by decide) r2))
      have d0 := set2 (i := 1) (j := 0) (v := .int .i64 s2) (by decide) e0
      have d1 := set2 (i := 2) (j := 1) (v := .int .i64 s3) (by decide) e1
      have d2 := set2 (i := 2) (j := 0) (v := .int .i64 s3) (by decide) d0
      go_wp2
      rw [hS.out]
      refine bodyPost_ret (v := .tuple #[.agg #[.int .i64 s1, .int .i64 s2, .int .i64 s3], .int .i64 (-1)]) (by simp [results, Try.results36, go_sem, x0, x1, e0, e1, e2, d0, d1, d2]) rfl ⟨rfl, ?_⟩
      exact ((hbel.setCell (by simp) _).setCell (by simp) _).setCell (by simp) _
end Go.Proofs.Ytfckoeoohlgmiaa
