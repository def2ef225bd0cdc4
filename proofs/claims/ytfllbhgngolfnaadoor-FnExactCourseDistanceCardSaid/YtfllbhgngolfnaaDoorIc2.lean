/- IsCourse: the reference's. -/
import Derived.Test.YtfllbhgngolfnaaDoorIc
set_option linter.unusedSimpArgs false
set_option linter.unusedVariables false
namespace Go.Proofs.YtfllbhgngolfnaaDoor
open Go.RowKit

set_option maxRecDepth 100000 in
set_option maxHeartbeats 8000000 in
theorem sIsCourse_any (a b c d e f g h : Int) (A : Option Addr) (n cp B : Nat) (M : Nat → MkV) (v : Bool) (hv : crsB a b c d e f g h n M = v) (w : World) (hx : Mks w B A n M) (hB : B ≤ w.heap.size) (hn : n ≤ 1048576) (hcp : n ≤ cp) :
    Calls Tryd.prog 17 #[.agg #[.int .i64 a, .int .i64 b, .int .i64 c, .int .i64 d, .int .i64 e, .int .i64 f, .int .i64 g, .int .i64 h, .slice A n cp]] w fun e w' => e = .returned (.bool v) ∧ Below w.heap.size w w' := by
  have hb0 := (Below.refl w.heap.size w).alloc (Nat.le_refl _) (.cells #[.int .i64 a, .int .i64 b, .int .i64 c, .int .i64 d, .int .i64 e, .int .i64 f, .int .i64 g, .int .i64 h, .slice A n cp] 37)
  have hW0 := Whole.new w 37 #[.int .i64 a, .int .i64 b, .int .i64 c, .int .i64 d, .int .i64 e, .int .i64 f, .int .i64 g, .int .i64 h, .slice A n cp]
  replace hb0 := Lib.hid hb0
  replace hW0 := Lib.hid hW0
  replace hx := Lib.hid hx
  unfold crsB at hv
  obtain ⟨l1, hl1⟩ : ∃ l1, lnB a b c d = l1 := ⟨_, rfl⟩
  obtain ⟨l2, hl2⟩ : ∃ l2, lnB e f g h = l2 := ⟨_, rfl⟩
  have m1 := fun W => sIsLine_any a b c d l1 hl1 W
  have m2 := fun W => sIsLine_any e f g h l2 hl2 W
  rw [hl1, hl2] at hv
  replace m1 := Lib.hid m1
  replace m2 := Lib.hid m2
  cases l1 with
  | false =>
    have hv : v = false := by rw [← hv]; rfl
    subst hv
    clear hl1 hl2
    go_enter Tryd.func17, Tryd.ntmps17
    go_wp2_with fail
    refine (m1.out _).mono ?_
    rintro e1 w1 ⟨rfl, hb1⟩
    go_wp2
    go_ret
    exact ⟨rfl, hb0.out.trans (hb1.mono (by simp))⟩
  | true =>
  rw [Bool.true_and] at hv
  have next : ∀ w1, Below (w.alloc (.cells #[.int .i64 a, .int .i64 b, .int .i64 c, .int .i64 d, .int .i64 e, .int .i64 f, .int .i64 g, .int .i64 h, .slice A n cp] 37)).heap.size (w.alloc (.cells #[.int .i64 a, .int .i64 b, .int .i64 c, .int .i64 d, .int .i64 e, .int .i64 f, .int .i64 g, .int .i64 h, .slice A n cp] 37)) w1 → Whole w1 w.heap.size 37 #[.int .i64 a, .int .i64 b, .int .i64 c, .int .i64 d, .int .i64 e, .int .i64 f, .int .i64 g, .int .i64 h, .slice A n cp] ∧ Below w.heap.size w w1 := fun w1 hb1 =>
    ⟨hW0.out.below hb1 (by simp), hb0.out.trans (hb1.mono (by simp))⟩
  have past : ∀ w1 w2, Whole w1 w.heap.size 37 #[.int .i64 a, .int .i64 b, .int .i64 c, .int .i64 d, .int .i64 e, .int .i64 f, .int .i64 g, .int .i64 h, .slice A n cp] → Below w.heap.size w w1 → Below w1.heap.size w1 w2 → Whole w2 w.heap.size 37 #[.int .i64 a, .int .i64 b, .int .i64 c, .int .i64 d, .int .i64 e, .int .i64 f, .int .i64 g, .int .i64 h, .slice A n cp] ∧ Below w.heap.size w w2 := fun w1 w2 hc hb1 hb2 =>
    ⟨hc.below hb2 hc.lt, hb1.trans (hb2.mono hb1.size)⟩
  replace next := Lib.hid next
  replace past := Lib.hid past
  cases l2 with
  | false =>
    have hv : v = false := by rw [← hv]; rfl
    subst hv
    clear hl1 hl2
    go_enter Tryd.func17, Tryd.ntmps17
    go_wp2_with fail
    refine (m1.out _).mono ?_
    rintro e1 w1 ⟨rfl, hb1⟩
    obtain ⟨hW1, hb2⟩ := next.out _ hb1

    have y4 : w1.cell? ⟨w.heap.size, 4, none⟩ = some (.int .i64 e) := by simpa using hW1.cell 4
    have y5 : w1.cell? ⟨w.heap.size, 5, none⟩ = some (.int .i64 f) := by simpa using hW1.cell 5
    have y6 : w1.cell? ⟨w.heap.size, 6, none⟩ = some (.int .i64 g) := by simpa using hW1.cell 6
    have y7 : w1.cell? ⟨w.heap.size, 7, none⟩ = some (.int .i64 h) := by simpa using hW1.cell 7
    clear hW1
    go_wp2_with fail
    refine (m2.out _).mono ?_
    rintro e1 w2 ⟨rfl, hb3⟩
    go_wp2
    go_ret
    exact ⟨rfl, hb2.trans (hb3.mono hb2.size)⟩
  | true =>
  rw [Bool.true_and] at hv
  by_cases hn1 : n < 1
  · have hv : v = false := by rw [← hv, decide_eq_false (by omega)]; rfl
    subst hv
    have hn1' : (n : Int) < 1 := by omega
    clear hl1 hl2
    go_enter Tryd.func17, Tryd.ntmps17
    go_wp2_with fail
    refine (m1.out _).mono ?_
    rintro e1 w1 ⟨rfl, hb1⟩
    obtain ⟨hW1, hb2⟩ := next.out _ hb1
    have y4 : w1.cell? ⟨w.heap.size, 4, none⟩ = some (.int .i64 e) := by simpa using hW1.cell 4
    have y5 : w1.cell? ⟨w.heap.size, 5, none⟩ = some (.int .i64 f) := by simpa using hW1.cell 5
    have y6 : w1.cell? ⟨w.heap.size, 6, none⟩ = some (.int .i64 g) := by simpa using hW1.cell 6
    have y7 : w1.cell? ⟨w.heap.size, 7, none⟩ = some (.int .i64 h) := by simpa using hW1.cell 7
    go_wp2_with fail
    refine (m2.out _).mono ?_
    rintro e1 w2 ⟨rfl, hb3⟩
    obtain ⟨hW2, hb4⟩ := past.out _ _ hW1 hb2 hb3
    have y8 : w2.cell? ⟨w.heap.size, 8, none⟩ = some (.slice A n cp) := by simpa using hW2.cell 8
    clear hW1 hW2
    go_wp2
    go_ret
    exact ⟨rfl, hb4⟩
  have hn1' : ¬ (n : Int) < 1 := by omega
  by_cases hn8 : 8 < n
  · have hv : v = false := by rw [← hv, decide_eq_false (by omega)]; rfl
    subst hv
    have hn8' : (8 : Int) < n := by omega
    clear hl1 hl2
    go_enter Tryd.func17, Tryd.ntmps17
    go_wp2_with fail
    refine (m1.out _).mono ?_
    rintro e1 w1 ⟨rfl, hb1⟩
    obtain ⟨hW1, hb2⟩ := next.out _ hb1
    have y4 : w1.cell? ⟨w.heap.size, 4, none⟩ = some (.int .i64 e) := by simpa using hW1.cell 4
    have y5 : w1.cell? ⟨w.heap.size, 5, none⟩ = some (.int .i64 f) := by simpa using hW1.cell 5
    have y6 : w1.cell? ⟨w.heap.size, 6, none⟩ = some (.int .i64 g) := by simpa using hW1.cell 6
    have y7 : w1.cell? ⟨w.heap.size, 7, none⟩ = some (.int .i64 h) := by simpa using hW1.cell 7
    go_wp2_with fail
    refine (m2.out _).mono ?_
    rintro e1 w2 ⟨rfl, hb3⟩
    obtain ⟨hW2, hb4⟩ := past.out _ _ hW1 hb2 hb3
    have y8 : w2.cell? ⟨w.heap.size, 8, none⟩ = some (.slice A n cp) := by simpa using hW2.cell 8
    clear hW1 hW2
    go_wp2
    go_ret
    exact ⟨rfl, hb4⟩
  have hn8' : ¬ (8 : Int) < n := by omega
  rw [decide_eq_true (show 1 ≤ n ∧ n ≤ 8 by omega), Bool.true_and] at hv
  replace hv := Lib.hid hv
  have hsta := fun W hW hb => l04Stations_any a b c d e f g h _ _ _ _ A n cp B M hl1 hl2 rfl rfl rfl rfl W hW hb (by omega)
  replace hsta := Lib.hid hsta
  clear hl1 hl2
  go_enter Tryd.func17, Tryd.ntmps17
  go_wp2_with fail
  refine (m1.out _).mono ?_
  rintro e1 w1 ⟨rfl, hb1⟩
  obtain ⟨hW1, hb2⟩ := next.out _ hb1
  have y4 : w1.cell? ⟨w.heap.size, 4, none⟩ = some (.int .i64 e) := by simpa using hW1.cell 4
  have y5 : w1.cell? ⟨w.heap.size, 5, none⟩ = some (.int .i64 f) := by simpa using hW1.cell 5
  have y6 : w1.cell? ⟨w.heap.size, 6, none⟩ = some (.int .i64 g) := by simpa using hW1.cell 6
  have y7 : w1.cell? ⟨w.heap.size, 7, none⟩ = some (.int .i64 h) := by simpa using hW1.cell 7
  go_wp2_with fail
  refine (m2.out _).mono ?_
  rintro e1 w2 ⟨rfl, hb3⟩
  obtain ⟨hW2, hb4⟩ := past.out _ _ hW1 hb2 hb3
  have y8 : w2.cell? ⟨w.heap.size, 8, none⟩ = some (.slice A n cp) := by simpa using hW2.cell 8
  clear hW1 hb2 hb3 y4 y5 y6 y7 next
  replace hW2 := Lib.hid hW2
  replace hb4 := Lib.hid hb4
  go_wp2_with fail
  clear y8
  go_loopw [4] (fun v4 wr => ∃ k : Nat, k ≤ n ∧ v4 = .int .i64 k ∧ Hid (allM M k = true) ∧ Hid (Whole wr w.heap.size 37 #[.int .i64 a, .int .i64 b, .int .i64 c, .int .i64 d, .int .i64 e, .int .i64 f, .int .i64 g, .int .i64 h, .slice A n cp]) ∧ Hid (Below w.heap.size w wr)) (fun v4 _ => (n - intOf v4).toNat)
  case atStart => exact ⟨0, by omega, rfl, Lib.hid rfl, hW2, hb4⟩
  case round =>
    obtain ⟨k, hk, rfl, hall, hW, hbel⟩ := hrel
    have hsz := hbel.out.size
    clear hW2 hb4
    by_cases h1 : k < n
    · obtain ⟨b', o, rfl, hbB, hcode⟩ := hx.out (by omega)
      obtain ⟨g0, g1, g2, g3, g4⟩ := hcode k h1
      rw [← hbel.out.cell (by simp; omega)] at g0 g1 g2 g3 g4
      have hb2l : b' < wr.heap.size := by omega
      clear hcode
      have hok : okM M k = (markB (M k).S (M k).x (M k).y (M k).s (M k).z && !hasN M (M k).S k) := rfl
      have hno := allM_no (M := M) (i := k)
      have hstp : allM M (k + 1) = (allM M k && okM M k) := rfl
      rw [hall.out, Bool.true_and] at hstp
      obtain ⟨fi, fr, hF⟩ := fst_ex M (M k).S n
      have hge := fst_ne hF h1
      have hname := fun W hW hb => l04Named_any a b c d e f g h (some ⟨b', o, none⟩) n cp B M (M k).S fi fr hF W hW hb (by omega)
      obtain ⟨mb, hmb⟩ : ∃ mb, markB (M k).S (M k).x (M k).y (M k).s (M k).z = mb := ⟨_, rfl⟩
      have hmark := fun W => l04Mark_any (M k).S (M k).x (M k).y (M k).s (M k).z mb hmb W
      rw [hmb] at hok
      clear hF hmb
      generalize hasN M (M k).S k = hv2 at *
      generalize (M k).S = T at *
      generalize (M k).x = x at *
      generalize (M k).y = y at *
      generalize (M k).s = s at *
      generalize (M k).z = z at *
      have C0 : ∀ u : Over wr, u.w.cell? ⟨b', o + k * 5, none⟩ = some (.string T) := fun u => u.cell hb2l g0
      have C1 : ∀ u : Over wr, u.w.cell? ⟨b', o + k * 5 + 1, none⟩ = some (.int .i64 x) := fun u => u.cell hb2l g1
      have C2 : ∀ u : Over wr, u.w.cell? ⟨b', o + k * 5 + 2, none⟩ = some (.int .i64 y) := fun u => u.cell hb2l g2
      have C3 : ∀ u : Over wr, u.w.cell? ⟨b', o + k * 5 + 3, none⟩ = some (.int .i64 s) := fun u => u.cell hb2l g3
      have C4 : ∀ u : Over wr, u.w.cell? ⟨b', o + k * 5 + 4, none⟩ = some (.int .i64 z) := fun u => u.cell hb2l g4
      have D0 : ∀ u : Over wr, u.w.cell? ⟨w.heap.size, 0, none⟩ = some (.int .i64 a) := fun u => u.cell hW.out.lt (by simpa using hW.out.cell 0)
      have D1 : ∀ u : Over wr, u.w.cell? ⟨w.heap.size, 1, none⟩ = some (.int .i64 b) := fun u => u.cell hW.out.lt (by simpa using hW.out.cell 1)
      have D2 : ∀ u : Over wr, u.w.cell? ⟨w.heap.size, 2, none⟩ = some (.int .i64 c) := fun u => u.cell hW.out.lt (by simpa using hW.out.cell 2)
      have D3 : ∀ u : Over wr, u.w.cell? ⟨w.heap.size, 3, none⟩ = some (.int .i64 d) := fun u => u.cell hW.out.lt (by simpa using hW.out.cell 3)
      have D4 : ∀ u : Over wr, u.w.cell? ⟨w.heap.size, 4, none⟩ = some (.int .i64 e) := fun u => u.cell hW.out.lt (by simpa using hW.out.cell 4)
      have D5 : ∀ u : Over wr, u.w.cell? ⟨w.heap.size, 5, none⟩ = some (.int .i64 f) := fun u => u.cell hW.out.lt (by simpa using hW.out.cell 5)
      have D6 : ∀ u : Over wr, u.w.cell? ⟨w.heap.size, 6, none⟩ = some (.int .i64 g) := fun u => u.cell hW.out.lt (by simpa using hW.out.cell 6)
      have D7 : ∀ u : Over wr, u.w.cell? ⟨w.heap.size, 7, none⟩ = some (.int .i64 h) := fun u => u.cell hW.out.lt (by simpa using hW.out.cell 7)
      have D8 : ∀ u : Over wr, u.w.cell? ⟨w.heap.size, 8, none⟩ = some (.slice (some ⟨b', o, none⟩) n cp) := fun u => u.cell hW.out.lt (by simpa using hW.out.cell 8)
      have hna : ∀ u : Over wr, Calls Tryd.prog 31 #[.agg #[.int .i64 a, .int .i64 b, .int .i64 c, .int .i64 d, .int .i64 e, .int .i64 f, .int .i64 g, .int .i64 h, .slice (some ⟨b', o, none⟩) n cp], .string T] u.w fun e w' => e = .returned (.int .i64 fr) ∧ Below u.w.heap.size u.w w' := fun u =>
        hname u.w (hx.out.below ((hbel.out.trans (u.ok.mono (by omega))).mono hB)) (by have := u.ok.size; omega)
      have hend : ∀ u : Over wr, Whole u.w w.heap.size 37 #[.int .i64 a, .int .i64 b, .int .i64 c, .int .i64 d, .int .i64 e, .int .i64 f, .int .i64 g, .int .i64 h, .slice (some ⟨b', o, none⟩) n cp] ∧ Below w.heap.size w u.w := fun u =>
        ⟨hW.out.below u.ok hW.out.lt, hbel.out.trans (u.ok.mono (by omega))⟩
      replace hna := Lib.hid hna
      replace hend := Lib.hid hend
      replace hmark := Lib.hid hmark
      replace hno := Lib.hid hno
      clear hname g0 g1 g2 g3 g4
      cases mb with
      | false =>
        have hv3 : v = false := by rw [← hv.out, hno.out (by rw [hok]; rfl) n h1]; rfl
        subst hv3
        clear hok hstp
        go_wp2_with fail
        refine wp_region_over (by kernel_rfl) (by kernel_rfl) ?_
        repeat (go_big_quiet_step (first | (go_at_call 30; exact over_call (hmark.out _)) | (go_at_call 31; exact over_call (hna.out _))))
        refine wpQuiet_nil ?_
        rintro _ ⟨u, rfl⟩
        clear C0 C1 C2 C3 C4 D0 D1 D2 D3 D4 D5 D6 D7 D8
        go_wp2
        go_ret
        exact ⟨rfl, (hend.out u).2⟩
      | true =>
        rw [Bool.true_and] at hok
        cases hv2 with
        | true =>
          have hv3 : v = false := by rw [← hv.out, hno.out (by rw [hok]; rfl) n h1]; rfl
          subst hv3
          clear hok hstp
          go_wp2_with fail
          refine wp_region_over (by kernel_rfl) (by kernel_rfl) ?_
          repeat (go_big_quiet_step (first | (go_at_call 30; exact over_call (hmark.out _)) | (go_at_call 31; exact over_call (hna.out _))))
          refine wpQuiet_nil ?_
          rintro _ ⟨u, rfl⟩
          clear C0 C1 C2 C3 C4 D0 D1 D2 D3 D4 D5 D6 D7 D8
          go_wp2
          go_ret
          exact ⟨rfl, (hend.out u).2⟩
        | false =>
          have hall2 : Hid (allM M (k + 1) = true) := Lib.hid (by rw [hstp, hok]; rfl)
          clear hok hstp
          go_wp2_with fail
          refine wp_region_over (by kernel_rfl) (by kernel_rfl) ?_
          repeat (go_big_quiet_step (first | (go_at_call 30; exact over_call (hmark.out _)) | (go_at_call 31; exact over_call (hna.out _))))
          refine wpQuiet_nil ?_
          rintro _ ⟨u, rfl⟩
          clear C0 C1 C2 C3 C4 D0 D1 D2 D3 D4 D5 D6 D7 D8
          go_wp2
          go_roundw
          case rel => exact ⟨k + 1, by omega, by go_num, hall2, Lib.hid (hend.out u).1, Lib.hid (hend.out u).2⟩
          case measure => simp [intOf]; omega
    · obtain rfl : k = n := by omega
      have hv := hv.out
      rw [hall.out, Bool.true_and] at hv
      replace hv := Lib.hid hv
      clear hall
      have y0 : wr.cell? ⟨w.heap.size, 0, none⟩ = some (.int .i64 a) := by simpa using hW.out.cell 0
      have y1 : wr.cell? ⟨w.heap.size, 1, none⟩ = some (.int .i64 b) := by simpa using hW.out.cell 1
      have y2 : wr.cell? ⟨w.heap.size, 2, none⟩ = some (.int .i64 c) := by simpa using hW.out.cell 2
      have y3 : wr.cell? ⟨w.heap.size, 3, none⟩ = some (.int .i64 d) := by simpa using hW.out.cell 3
      have y4 : wr.cell? ⟨w.heap.size, 4, none⟩ = some (.int .i64 e) := by simpa using hW.out.cell 4
      have y5 : wr.cell? ⟨w.heap.size, 5, none⟩ = some (.int .i64 f) := by simpa using hW.out.cell 5
      have y6 : wr.cell? ⟨w.heap.size, 6, none⟩ = some (.int .i64 g) := by simpa using hW.out.cell 6
      have y7 : wr.cell? ⟨w.heap.size, 7, none⟩ = some (.int .i64 h) := by simpa using hW.out.cell 7
      have y8 : wr.cell? ⟨w.heap.size, 8, none⟩ = some (.slice A k cp) := by simpa using hW.out.cell 8
      have hxr := hx.out.below (hbel.out.mono hB)
      replace hxr := Lib.hid hxr
      go_wp2_with fail
      refine (hsta.out wr hxr.out (by omega)).mono ?_
      rintro e1 w3 ⟨A2, c2, rfl, hown, hb3⟩
      obtain ⟨g2, cur, rfl, hg2, hW2, hc2, hcm2, hcur⟩ := sta_open hown (by omega)
      have hbel3 := hbel.out.trans (hb3.mono hsz)
      have hz3 := hb3.size
      have hg2l := hW2.lt
      have hcur2 : ∀ j, j < (k + 2) * 2 → cur[j]? = some (.int .i64 (stF a b c d e f g h k M j)) := hcur
      clear hcur y0 y1 y2 y3 y4 y5 y6 y7 y8 hown hbel hW
      have hv := hv.out
      generalize stF a b c d e f g h k M = xs at hcur2 hv
      replace hv := Lib.hid hv
      replace hcur2 := Lib.hid hcur2
      replace hW2 := Lib.hid hW2
      replace hbel3 := Lib.hid hbel3
      simp only [maxLen] at hcm2
      go_wp2_with fail
      go_loopw [6] (fun v6 wx => ∃ j : Nat, 1 ≤ j ∧ j ≤ k + 2 ∧ v6 = .int .i64 j ∧ Hid (difB xs j = true) ∧ Hid (Below w3.heap.size w3 wx)) (fun v6 _ => (k + 2 - intOf v6).toNat)
      case atStart => exact ⟨1, by omega, by omega, rfl, Lib.hid rfl, Lib.hid (Below.refl _ _)⟩
      case round =>
        obtain ⟨j, hj1, hjn, rfl, hdif, hbx⟩ := hrel
        by_cases hlt : j < k + 2
        · obtain ⟨j, rfl⟩ : ∃ k', j = k' + 1 := ⟨j - 1, by omega⟩
          clear hj1
          have hwr : IntKind.i64.wrap (j : Int) = j := IntWalk.i64_in _ (by omega)
          have hWx := hW2.out.below hbx.out hg2l
          have y0 : wr.cell? ⟨g2, (j + 1) * 2, none⟩ = some (.int .i64 (xs ((j + 1) * 2))) := (hWx.cell _).trans (hcur2.out _ (by omega))
          have y1 : wr.cell? ⟨g2, (j + 1) * 2 + 1, none⟩ = some (.int .i64 (xs ((j + 1) * 2 + 1))) := (hWx.cell _).trans (hcur2.out _ (by omega))
          have y2 : wr.cell? ⟨g2, j * 2, none⟩ = some (.int .i64 (xs (j * 2))) := (hWx.cell _).trans (hcur2.out _ (by omega))
          have y3 : wr.cell? ⟨g2, j * 2 + 1, none⟩ = some (.int .i64 (xs (j * 2 + 1))) := (hWx.cell _).trans (hcur2.out _ (by omega))
          have hs : samP xs (j + 1) = (xs (j * 2) == xs ((j + 1) * 2) && xs (j * 2 + 1) == xs ((j + 1) * 2 + 1)) := by
            show (xs ((j + 1) * 2) == xs (j * 2) && xs ((j + 1) * 2 + 1) == xs (j * 2 + 1)) = _
            rw [show (xs ((j + 1) * 2) == xs (j * 2)) = (xs (j * 2) == xs ((j + 1) * 2)) from BEq.comm, show (xs ((j + 1) * 2 + 1) == xs (j * 2 + 1)) = (xs (j * 2 + 1) == xs ((j + 1) * 2 + 1)) from BEq.comm]
          have hop := fun W => eqPt (xs (j * 2)) (xs (j * 2 + 1)) (xs ((j + 1) * 2)) (xs ((j + 1) * 2 + 1)) W
          rw [← hs] at hop
          have hst : difB xs (j + 1 + 1) = (difB xs (j + 1) && (decide (j + 1 = 0) || !samP xs (j + 1))) := rfl
          have hno := difB_no (xs := xs) (i := j + 1) (by omega)
          rw [hdif.out] at hst
          generalize xs ((j + 1) * 2) = a1 at *
          generalize xs ((j + 1) * 2 + 1) = b1 at *
          generalize xs (j * 2) = c1 at *
          generalize xs (j * 2 + 1) = d1 at *
          generalize samP xs (j + 1) = sv at *
          clear hs
          replace hst := Lib.hid hst
          replace hno := Lib.hid hno
          have hgl := Lib.hid hWx.lt
          have z0 : ∀ u : Over wr, u.w.cell? ⟨g2, (j + 1) * 2, none⟩ = some (.int .i64 a1) := fun u => u.cell hgl.out y0
          have z1 : ∀ u : Over wr, u.w.cell? ⟨g2, (j + 1) * 2 + 1, none⟩ = some (.int .i64 b1) := fun u => u.cell hgl.out y1
          have z2 : ∀ u : Over wr, u.w.cell? ⟨g2, j * 2, none⟩ = some (.int .i64 c1) := fun u => u.cell hgl.out y2
          have z3 : ∀ u : Over wr, u.w.cell? ⟨g2, j * 2 + 1, none⟩ = some (.int .i64 d1) := fun u => u.cell hgl.out y3
          have hend : ∀ u : Over wr, Below w3.heap.size w3 u.w := fun u => hbx.out.trans (u.ok.mono hbx.out.size)
          replace hend := Lib.hid hend
          clear y0 y1 y2 y3 hWx
          cases sv with
          | false =>
            go_wp2_with fail
            refine wp_region_over (by kernel_rfl) (by kernel_rfl) ?_
            repeat (go_big_quiet_step (fail))
            refine wpQuiet_nil ?_
            rintro _ ⟨u, rfl⟩
            clear z0 z1 z2 z3 hop
            go_wp2
            go_roundw
            case rel => exact ⟨j + 2, by omega, by omega, by go_num, Lib.hid (by rw [hst.out]; simp), Lib.hid (hend.out u)⟩
            case measure => simp [intOf]; omega
          | true =>
            have hvf : v = false := by rw [← hv.out]; exact hno.out rfl (k + 2) (by omega)
            subst hvf
            go_wp2_with fail
            refine wp_region_over (by kernel_rfl) (by kernel_rfl) ?_
            repeat (go_big_quiet_step (fail))
            refine wpQuiet_nil ?_
            rintro _ ⟨u, rfl⟩
            clear z0 z1 z2 z3 hop
            go_wp2
            go_ret
            exact ⟨rfl, hbel3.out.trans ((hend.out u).mono hbel3.out.size)⟩
        · obtain rfl : j = k + 2 := by omega
          have hvt : v = true := by rw [← hv.out, hdif.out]
          subst hvt
          go_wp2
          go_ret
          exact ⟨rfl, hbel3.out.trans (hbx.out.mono hbel3.out.size)⟩
end Go.Proofs.YtfllbhgngolfnaaDoor
