/- IsCourse: the program's and the reference's. -/
import Derived.Test.YtfllbhgngolfnaaDoorCmp
set_option linter.unusedSimpArgs false
set_option linter.unusedVariables false
namespace Go.Proofs.YtfllbhgngolfnaaDoor
open Go.RowKit

def okM (M : Nat → MkV) (k : Nat) : Bool := markB (M k).S (M k).x (M k).y (M k).s (M k).z && !hasN M (M k).S k
def allM (M : Nat → MkV) : Nat → Bool
  | 0 => true
  | k + 1 => allM M k && okM M k
theorem allM_no {M : Nat → MkV} {i : Nat} (h : okM M i = false) : ∀ k, i < k → allM M k = false := by
  intro k
  induction k with
  | zero => intro h; omega
  | succ k ih =>
    intro h1
    unfold allM
    by_cases e : i = k
    · subst e; simp [h]
    · rw [ih (by omega)]; rfl
/-- The stations of a course, by place. -/
def stF (a b c d e f g h : Int) (n : Nat) (M : Nat → MkV) (j : Nat) : Int := (stL ((a + c) / 2) ((b + d) / 2) M n ((e + g) / 2) ((f + h) / 2)).getD j 0
/-- What is a course. -/
def crsB (a b c d e f g h : Int) (n : Nat) (M : Nat → MkV) : Bool := lnB a b c d && (lnB e f g h && (decide (1 ≤ n ∧ n ≤ 8) && (allM M n && difB (stF a b c d e f g h n M) (n + 2))))
theorem stI_len (M : Nat → MkV) : ∀ n, (stI M n).length = n * 2
  | 0 => rfl
  | n + 1 => by unfold stI; rw [List.length_append, stI_len M n]; simp; omega
theorem stL_len (p q : Int) (M : Nat → MkV) (n : Nat) (r s : Int) : (stL p q M n r s).length = (n + 2) * 2 := by
  unfold stL; simp [stI_len]; omega
/-- The stations as they lie in a row of the call's own. -/
theorem sta_open {w : World} {base m : Nat} {A : Option Addr} {cp : Nat} {L : List Int} (h : w.ownsRow base 32 2 (.slice A m cp) m (L.map (Value.int .i64))) (hm : 0 < m) :
    ∃ g cur, A = some ⟨g, 0, none⟩ ∧ base ≤ g ∧ Whole w g 32 cur ∧ m ≤ cp ∧ cp ≤ maxLen ∧ ∀ j, j < m * 2 → cur[j]? = some (.int .i64 (L.getD j 0)) := by
  obtain ⟨g, cap, cur, e, hg, hW, h1, h2, h3, h4⟩ := own_open h hm
  injection e with e1 e2 e3
  subst e1 e3
  refine ⟨g, cur, rfl, hg, hW, h1, h2, fun j hj => h4 j _ ?_⟩
  obtain ⟨hl, hc⟩ := cells_of h
  exact hc j hj

set_option maxRecDepth 100000 in
set_option maxHeartbeats 8000000 in
theorem isCourse_any (a b c d e f g h : Int) (A : Option Addr) (n cp B : Nat) (M : Nat → MkV) (v : Bool) (hv : crsB a b c d e f g h n M = v) (w : World) (hx : Mks w B A n M) (hB : B ≤ w.heap.size) (hn : n ≤ 1048576) (hcp : n ≤ cp) :
    Calls Tryd.prog 23 #[.agg #[.int .i64 a, .int .i64 b, .int .i64 c, .int .i64 d, .int .i64 e, .int .i64 f, .int .i64 g, .int .i64 h, .slice A n cp]] w fun e w' => e = .returned (.bool v) ∧ Below w.heap.size w w' := by
  have hb0 := (Below.refl w.heap.size w).alloc (Nat.le_refl _) (.cells #[.int .i64 a, .int .i64 b, .int .i64 c, .int .i64 d, .int .i64 e, .int .i64 f, .int .i64 g, .int .i64 h, .slice A n cp] 37)
  have hW0 := Whole.new w 37 #[.int .i64 a, .int .i64 b, .int .i64 c, .int .i64 d, .int .i64 e, .int .i64 f, .int .i64 g, .int .i64 h, .slice A n cp]
  replace hb0 := Lib.hid hb0
  replace hW0 := Lib.hid hW0
  replace hx := Lib.hid hx
  unfold crsB at hv
  obtain ⟨l1, hl1⟩ : ∃ l1, lnB a b c d = l1 := ⟨_, rfl⟩
  obtain ⟨l2, hl2⟩ : ∃ l2, lnB e f g h = l2 := ⟨_, rfl⟩
  have m1 := fun W => isLine_any a b c d l1 hl1 W
  have m2 := fun W => isLine_any e f g h l2 hl2 W
  rw [hl1, hl2] at hv
  replace m1 := Lib.hid m1
  replace m2 := Lib.hid m2
  cases l1 with
  | false =>
    have hv : v = false := by rw [← hv]; rfl
    subst hv
    clear hl1 hl2
    go_enter Tryd.func23, Tryd.ntmps23
    go_wp2_with fail
    refine (m1.out _).mono ?_
    rintro e1 w1 ⟨rfl, hb1⟩
    go_wp2
    go_ret
    exact ⟨rfl, hb0.out.trans (hb1.mono (by simp))⟩
  | true =>
  rw [Bool.true_and] at hv
  have next : ∀ w1, Below (w.alloc (.cells #[.int .i64 a, .int .i64 b, .int .i64 c, .int .i64 d, .int .i64 e, .int .i64 f, .int .i64 g, .int .i64 h, .slice A n cp] 37)).heap.size (w.alloc (.cells #[.int .i64 a, .int .i64 b, .int .i64 c, .int .i64 d, .int .i64 e, .int .i64 f, .int .i64 g, .int .i64 h, .slice A n cp] 37)) w1 → Whole w1 w.heap.size 37 #[.int .i64 a, .int .i64 b, .int .i64 c, .int .i64 d, .int .i64 e, .int .i64 f, .int .i64 g, .int .i64 h, .slice A n cp] ∧ Below w.heap.size w w1 := fun w1 hb1 =>
    ⟨hW0.out.below hb1 (by simp), hb0.out.trans (hb1.mono (by simp))⟩
  have past : ∀ w1 w2, Whole w1 w.heap.size 37 #[.int .i64 a, .int .i64 b, .int .i64 c, .int .i64 d, .int .i64 e, .int .i64 f, .int .i64 g, .int .i64 h, .slice A n cp] → Below w.heap.size w w1 → Below w1.heap.size w1 w2 → Whole w2 w.heap.size 37 #[.int .i64 a, .int .i64 b, .int .i64 c, .int .i64 d, .int .i64 e, .int .i64 f, .int .i64 g, .int .i64 h, .slice A n cp] ∧ Below w.heap.size w w2 := fun w1 w2 hc hb1 hb2 =>
    ⟨hc.below hb2 hc.lt, hb1.trans (hb2.mono hb1.size)⟩
  replace next := Lib.hid next
  replace past := Lib.hid past
  cases l2 with
  | false =>
    have hv : v = false := by rw [← hv]; rfl
    subst hv
    clear hl1 hl2
    go_enter Tryd.func23, Tryd.ntmps23
    go_wp2_with fail
    refine (m1.out _).mono ?_
    rintro e1 w1 ⟨rfl, hb1⟩
    obtain ⟨hW1, hb2⟩ := next.out _ hb1

    have y4 : w1.cell? ⟨w.heap.size, 4, none⟩ = some (.int .i64 e) := by simpa using hW1.cell 4
    have y5 : w1.cell? ⟨w.heap.size, 5, none⟩ = some (.int .i64 f) := by simpa using hW1.cell 5
    have y6 : w1.cell? ⟨w.heap.size, 6, none⟩ = some (.int .i64 g) := by simpa using hW1.cell 6
    have y7 : w1.cell? ⟨w.heap.size, 7, none⟩ = some (.int .i64 h) := by simpa using hW1.cell 7
    clear hW1
    go_wp2_with fail
    refine (m2.out _).mono ?_
    rintro e1 w2 ⟨rfl, hb3⟩
    go_wp2
    go_ret
    exact ⟨rfl, hb2.trans (hb3.mono hb2.size)⟩
  | true =>
  rw [Bool.true_and] at hv
  by_cases hn1 : n < 1
  · have hv : v = false := by rw [← hv, decide_eq_false (by omega)]; rfl
    subst hv
    have hn1' : (n : Int) < 1 := by omega
    clear hl1 hl2
    go_enter Tryd.func23, Tryd.ntmps23
    go_wp2_with fail
    refine (m1.out _).mono ?_
    rintro e1 w1 ⟨rfl, hb1⟩
    obtain ⟨hW1, hb2⟩ := next.out _ hb1
    have y4 : w1.cell? ⟨w.heap.size, 4, none⟩ = some (.int .i64 e) := by simpa using hW1.cell 4
    have y5 : w1.cell? ⟨w.heap.size, 5, none⟩ = some (.int .i64 f) := by simpa using hW1.cell 5
    have y6 : w1.cell? ⟨w.heap.size, 6, none⟩ = some (.int .i64 g) := by simpa using hW1.cell 6
    have y7 : w1.cell? ⟨w.heap.size, 7, none⟩ = some (.int .i64 h) := by simpa using hW1.cell 7
    go_wp2_with fail
    refine (m2.out _).mono ?_
    rintro e1 w2 ⟨rfl, hb3⟩
    obtain ⟨hW2, hb4⟩ := past.out _ _ hW1 hb2 hb3
    have y8 : w2.cell? ⟨w.heap.size, 8, none⟩ = some (.slice A n cp) := by simpa using hW2.cell 8
    clear hW1 hW2
    go_wp2
    go_ret
    exact ⟨rfl, hb4⟩
  have hn1' : ¬ (n : Int) < 1 := by omega
  by_cases hn8 : 8 < n
  · have hv : v = false := by rw [← hv, decide_eq_false (by omega)]; rfl
    subst hv
    have hn8' : (8 : Int) < n := by omega
    clear hl1 hl2
    go_enter Tryd.func23, Tryd.ntmps23
    go_wp2_with fail
    refine (m1.out _).mono ?_
    rintro e1 w1 ⟨rfl, hb1⟩
    obtain ⟨hW1, hb2⟩ := next.out _ hb1
    have y4 : w1.cell? ⟨w.heap.size, 4, none⟩ = some (.int .i64 e) := by simpa using hW1.cell 4
    have y5 : w1.cell? ⟨w.heap.size, 5, none⟩ = some (.int .i64 f) := by simpa using hW1.cell 5
    have y6 : w1.cell? ⟨w.heap.size, 6, none⟩ = some (.int .i64 g) := by simpa using hW1.cell 6
    have y7 : w1.cell? ⟨w.heap.size, 7, none⟩ = some (.int .i64 h) := by simpa using hW1.cell 7
    go_wp2_with fail
    refine (m2.out _).mono ?_
    rintro e1 w2 ⟨rfl, hb3⟩
    obtain ⟨hW2, hb4⟩ := past.out _ _ hW1 hb2 hb3
    have y8 : w2.cell? ⟨w.heap.size, 8, none⟩ = some (.slice A n cp) := by simpa using hW2.cell 8
    clear hW1 hW2
    go_wp2
    go_ret
    exact ⟨rfl, hb4⟩
  have hn8' : ¬ (8 : Int) < n := by omega
  rw [decide_eq_true (show 1 ≤ n ∧ n ≤ 8 by omega), Bool.true_and] at hv
  replace hv := Lib.hid hv
  have hsta := fun W hW hb => stationsOf_any a b c d e f g h _ _ _ _ A n cp B M hl1 hl2 rfl rfl rfl rfl W hW hb (by omega)
  replace hsta := Lib.hid hsta
  clear hl1 hl2
  go_enter Tryd.func23, Tryd.ntmps23
  go_wp2_with fail
  refine (m1.out _).mono ?_
  rintro e1 w1 ⟨rfl, hb1⟩
  obtain ⟨hW1, hb2⟩ := next.out _ hb1
  have y4 : w1.cell? ⟨w.heap.size, 4, none⟩ = some (.int .i64 e) := by simpa using hW1.cell 4
  have y5 : w1.cell? ⟨w.heap.size, 5, none⟩ = some (.int .i64 f) := by simpa using hW1.cell 5
  have y6 : w1.cell? ⟨w.heap.size, 6, none⟩ = some (.int .i64 g) := by simpa using hW1.cell 6
  have y7 : w1.cell? ⟨w.heap.size, 7, none⟩ = some (.int .i64 h) := by simpa using hW1.cell 7
  go_wp2_with fail
  refine (m2.out _).mono ?_
  rintro e1 w2 ⟨rfl, hb3⟩
  obtain ⟨hW2, hb4⟩ := past.out _ _ hW1 hb2 hb3
  have y8 : w2.cell? ⟨w.heap.size, 8, none⟩ = some (.slice A n cp) := by simpa using hW2.cell 8
  clear hW1 hb2 hb3 y4 y5 y6 y7 next
  replace hW2 := Lib.hid hW2
  replace hb4 := Lib.hid hb4
  go_wp2_with fail
  clear y8
  go_loopw [3, 4, 31] (fun v3 v4 v31 wr => ∃ k : Nat, k ≤ n ∧ v31 = .int .i64 k ∧ Hid (allM M k = true) ∧ Hid (Whole wr w.heap.size 37 #[.int .i64 a, .int .i64 b, .int .i64 c, .int .i64 d, .int .i64 e, .int .i64 f, .int .i64 g, .int .i64 h, .slice A n cp]) ∧ Hid (Below w.heap.size w wr)) (fun v3 v4 v31 _ => (n - intOf v31).toNat)
  case atStart => exact ⟨0, by omega, rfl, Lib.hid rfl, hW2, hb4⟩
  case round =>
    obtain ⟨k, hk, rfl, hall, hW, hbel⟩ := hrel
    have y8 : wr.cell? ⟨w.heap.size, 8, none⟩ = some (.slice A n cp) := by simpa using hW.out.cell 8
    have hsz := hbel.out.size
    clear hW2 hb4
    by_cases h1 : k < n
    · obtain ⟨b', o, rfl, hbB, hcode⟩ := hx.out (by omega)
      obtain ⟨g0, g1, g2, g3, g4⟩ := hcode k h1
      rw [← hbel.out.cell (by simp; omega)] at g0 g1 g2 g3 g4
      have hb2l : b' < wr.heap.size := by omega
      clear hcode
      have hok : okM M k = (markB (M k).S (M k).x (M k).y (M k).s (M k).z && !hasN M (M k).S k) := rfl
      have hno := allM_no (M := M) (i := k)
      have hstp : allM M (k + 1) = (allM M k && okM M k) := rfl
      rw [hall.out, Bool.true_and] at hstp
      obtain ⟨fi, fr, hF⟩ := fst_ex M (M k).S k
      have hge := fst_ge hF
      have hname := fun W hW hb => markNamed_any (some ⟨b', o, none⟩) k cp B M (M k).S fi fr hF W hW hb (by omega)
      obtain ⟨mb, hmb⟩ : ∃ mb, markB (M k).S (M k).x (M k).y (M k).s (M k).z = mb := ⟨_, rfl⟩
      have hmark := fun W => isMark_any (M k).S (M k).x (M k).y (M k).s (M k).z mb hmb W
      rw [hmb] at hok
      clear hF hmb
      generalize hasN M (M k).S k = hv2 at *
      generalize (M k).S = T at *
      generalize (M k).x = x at *
      generalize (M k).y = y at *
      generalize (M k).s = s at *
      generalize (M k).z = z at *
      have hN := Whole.new wr 59 #[.string T, .int .i64 x, .int .i64 y, .int .i64 s, .int .i64 z]
      have hWc := hW.out.alloc (.cells #[.string T, .int .i64 x, .int .i64 y, .int .i64 s, .int .i64 z] 59)
      have C0 : ∀ u : Over (wr.alloc (.cells #[.string T, .int .i64 x, .int .i64 y, .int .i64 s, .int .i64 z] 59)), u.w.cell? ⟨wr.heap.size, 0, none⟩ = some (.string T) := fun u => u.cell (by simp) (by simp)
      have C1 : ∀ u : Over (wr.alloc (.cells #[.string T, .int .i64 x, .int .i64 y, .int .i64 s, .int .i64 z] 59)), u.w.cell? ⟨wr.heap.size, 1, none⟩ = some (.int .i64 x) := fun u => u.cell (by simp) (by simp)
      have C2 : ∀ u : Over (wr.alloc (.cells #[.string T, .int .i64 x, .int .i64 y, .int .i64 s, .int .i64 z] 59)), u.w.cell? ⟨wr.heap.size, 2, none⟩ = some (.int .i64 y) := fun u => u.cell (by simp) (by simp)
      have C3 : ∀ u : Over (wr.alloc (.cells #[.string T, .int .i64 x, .int .i64 y, .int .i64 s, .int .i64 z] 59)), u.w.cell? ⟨wr.heap.size, 3, none⟩ = some (.int .i64 s) := fun u => u.cell (by simp) (by simp)
      have C4 : ∀ u : Over (wr.alloc (.cells #[.string T, .int .i64 x, .int .i64 y, .int .i64 s, .int .i64 z] 59)), u.w.cell? ⟨wr.heap.size, 4, none⟩ = some (.int .i64 z) := fun u => u.cell (by simp) (by simp)
      have C8 : ∀ u : Over (wr.alloc (.cells #[.string T, .int .i64 x, .int .i64 y, .int .i64 s, .int .i64 z] 59)), u.w.cell? ⟨w.heap.size, 8, none⟩ = some (.slice (some ⟨b', o, none⟩) n cp) := fun u => u.cell (by simp; omega) (by simpa using hWc.cell 8)
      have hna : ∀ u : Over (wr.alloc (.cells #[.string T, .int .i64 x, .int .i64 y, .int .i64 s, .int .i64 z] 59)), Calls Tryd.prog 37 #[.slice (some ⟨b', o, none⟩) k cp, .string T] u.w fun e w' => e = .returned (.int .i64 fr) ∧ Below u.w.heap.size u.w w' := fun u =>
        hname u.w ((hx.out.fewer (by omega)).below (hbel.out.trans ((((Below.refl _ _).alloc (Nat.le_refl _) _).trans (u.ok.mono (by simp))).mono (by omega)) |>.mono hB)) (by have := u.ok.size; simp at this; omega)
      have hend : ∀ u : Over (wr.alloc (.cells #[.string T, .int .i64 x, .int .i64 y, .int .i64 s, .int .i64 z] 59)), Whole u.w w.heap.size 37 #[.int .i64 a, .int .i64 b, .int .i64 c, .int .i64 d, .int .i64 e, .int .i64 f, .int .i64 g, .int .i64 h, .slice (some ⟨b', o, none⟩) n cp] ∧ Below w.heap.size w u.w := fun u =>
        ⟨hWc.below u.ok (by simp; omega), (hbel.out.alloc (by omega) _).trans (u.ok.mono (by simp; omega))⟩
      replace hna := Lib.hid hna
      replace hend := Lib.hid hend
      replace hmark := Lib.hid hmark
      replace hno := Lib.hid hno
      clear hN hWc hname
      cases mb with
      | false =>
        have hv3 : v = false := by rw [← hv.out, hno.out (by rw [hok]; rfl) n h1]; rfl
        subst hv3
        clear hok hstp
        go_wp2_with fail
        refine wp_region_over (by kernel_rfl) (by kernel_rfl) ?_
        repeat (go_big_quiet_step (first | (go_at_call 36; exact over_call (hmark.out _)) | (go_at_call 37; exact over_call (hna.out _))))
        refine wpQuiet_nil ?_
        rintro _ ⟨u, rfl⟩
        clear C0 C1 C2 C3 C4 C8
        go_wp2
        go_ret
        exact ⟨rfl, (hend.out u).2⟩
      | true =>
        rw [Bool.true_and] at hok
        cases hv2 with
        | true =>
          have hv3 : v = false := by rw [← hv.out, hno.out (by rw [hok]; rfl) n h1]; rfl
          subst hv3
          have hge' : (0 : Int) ≤ fr := by simpa using hge
          clear hok hstp hge
          go_wp2_with fail
          refine wp_region_over (by kernel_rfl) (by kernel_rfl) ?_
          repeat (go_big_quiet_step (first | (go_at_call 36; exact over_call (hmark.out _)) | (go_at_call 37; exact over_call (hna.out _))))
          refine wpQuiet_nil ?_
          rintro _ ⟨u, rfl⟩
          clear C0 C1 C2 C3 C4 C8
          go_wp2
          go_ret
          exact ⟨rfl, (hend.out u).2⟩
        | false =>
          have hge' : ¬ ((0 : Int) ≤ fr) := by simpa using hge
          have hall2 : Hid (allM M (k + 1) = true) := Lib.hid (by rw [hstp, hok]; rfl)
          clear hok hstp hge
          go_wp2_with fail
          refine wp_region_over (by kernel_rfl) (by kernel_rfl) ?_
          repeat (go_big_quiet_step (first | (go_at_call 36; exact over_call (hmark.out _)) | (go_at_call 37; exact over_call (hna.out _))))
          refine wpQuiet_nil ?_
          rintro _ ⟨u, rfl⟩
          clear C0 C1 C2 C3 C4 C8
          go_wp2
          go_roundw
          case rel => exact ⟨k + 1, by omega, by go_num, hall2, Lib.hid (hend.out u).1, Lib.hid (hend.out u).2⟩
          case measure => simp [intOf]; omega
    · obtain rfl : k = n := by omega
      have hv := hv.out
      rw [hall.out, Bool.true_and] at hv
      replace hv := Lib.hid hv
      clear hall
      have y0 : wr.cell? ⟨w.heap.size, 0, none⟩ = some (.int .i64 a) := by simpa using hW.out.cell 0
      have y1 : wr.cell? ⟨w.heap.size, 1, none⟩ = some (.int .i64 b) := by simpa using hW.out.cell 1
      have y2 : wr.cell? ⟨w.heap.size, 2, none⟩ = some (.int .i64 c) := by simpa using hW.out.cell 2
      have y3 : wr.cell? ⟨w.heap.size, 3, none⟩ = some (.int .i64 d) := by simpa using hW.out.cell 3
      have y4 : wr.cell? ⟨w.heap.size, 4, none⟩ = some (.int .i64 e) := by simpa using hW.out.cell 4
      have y5 : wr.cell? ⟨w.heap.size, 5, none⟩ = some (.int .i64 f) := by simpa using hW.out.cell 5
      have y6 : wr.cell? ⟨w.heap.size, 6, none⟩ = some (.int .i64 g) := by simpa using hW.out.cell 6
      have y7 : wr.cell? ⟨w.heap.size, 7, none⟩ = some (.int .i64 h) := by simpa using hW.out.cell 7
      have hxr := hx.out.below (hbel.out.mono hB)
      replace hxr := Lib.hid hxr
      go_wp2_with fail
      refine (hsta.out wr hxr.out (by omega)).mono ?_
      rintro e1 w3 ⟨A2, c2, rfl, hown, hb3⟩
      obtain ⟨g2, cur, rfl, hg2, hW2, hc2, hcm2, hcur⟩ := sta_open hown (by omega)
      have y8' : w3.cell? ⟨w.heap.size, 8, none⟩ = some (.slice A k cp) := by rw [hb3.cell (by simp; exact hW.out.lt)]; exact y8
      have hbel3 := hbel.out.trans (hb3.mono hsz)
      have hg2' : w.heap.size < g2 := Nat.lt_of_lt_of_le hW.out.lt hg2
      have hcomp := fun W hW => compact_any g2 (k + 2) c2 _ cur v hv.out W hW hcur (by omega) (by omega) hc2 hcm2
      have hz3 := hb3.size
      clear y0 y1 y2 y3 y4 y5 y6 y7 y8 hown
      go_wp2_with fail
      go_region_with (go_at_call 38; refine (hcomp _ (by first | exact hW2 | exact hW2.drew | exact hW2.drewN _)).mono ?_; rintro e1 w4 ⟨m, rfl, hm, hmn, hb4⟩; have y8'' : w4.cell? ⟨w.heap.size, 8, none⟩ = some (.slice A k cp) := (hb4.cell (p := ⟨w.heap.size, 8, none⟩) hg2').trans y8')
      all_goals have hm' : ((m : Int) == IntKind.i64.wrap ((k : Int) + 2)) = v := by rw [show IntKind.i64.wrap ((k : Int) + 2) = ((k + 2 : Nat) : Int) by rw [IntKind.wrap_i64]; omega]; exact hm
      all_goals have hb5 : Below w.heap.size w w4 := hbel3.trans (Below.trans (by first | exact Below.refl _ _ | exact (Below.refl _ _).drew | exact below_dN (Below.refl _ _) _) (hb4.mono (Nat.le_of_lt hg2')))
      all_goals clear hb4 hm
      all_goals go_wp2
      all_goals go_ret
      all_goals exact ⟨by rw [← hm']; rfl, by first | exact hb5 | exact hb5.drew | exact below_dN hb5 _⟩
end Go.Proofs.YtfllbhgngolfnaaDoor
