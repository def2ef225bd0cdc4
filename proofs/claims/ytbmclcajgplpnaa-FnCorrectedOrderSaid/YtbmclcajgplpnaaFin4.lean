/- Plain laws on corrections by distance; the draws of a race. -/
import Derived.Test.YtbmclcajgplpnaaFin3
import Derived.Test.YtbmclcajgplpnaaPick
import Derived.Maps.AppendAt
import Derived.Deep.RegionLaw
import Derived.Deep.CutRange
import Derived.Deep.RegionWith
import Derived.Deep.CutBlock
import Derived.StillTailTactics
set_option linter.unusedSimpArgs false
set_option linter.unusedVariables false
namespace Go.Proofs.Ytbmclcajgplpnaa
open Go.RowKit

theorem cdTo_len (xs ys : Nat → Int) (d : Int) : ∀ n, (cdTo xs ys d n).length = n * 3 := by
  intro n
  induction n with
  | zero => rfl
  | succ n ih => rw [cdTo, List.length_append, ih]; simp; omega
theorem cdTo_at (xs ys : Nat → Int) (d : Int) : ∀ n k, k < n → (cdTo xs ys d n).getD (k * 3) 0 = xs (k * 3) ∧ (cdTo xs ys d n).getD (k * 3 + 1) 0 = xs (k * 3 + 1) ∧ (cdTo xs ys d n).getD (k * 3 + 2) 0 = cdF xs ys d k := by
  intro n
  induction n with
  | zero => intro k h; omega
  | succ n ih =>
    intro k hk
    have hl := cdTo_len xs ys d n
    by_cases e : k = n
    · subst e
      simp only [cdTo, List.getD_eq_getElem?_getD]
      rw [List.getElem?_append_right (by omega), List.getElem?_append_right (by omega), List.getElem?_append_right (by omega), hl]
      rw [show k * 3 - k * 3 = 0 by omega, show k * 3 + 1 - k * 3 = 1 by omega, show k * 3 + 2 - k * 3 = 2 by omega]
      simp
    · obtain ⟨a, b, c⟩ := ih k (by omega)
      simp only [List.getD_eq_getElem?_getD] at a b c ⊢
      rw [cdTo, List.getElem?_append_left (by omega), List.getElem?_append_left (by omega), List.getElem?_append_left (by omega)]
      exact ⟨a, b, c⟩
theorem cdC_0 {m : Int} {n : Nat} {xs : Nat → Int} {n2 : Nat} {ys : Nat → Int} {d : Int} (h : cdC m n xs n2 ys d = 0) : (n2 : Int) = n ∧ n ≤ 16 ∧ (∀ i, i < n → finB (xs (i * 3)) (xs (i * 3 + 1)) (xs (i * 3 + 2)) = true) ∧ 1 ≤ d ∧ d ≤ 10000000 ∧ ∀ i, i < n → 0 ≤ ys i ∧ ys i ≤ 1000000 := by
  unfold cdC at h
  by_cases h1 : racB m n xs = true
  · rw [if_pos h1] at h
    by_cases h2 : (((n2 : Int) == m) && inB d 1 10000000) = true
    · rw [if_pos h2] at h
      by_cases h3 : (List.range n).all (alwB ys) = true
      · obtain ⟨m0, m1, m2, m3⟩ := racB_t h1
        simp only [Bool.and_eq_true, beq_iff_eq] at h2
        have hd := inB_t h2.2
        refine ⟨by omega, by omega, m3, hd.1, hd.2, fun i hi => ?_⟩
        rw [List.all_eq_true] at h3
        exact inB_t (h3 i (List.mem_range.2 hi))
      · rw [if_neg h3] at h; omega
    · rw [if_neg h2] at h; omega
  · rw [if_neg h1] at h; omega
theorem own_putS {w : World} {base g n c size : Nat} {e : TypeId} {xs : List Value} (h : w.ownsRow base e size (.slice (some ⟨g, 0, none⟩) n c) n xs) (i : Nat) (u : Value) : (w.setCell ⟨g, i, none⟩ u).ownsRow base e size (.slice (some ⟨g, 0, none⟩) n c) n (xs.set i u) := by
  rcases h.2 with ⟨hv, _⟩ | ⟨g', cap, cur, hv, hb, hh, hnc, hcm, hcs, ht⟩
  · cases hv
  · injection hv with hv1 _ hv3
    injection hv1 with hv1
    injection hv1 with hv1
    subst hv1
    subst hv3
    refine ⟨by simpa using h.1, .inr ⟨g, c, cur.setIfInBounds i u, rfl, hb, Whole.put hh i u, hnc, hcm, by simpa using hcs, ?_⟩⟩
    rw [Array.toList_setIfInBounds, List.take_set, ht]
theorem own_putI {w : World} {base g n c size : Nat} {e : TypeId} {zs : List Int} (h : w.ownsRow base e size (.slice (some ⟨g, 0, none⟩) n c) n (zs.map (Value.int .i64))) (i : Nat) (x : Int) : (w.setCell ⟨g, i, none⟩ (.int .i64 x)).ownsRow base e size (.slice (some ⟨g, 0, none⟩) n c) n ((zs.set i x).map (Value.int .i64)) := by
  rw [List.map_set]; exact own_putS h i _
/-- The finishes of a race, drawn. -/
def DrewR (w w' : World) (B g m : Nat) (bs : Nat → Int) (e : Ending) : Prop :=
  ∃ (b : Int) (v : Value) (n : Nat) (zs : List Int), e = .returned (.tuple #[.int .i64 b, v]) ∧ 0 ≤ b ∧ b ≤ 17 ∧ n ≤ 17 ∧ w'.ownsRow w.heap.size 50 3 v n (zs.map (Value.int .i64)) ∧ SrcX w' B g m bs ∧ w.grownBy w' (some g)
set_option maxRecDepth 100000 in
set_option maxHeartbeats 8000000 in
theorem l22DrawRace_any (w : World) (B g m : Nat) (bs : Nat → Int) (h : SrcX w B g m bs) :
    Calls Try.prog 59 #[.pointer (some ⟨g, 0, none⟩)] w fun e w' => DrewR w w' B g m bs e := by
  have hgl := h.lt
  obtain ⟨i0, hi, hz0', hz1', hz2'⟩ := info_parts infoFinish
  replace hi := Lib.hid hi
  replace hz0' := Lib.hid hz0'
  replace hz1' := Lib.hid hz1'
  replace hz2' := Lib.hid hz2'
  go_enter Try.func59, Try.ntmps59
  go_wp2_with fail
  refine (nextR _ _ _ _ _ _ h (by omega) (by omega)).mono ?_
  rintro e w1 ⟨r1, rfl, r10, r11, hS1, hg1⟩
  go_wp2_with fail
  refine (nextR _ _ _ _ _ _ hS1 (by omega) (by omega)).mono ?_
  rintro e w2 ⟨r2, rfl, r20, r21, hS2, hg2⟩
  have hgw := only_trans hg1 hg2
  have hz2 := hgw.size
  clear hS1 hg1 hg2 h
  go_upto_if 13 with fail
  go_cut [4] from 14 to 63 (fun v4 wx => ∃ mb : Int, v4 = .int .i64 mb ∧ 0 ≤ mb ∧ mb ≤ 17 ∧ SrcX wx B g m bs ∧ w.grownBy wx (some g))
  case first =>
    by_cases h0 : r2 = 0
    · subst h0
      go_wp2_with fail
      refine (nextR _ _ _ _ _ _ (hS2.new _) (by omega) (by omega)).mono ?_
      rintro e w3 ⟨r3, rfl, r30, r31, hS3, hg3⟩
      obtain ⟨x, hx, hcell⟩ := ((Whole.new w2 2 _).grown hg3 (fun e => by injection e with e; omega)).pick [0, 16, 17] rfl r3 r30 (by simpa using r31)
      have hxb : 0 ≤ x ∧ x ≤ 17 := by simp at hx; omega
      have hgw3 := only_trans (only_new hgw (.cells #[.int .i64 0, .int .i64 16, .int .i64 17] 2)) hg3
      clear hx
      go_wp2_with fail
      go_meet
      exact ⟨_, rfl, hxb.1, hxb.2, hS3, hgw3⟩
    · have h0' : (r2 == 0) = false := by simpa using h0
      go_wp2_with fail
      go_meet
      exact ⟨_, rfl, by omega, by omega, hS2, hgw⟩
  case rest =>
  obtain ⟨mb, rfl, mb0, mb1, hS3, hgw3⟩ := hcut
  clear hS2 hgw hz2
  rename World => w3
  have hz3 := hgw3.size
  have hown0 : (w3.alloc (.cells #[] 50)).ownsRow w.heap.size 50 3 (.slice (some ⟨w3.heap.size, 0, none⟩) 0 0) 0 (([] : List Int).map (Value.int .i64)) := own_empty (Whole.new w3 50 #[]) hz3
  have hS4 := hS3.new (.cells #[] 50)
  have hgw4 := only_new hgw3 (.cells #[] 50)
  clear hS3 hgw3
  go_wp2_with fail
  go_loopw [5, 6] (fun v5 v6 wr => ∃ (n : Nat) (zs : List Int), v6 = .int .i64 n ∧ (n : Int) ≤ mb ∧ wr.ownsRow w.heap.size 50 3 v5 n (zs.map (Value.int .i64)) ∧ SrcX wr B g m bs ∧ w.grownBy wr (some g)) (fun v5 v6 _ => (mb - intOf v6).toNat)
  case atStart => exact ⟨0, [], rfl, by omega, hown0, hS4, hgw4⟩
  case round =>
    obtain ⟨n, zs, rfl, hnm, hown, hS, hgw⟩ := hrel
    clear hown0 hS4 hgw4
    have hzw := hgw.size
    by_cases hlt : (n : Int) < mb
    · go_wp2_with fail
      refine (nextR _ _ _ _ _ _ hS (by omega) (by omega)).mono ?_
      rintro e w4 ⟨r4, rfl, r40, r41, hS4, hg4⟩
      have hown4 := own_only hown hg4 (fun k e => by injection e with e; omega)
      have hgw4 := only_trans hgw hg4
      have hz4 := hgw4.size
      clear hown hgw hS hg4
      go_wp2_with fail
      refine (nextR _ _ _ _ _ _ (hS4.new _) (by omega) (by omega)).mono ?_
      rintro e w5 ⟨r5, rfl, r50, r51, hS5, hg5⟩
      have hF5 := (Whole.new w4 50 #[.int .i64 n, .int .i64 0, .int .i64 (50000 + r4)]).grown hg5 (fun e => by injection e with e; omega)
      have hown5 := own_only (hown4.alloc (.cells #[.int .i64 n, .int .i64 0, .int .i64 (50000 + r4)] 50)) hg5 (fun k e => by injection e with e; omega)
      have hgw5 := only_trans (only_new hgw4 (.cells #[.int .i64 n, .int .i64 0, .int .i64 (50000 + r4)] 50)) hg5
      have hlt4 := hown4.lt
      have hz5 := hg5.size
      simp at hz5
      clear hown4 hgw4 hS4 hg5
      obtain ⟨A', c', rfl, hnc, hcm⟩ := own_form hown5
      by_cases h0 : r5 = 0
      · subst h0
        go_wp2_with fail
        refine (nextR _ _ _ _ _ _ hS5 (by omega) (by omega)).mono ?_
        rintro e w6 ⟨r6, rfl, r60, r61, hS6, hg6⟩
        have hF6 := hF5.grown hg6 (fun e => by injection e with e; omega)
        have hne : Value.ownBlock (.slice A' n c') ≠ some w4.heap.size := fun e => by have := (hlt4 _ e).2; omega
        have hown6 := own_only hown5 hg6 (fun k e => by injection e with e; omega)
        have hgw6 := only_trans hgw5 hg6
        have hz6 := hg6.size
        clear hown5 hgw5 hS5 hg6 hF5
        have y0 := hF6.cell 0
        have y1 := hF6.cell 1
        have y2 := hF6.cell 2
        have f0 := hF6.frz 0
        have f1 := hF6.frz 1
        have f2 := hF6.frz 2
        simp at y0 y1 y2
        have hfl := hF6.lt
        have hS7 := ((hS6.only (row := some w4.heap.size) (only_put (only_refl _ _) 0 (.int .i64 n)) (fun k e => by injection e with e; omega)).only (row := some w4.heap.size) (only_put (only_refl _ _) 1 (.int .i64 (1 + r6))) (fun k e => by injection e with e; omega)).only (row := some w4.heap.size) (only_put (only_refl _ _) 2 (.int .i64 0)) (fun k e => by injection e with e; omega)
        have hown7 := own_put (i := 2) (u := .int .i64 0) (own_put (i := 1) (u := .int .i64 (1 + r6)) (own_put (i := 0) (u := .int .i64 n) hown6 hne) hne) hne
        have hgw7 := only_put_new (only_put_new (only_put_new hgw6 hz4 0 (.int .i64 n)) hz4 1 (.int .i64 (1 + r6))) hz4 2 (.int .i64 0)
        have hnew := Whole.new (((w6.setCell ⟨w4.heap.size, 0, none⟩ (.int .i64 n)).setCell ⟨w4.heap.size, 1, none⟩ (.int .i64 (1 + r6))).setCell ⟨w4.heap.size, 2, none⟩ (.int .i64 0)) 50 #[.int .i64 n, .int .i64 (1 + r6), .int .i64 0]
        simp only [World.size_setCell] at hnew
        clear hown6 hgw6 hS6
        go_wp2_with (at_builtin; refine wpList_append_own_at _ rfl _ _ 31 rfl w.heap.size 50 i0 _ 3 24 Try.underlying31 hi.out hz0'.out hz1'.out hz2'.out rfl (by decide) _ _ _ rfl (hown7.alloc _) ⟨w6.heap.size, 0, none⟩ 1 1 [.int .i64 n, .int .i64 (1 + r6), .int .i64 0] rfl rfl ?c1 ?c2 ?c3 ?c4 ?c5 ?_)
        case c1 =>
          intro j u hu
          rw [add_zero_off, hnew.cell]
          simpa using hu
        case c2 => simp [Value.oneCell']
        case c3 => simp only [maxLen]; omega
        case c4 => omega
        case c5 => simp; omega
        intro v' w8 hown' hgrow _ hat
        have hgw8 : w.grownBy w8 (some g) := only_own (only_new hgw7 _) hgrow (fun k hk => (hown7.lt k hk).1) (Nat.le_refl _)
        have hS8 : SrcX w8 B g m bs := (hS7.new _).only hgrow (fun k hk => by have := (hown7.lt k hk).1; omega)
        have hown8 : w8.ownsRow w.heap.size 50 3 v' (n + 1) ((zs ++ [(n : Int), 1 + r6, 0]).map (Value.int .i64)) := by simpa using hown'
        clear hown' hgrow hat hown7 hgw7 hS7
        go_wp2
        go_roundw
        case rel => exact ⟨n + 1, _, by go_num, by omega, hown8, hS8, hgw8⟩
        case measure => simp [intOf]; try omega
      · have h0' : (r5 == 0) = false := by simpa using h0
        have y0 := hF5.cell 0
        have y1 := hF5.cell 1
        have y2 := hF5.cell 2
        simp at y0 y1 y2
        have hfl := hF5.lt
        have hnew := Whole.new w5 50 #[.int .i64 n, .int .i64 0, .int .i64 (50000 + r4)]
        go_wp2_with (at_builtin; refine wpList_append_own_at _ rfl _ _ 31 rfl w.heap.size 50 i0 _ 3 24 Try.underlying31 hi.out hz0'.out hz1'.out hz2'.out rfl (by decide) _ _ _ rfl (hown5.alloc _) ⟨w5.heap.size, 0, none⟩ 1 1 [.int .i64 n, .int .i64 0, .int .i64 (50000 + r4)] rfl rfl ?c1 ?c2 ?c3 ?c4 ?c5 ?_)
        case c1 =>
          intro j u hu
          rw [add_zero_off, hnew.cell]
          simpa using hu
        case c2 => simp [Value.oneCell']
        case c3 => simp only [maxLen]; omega
        case c4 => omega
        case c5 => simp; omega
        intro v' w8 hown' hgrow _ hat
        have hgw8 : w.grownBy w8 (some g) := only_own (only_new hgw5 _) hgrow (fun k hk => (hown5.lt k hk).1) (Nat.le_refl _)
        have hS8 : SrcX w8 B g m bs := (hS5.new _).only hgrow (fun k hk => by have := (hown5.lt k hk).1; omega)
        have hown8 : w8.ownsRow w.heap.size 50 3 v' (n + 1) ((zs ++ [(n : Int), 0, 50000 + r4]).map (Value.int .i64)) := by simpa using hown'
        clear hown' hgrow hat hown5 hgw5 hS5
        go_wp2
        go_roundw
        case rel => exact ⟨n + 1, _, by go_num, by omega, hown8, hS8, hgw8⟩
        case measure => simp [intOf]; try omega
    · rcases Nat.eq_zero_or_pos n with hn0 | hn0
      · subst hn0
        obtain ⟨A', c', rfl, hnc, hcm⟩ := own_form hown
        go_wp2
        go_ret2
        exact ⟨_, _, 0, zs, rfl, mb0, mb1, by omega, hown, hS, hgw⟩
      obtain ⟨g', cap, cur, rfl, hg'b, hWh, hncap, hcapm, hcs, hcur⟩ := own_open hown hn0
      go_wp2_with fail
      refine (nextR _ _ _ _ _ _ hS (by omega) (by omega)).mono ?_
      rintro e w4 ⟨d, rfl, d0, d1, hS4, hg4⟩
      have hW4 := hWh.grown hg4 (fun e => by injection e with e; omega)
      have hown4 := own_only hown hg4 (fun k e => by injection e with e; omega)
      have hgw4 := only_trans hgw hg4
      have hgl4 := hW4.lt
      have hz4 := hgw4.size
      clear hown hgw hS hg4 hWh
      by_cases h0 : d = 0
      · subst h0
        have s0 := hW4.some_ 0 (by omega)
        have f0 := hW4.frz 0
        go_wp2
        go_ret2
        exact ⟨_, _, n, zs.set 0 1, rfl, mb0, mb1, by omega, own_putI hown4 _ _, hS4.only (row := some g') (only_put (only_refl _ _) _ _) (fun k e => by injection e with e; omega), only_put_new hgw4 (by omega) _ _⟩
      by_cases h1 : d = 1
      · subst h1
        go_wp2_with fail
        refine (nextR _ _ _ _ _ _ (hS4.new _) (by omega) (by omega)).mono ?_
        rintro e w5 ⟨r, rfl, r0, r1', hS5, hg5⟩
        obtain ⟨x, hx, hcell⟩ := ((Whole.new w4 2 _).grown hg5 (fun e => by injection e with e; omega)).pick [0, 1000000000, 1000000001] rfl r r0 (by simpa using r1')
        have hW5 := (hW4.alloc (.cells #[.int .i64 0, .int .i64 1000000000, .int .i64 1000000001] 2)).grown hg5 (fun e => by injection e with e; omega)
        have hown5 := own_only (hown4.alloc (.cells #[.int .i64 0, .int .i64 1000000000, .int .i64 1000000001] 2)) hg5 (fun k e => by injection e with e; omega)
        have s0 := hW5.some_ 2 (by omega)
        have f0 := hW5.frz 2
        have hgw5 := only_trans (only_new hgw4 (.cells #[.int .i64 0, .int .i64 1000000000, .int .i64 1000000001] 2)) hg5
        clear hx
        go_wp2
        go_ret2
        exact ⟨_, _, n, zs.set 2 x, rfl, mb0, mb1, by omega, own_putI hown5 _ _, hS5.only (row := some g') (only_put (only_refl _ _) _ _) (fun k e => by injection e with e; omega), only_put_new hgw5 (by omega) _ _⟩
      · have n0 : (d == 0) = false := by rw [beq_eq_false_iff_ne]; exact h0
        have n1 : (d == 1) = false := by rw [beq_eq_false_iff_ne]; exact h1
        go_wp2
        go_ret2
        exact ⟨_, _, n, zs, rfl, mb0, mb1, by omega, hown4, hS4, hgw4⟩
end Go.Proofs.Ytbmclcajgplpnaa
