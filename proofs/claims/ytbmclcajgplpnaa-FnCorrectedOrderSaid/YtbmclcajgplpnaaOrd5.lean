/- The order by corrected times: draws, and what its law calls. -/
import Derived.Test.YtbmclcajgplpnaaOrd4
import Derived.Test.YtbmclcajgplpnaaFin4
set_option linter.unusedSimpArgs false
set_option linter.unusedVariables false
namespace Go.Proofs.Ytbmclcajgplpnaa
open Go.RowKit Go.Shelf

set_option maxRecDepth 100000 in
set_option maxHeartbeats 8000000 in
theorem l22DrawRatings_any (t : Int) (w : World) (B g m : Nat) (bs : Nat → Int) (h : SrcX w B g m bs) :
    Calls Try.prog 78 #[.pointer (some ⟨g, 0, none⟩), .int .i64 t] w fun e w' => ∃ (v : Value) (n : Nat) (zs : List Int), e = .returned v ∧ n ≤ 17 ∧ w'.ownsRow w.heap.size 60 2 v n (zs.map (Value.int .i64)) ∧ SrcX w' B g m bs ∧ w.grownBy w' (some g) := by
  have hgl := h.lt
  obtain ⟨i0, hi, hz0', hz1', hz2'⟩ := info_parts infoRating
  replace hi := Lib.hid hi
  replace hz0' := Lib.hid hz0'
  replace hz1' := Lib.hid hz1'
  replace hz2' := Lib.hid hz2'
  have hown0 : (w.alloc (.cells #[] 60)).ownsRow w.heap.size 60 2 (.slice (some ⟨w.heap.size, 0, none⟩) 0 0) 0 (([] : List Int).map (Value.int .i64)) := own_empty (Whole.new w 60 #[]) (Nat.le_refl _)
  have hS0 := h.new (.cells #[] 60)
  have hg0 := only_new (only_refl w (some g)) (.cells #[] 60)
  clear h
  go_enter Try.func78, Try.ntmps78
  go_wp2_with fail
  go_loopw [5, 6] (fun v5 v6 wr => ∃ (n : Nat) (zs : List Int), v6 = .int .i64 n ∧ n ≤ 17 ∧ wr.ownsRow w.heap.size 60 2 v5 n (zs.map (Value.int .i64)) ∧ SrcX wr B g m bs ∧ w.grownBy wr (some g)) (fun v5 v6 _ => (17 - intOf v6).toNat)
  case atStart => exact ⟨0, [], rfl, by omega, hown0, hS0, hg0⟩
  case round =>
    obtain ⟨n, zs, rfl, hn, hown, hS, hg⟩ := hrel
    clear hown0 hS0 hg0
    have hzw := hg.size
    obtain ⟨A5, c5, rfl, hnc, hcm⟩ := own_form hown
    have fin : ∀ (W : World), W.ownsRow w.heap.size 60 2 (.slice A5 n c5) n (zs.map (Value.int .i64)) → True := fun _ _ => trivial
    by_cases hlt : (n : Int) < t ∧ n ≤ 16
    · obtain ⟨hlt1, hlt2⟩ := hlt
      have hlt3 : (n : Int) ≤ 16 := by omega
      go_wp2_with fail
      refine (l22DrawFactor_any _ _ _ _ _ hS).mono ?_
      rintro e w4 ⟨r, rfl, r0, r1, hS4, hg4⟩
      have hown4 := own_only hown hg4 (fun k e => by injection e with e; omega)
      have hgw4 := only_trans hg hg4
      have hz4 := hgw4.size
      have hnew := Whole.new w4 60 #[.int .i64 n, .int .i64 r]
      clear hown hS hg hg4
      go_wp2_with (at_builtin; refine wpList_append_own_at _ rfl _ _ 25 rfl w.heap.size 60 i0 _ 2 16 Try.underlying25 hi.out hz0'.out hz1'.out hz2'.out rfl (by decide) _ _ _ rfl (hown4.alloc _) ⟨w4.heap.size, 0, none⟩ 1 1 [.int .i64 n, .int .i64 r] rfl rfl ?c1 ?c2 ?c3 ?c4 ?c5 ?_)
      case c1 =>
        intro j u hu
        rw [add_zero_off, hnew.cell]
        simpa using hu
      case c2 => simp [Value.oneCell']
      case c3 => simp only [maxLen]; omega
      case c4 => omega
      case c5 => simp; omega
      intro v' w5 hown' hgrow _ hat
      have hgw5 : w.grownBy w5 (some g) := only_own (only_new hgw4 _) hgrow (fun j hj => (hown4.lt j hj).1) (Nat.le_refl _)
      have hS5 : SrcX w5 B g m bs := (hS4.new _).only hgrow (fun j hj => by have := (hown4.lt j hj).1; omega)
      have hown5 : w5.ownsRow w.heap.size 60 2 v' (n + 1) ((zs ++ [(n : Int), r]).map (Value.int .i64)) := by simpa using hown'
      clear hown' hgrow hat hown4 hgw4 hS4 hnew
      go_wp2
      go_roundw
      case rel => exact ⟨n + 1, _, by go_num, by omega, hown5, hS5, hgw5⟩
      case measure => simp [intOf]; try omega
    · have hex : ∀ (W : World), True := fun _ => trivial
      clear fin hex
      by_cases h0 : n = 0
      · subst h0
        by_cases ht : (0 : Int) < t
        · exfalso
          exact hlt ⟨by simpa using ht, by omega⟩
        · go_wp2
          go_ret
          first | exact ⟨_, 0, zs, rfl, by omega, hown, hS, hg⟩ | exact ⟨_, rfl, 0, by omega, ⟨zs, hown⟩, hS, hg⟩
      · have hn0 : (0 : Int) < n := by omega
        obtain ⟨g5, cap5, cur5, hv5, hgb5, -⟩ := own_open hown (by omega)
        injection hv5 with hv1 _ hv3
        subst hv1
        subst hv3
        have hng : ¬ ((n : Int) < t) ∨ ((n : Int) < t ∧ ¬ (n : Int) ≤ 16) := by
          by_cases ha : (n : Int) < t
          · exact .inr ⟨ha, fun hb => hlt ⟨ha, by omega⟩⟩
          · exact .inl ha
        clear hlt
        rcases hng with ha | ⟨ha, hb⟩
        all_goals
          go_wp2_with fail
          refine (nextR _ _ _ _ _ _ hS (by omega) (by omega)).mono ?_
          rintro e w4 ⟨r, rfl, r0, r1, hS4, hg4⟩
          have hown4 := own_only hown hg4 (fun k e => by injection e with e; omega)
          have hgw4 := only_trans hg hg4
          have hz4 := hgw4.size
          have hW4 : ∃ cur, Whole w4 g5 60 cur ∧ cur.size = c5 * 2 := by
            obtain ⟨g6, cap6, cur6, hv6, -, hW6, -, -, hs6, -⟩ := own_open hown4 (by omega)
            injection hv6 with hv6 _ hv7
            injection hv6 with hv6
            injection hv6 with hv6
            subst hv6
            subst hv7
            exact ⟨_, hW6, hs6⟩
          obtain ⟨cur4, hW4, hs4⟩ := hW4
          obtain ⟨c4, hc4⟩ : ∃ u, w4.cell? ⟨g5, 0, none⟩ = some u := by
            rw [hW4.cell]
            exact ⟨_, Array.getElem?_eq_getElem (by omega)⟩
          have f4 := hW4.frz 0
          have hown5 := own_setI hown4 0 1
          have hS5 : SrcX (w4.setCell ⟨g5, 0, none⟩ (.int .i64 1)) B g m bs := hS4.only (row := some g5) ⟨rfl, rfl, rfl, by simp, fun k _ hk => Below.heap_setCell _ _ _ _ (fun e => hk (by rw [e]))⟩ (fun k hk => by injection hk with hk; omega)
          have hg5 : w.grownBy (w4.setCell ⟨g5, 0, none⟩ (.int .i64 1)) (some g) := ⟨hgw4.os, hgw4.tape, hgw4.output, by simp; omega, fun k hk hne => (Below.heap_setCell _ _ _ _ (by show k ≠ g5; omega)).trans (hgw4.block k hk hne)⟩
          by_cases hr : r = 0
          · subst hr
            replace hown5 := Lib.hid hown5
            replace hS5 := Lib.hid hS5
            replace hg5 := Lib.hid hg5
            clear hown hS hg hg4 hown4 hgw4 hS4 hW4
            go_wp2
            go_ret
            exact ⟨_, n, _, rfl, hn, hown5.out, hS5.out, hg5.out⟩
          · have hr0 : (r == 0) = false := by rw [beq_eq_false_iff_ne]; exact hr
            clear hown hS hg hg4 hown5 hS5 hg5 hW4
            go_wp2
            go_ret
            exact ⟨_, n, zs, rfl, hn, hown4, hS4, hgw4⟩
/-- A race and ratings, drawn. -/
def DrewC (w w' : World) (e : Ending) : Prop :=
  ∃ (b : Int) (A : Option Addr) (n c : Nat) (xs : Nat → Int) (A2 : Option Addr) (n2 c2 : Nat) (ys : Nat → Int), e = .returned (.tuple #[.int .i64 b, .slice A n c, .slice A2 n2 c2]) ∧ n ≤ 17 ∧ n2 ≤ 17 ∧
    Ints w' w'.heap.size A (n * 3) xs ∧ Ints w' w'.heap.size A2 (n2 * 2) ys ∧ Below w.heap.size w w'
set_option maxRecDepth 100000 in
set_option maxHeartbeats 8000000 in
theorem drawCorrectFinishes_any (A : Option Addr) (m c : Nat) (bs : Nat → Int) (w : World) (hc : Nums .u8 w w.heap.size A m bs) (hm : m ≤ 100000) (hb : ∀ j, 0 ≤ bs j ∧ bs j ≤ 255) :
    Calls Try.prog 68 #[.slice A m c] w fun e w' => DrewC w w' e := by
  go_enter Try.func68, Try.ntmps68
  go_wp2_with fail
  refine (fromR _ _ _ _ _ _ hc (Nat.le_refl _) hm hb).mono ?_
  rintro e w1 ⟨rfl, hS1, hb1⟩
  have hz1 := hb1.size
  go_wp2_with fail
  refine (l22DrawRace_any _ _ _ _ _ hS1).mono ?_
  rintro e w2 ⟨b, v, n, zs, rfl, b0, b1, n17, hown, hS2, hg2⟩
  have hz2 := hg2.size
  have hgl := hS1.lt
  clear hS1
  go_wp2_with fail
  refine (l22DrawRatings_any _ _ _ _ _ _ hS2).mono ?_
  rintro e w3 ⟨v2, n2, zs2, rfl, n217, hown2, hS3, hg3⟩
  have hl3 := own_only hown hg3 (fun j e => by injection e with e; omega)
  obtain ⟨A1, c1, rfl, hnc, hcm⟩ := own_form hl3
  obtain ⟨A2, c2, rfl, hnc2, hcm2⟩ := own_form hown2
  obtain ⟨hzl, hzc⟩ := cells_of hl3
  obtain ⟨hzl2, hzc2⟩ := cells_of hown2
  have hI1 : Ints w3 w3.heap.size A1 (n * 3) (fun j => zs.getD j 0) := Ints.of_own hl3 (Nat.le_refl _) (by simp; omega) hzc
  have hI2 : Ints w3 w3.heap.size A2 (n2 * 2) (fun j => zs2.getD j 0) := Ints.of_own hown2 (Nat.le_refl _) (by simp; omega) hzc2
  have hBB : Below w.heap.size w w3 := hb1.trans (below_only (only_trans hg2 hg3) hz1 (fun j e => by injection e with e; omega))
  clear hown hown2 hl3 hS2 hS3 hg3 hzc hzc2
  go_wp2
  refine bodyPost_ret (v := .tuple #[.int .i64 b, .slice A1 n c1, .slice A2 n2 c2]) (by simp [results, Try.results68, go_sem]) rfl ⟨_, _, _, _, _, _, _, _, _, rfl, n17, n217, hI1, hI2, hBB⟩
set_option maxRecDepth 100000 in
set_option maxHeartbeats 8000000 in
theorem drawCorrectedOrder_any (A : Option Addr) (m c : Nat) (bs : Nat → Int) (w : World) (hc : Nums .u8 w w.heap.size A m bs) (hm : m ≤ 100000) (hb : ∀ j, 0 ≤ bs j ∧ bs j ≤ 255) :
    Calls Try.prog 34 #[.slice A m c] w fun e w' => DrewC w w' e := by
  go_enter Try.func34, Try.ntmps34
  go_wp2_with fail
  refine (drawCorrectFinishes_any _ _ _ _ _ hc hm hb).mono ?_
  rintro e w3 ⟨b, A1, n, c1, xs, A2, n2, c2, ys, rfl, n17, n217, hI1, hI2, hBB⟩
  go_wp2
  refine bodyPost_ret (v := .tuple #[.int .i64 b, .slice A1 n c1, .slice A2 n2 c2]) (by simp [results, Try.results34, go_sem]) rfl ⟨_, _, _, _, _, _, _, _, _, rfl, n17, n217, hI1, hI2, hBB⟩
set_option maxHeartbeats 2000000 in
theorem compareOk_any (t f t2 f2 p q : Int) (hp : t * f = p) (hq : t2 * f2 = q) (t0 : 1 ≤ t) (t1 : t ≤ 1000000000) (f0 : 1 ≤ f) (f1 : f ≤ 3000) (s0 : 1 ≤ t2) (s1 : t2 ≤ 1000000000) (g0 : 1 ≤ f2) (g1 : f2 ≤ 3000) (p0 : 0 ≤ p) (p1 : p ≤ 3000000000000) (q0 : 0 ≤ q) (q1 : q ≤ 3000000000000) (w : World) :
    Calls Try.prog 37 #[.int .i64 t, .int .i64 f, .int .i64 t2, .int .i64 f2] w fun e w' => e = .returned (.tuple #[.int .i64 (sgV (p - q)), .int .i64 0]) ∧ Below w.heap.size w w' := by
  have hwp : IntKind.i64.wrap p = p := by rw [IntKind.wrap_i64]; omega
  have hwq : IntKind.i64.wrap q = q := by rw [IntKind.wrap_i64]; omega
  have hwd : IntKind.i64.wrap (p - q) = p - q := by rw [IntKind.wrap_i64]; omega
  have e0 : inB t 1 1000000000 = true := by unfold inB; simp; omega
  have e1 : inB t2 1 1000000000 = true := by unfold inB; simp; omega
  have e2 : inB f 1 3000 = true := by unfold inB; simp; omega
  have e3 : inB f2 1 3000 = true := by unfold inB; simp; omega
  have hsv : sgn (p - q) = sgV (p - q) := by unfold sgn sgV; split <;> (try split) <;> (try split) <;> omega
  rw [← hsv]
  clear hsv
  go_enter Try.func37, Try.ntmps37
  go_wp2_with (first | (go_at_call 63; refine (isElapsed_any _ _).mono ?_; rintro e w' ⟨rfl, rfl⟩) | (go_at_call 42; refine (isFactor_any _ _).mono ?_; rintro e w' ⟨rfl, rfl⟩) | (go_at_call 70; refine (sign_any _ _).mono ?_; rintro e w' ⟨rfl, rfl⟩))
  go_ret2
  exact ⟨rfl, Below.refl _ _⟩
theorem cfTo_len (xs ys : Nat → Int) : ∀ n, (cfTo xs ys n).length = n * 3 := by
  intro n
  induction n with
  | zero => rfl
  | succ n ih => rw [cfTo, List.length_append, ih]; simp; omega
theorem cfTo_at (xs ys : Nat → Int) : ∀ n k, k < n → (cfTo xs ys n).getD (k * 3 + 2) 0 = corF xs ys k := by
  intro n
  induction n with
  | zero => intro k h; omega
  | succ n ih =>
    intro k hk
    have hl := cfTo_len xs ys n
    unfold cfTo
    by_cases h : k < n
    · rw [List.getD_eq_getElem?_getD, List.getElem?_append_left (by omega), ← List.getD_eq_getElem?_getD]; exact ih k h
    · obtain rfl : k = n := by omega
      rw [List.getD_eq_getElem?_getD, List.getElem?_append_right (by omega), hl, show k * 3 + 2 - k * 3 = 2 by omega]
      rfl
/-- How many of the first k have finished. -/
def cntF (xs : Nat → Int) : Nat → Nat
  | 0 => 0
  | k + 1 => cntF xs k + (if xs (k * 3 + 1) = 0 then 1 else 0)
theorem cntF_le (xs : Nat → Int) : ∀ k, cntF xs k ≤ k
  | 0 => Nat.le_refl _
  | k + 1 => by have := cntF_le xs k; unfold cntF; split <;> omega
theorem cntF_len (v : Int → Int) (xs : Nat → Int) (n : Nat) : (ordF v (fun k => xs (k.toNat * 3 + 1) == 0) n).length = cntF xs n := by
  unfold ordF
  rw [List.length_mergeSort]
  induction n with
  | zero => rfl
  | succ n ih =>
    unfold rngL cntF
    rw [List.filter_append, List.length_append, ih]
    by_cases h : xs (n * 3 + 1) = 0 <;> simp [h]
set_option maxRecDepth 100000 in
set_option maxHeartbeats 4000000 in
theorem finishesCode_ok (A : Option Addr) (n c B : Nat) (xs : Nat → Int) (w : World) (hx : Ints w B A (n * 3) xs) (hB : B ≤ w.heap.size) (hn : n ≤ 16) (hf : ∀ i, i < n → finB (xs (i * 3)) (xs (i * 3 + 1)) (xs (i * 3 + 2)) = true) :
    Calls Try.prog 69 #[.slice A n c] w fun e w' => e = .returned (.int .i64 0) ∧ Below w.heap.size w w' := by
  replace hx := Lib.hid hx
  replace hf := Lib.hid hf
  have hn2 : ¬ ((16 : Int) < n) := by omega
  go_enter Try.func69, Try.ntmps69
  go_wp2_with fail
  go_loopw [10] (fun v10 wr => ∃ k : Nat, k ≤ n ∧ v10 = .int .i64 k ∧ Below w.heap.size w wr) (fun v10 _ => (n - intOf v10).toNat)
  case atStart => exact ⟨0, by omega, rfl, Below.refl _ _⟩
  case round =>
    obtain ⟨k, hk, rfl, hbel⟩ := hrel
    have hbz := hbel.size
    by_cases hlt : k < n
    · have hlt' : (k : Int) < n := by omega
      obtain ⟨b, o, rfl, hbB, hcx⟩ := hx.out (by omega)
      have g0 : wr.cell? ⟨b, o + k * 3, none⟩ = some (.int .i64 (xs (k * 3))) := by rw [hbel.cell (by simp; omega)]; exact hcx (k * 3) (by omega)
      have g1 : wr.cell? ⟨b, o + k * 3 + 1, none⟩ = some (.int .i64 (xs (k * 3 + 1))) := by rw [hbel.cell (by simp; omega)]; exact hcx (k * 3 + 1) (by omega)
      have g2 : wr.cell? ⟨b, o + k * 3 + 2, none⟩ = some (.int .i64 (xs (k * 3 + 2))) := by rw [hbel.cell (by simp; omega)]; exact hcx (k * 3 + 2) (by omega)
      have hcall := fun W => isFinish_val (xs (k * 3)) (xs (k * 3 + 1)) (xs (k * 3 + 2)) true (hf.out k hlt) W
      generalize xs (k * 3) = z0 at g0 hcall
      generalize xs (k * 3 + 1) = z1 at g1 hcall
      generalize xs (k * 3 + 2) = z2 at g2 hcall
      replace hcall := Lib.hid hcall
      clear hcx
      have hb3 := hbel.alloc hbz (.cells #[.int .i64 z0, .int .i64 z1, .int .i64 z2] 50)
      go_wp2_with fail
      refine (hcall.out _).mono ?_
      rintro e w2 hh
      obtain ⟨rfl, hb2⟩ := hh
      go_wp2
      go_roundw
      case rel => exact ⟨k + 1, by omega, by go_num, hb3.trans (hb2.mono hb3.size)⟩
      case measure => simp [intOf]; omega
    · obtain rfl : k = n := by omega
      have hnlt : ¬ ((k : Int) < k) := by omega
      go_wp2
      go_ret
      exact ⟨rfl, hbel⟩
set_option maxRecDepth 100000 in
set_option maxHeartbeats 4000000 in
theorem countFinished_ok (A : Option Addr) (n c B : Nat) (xs : Nat → Int) (w : World) (hx : Ints w B A (n * 3) xs) (hB : B ≤ w.heap.size) (hn : n ≤ 16) (hf : ∀ i, i < n → finB (xs (i * 3)) (xs (i * 3 + 1)) (xs (i * 3 + 2)) = true) (K : Nat) (hK : Hid (cntF xs n = K)) :
    Calls Try.prog 36 #[.slice A n c] w fun e w' => e = .returned (.tuple #[.int .i64 K, .int .i64 0]) ∧ Below w.heap.size w w' := by
  have hcall := finishesCode_ok A n c B xs w hx hB hn hf
  replace hcall := Lib.hid hcall
  replace hx := Lib.hid hx
  clear hf
  go_enter Try.func36, Try.ntmps36
  go_wp2_with fail
  refine hcall.out.mono ?_
  rintro e w1 ⟨rfl, hb1⟩
  go_wp2_with fail
  go_loopw [5, 15] (fun v5 v15 wr => ∃ k q : Nat, k ≤ n ∧ v15 = .int .i64 k ∧ v5 = .int .i64 q ∧ Hid (cntF xs k = q) ∧ q ≤ k ∧ Below w.heap.size w wr) (fun _ v15 _ => (n - intOf v15).toNat)
  case atStart => exact ⟨0, 0, by omega, rfl, rfl, Lib.hid rfl, by omega, hb1⟩
  case round =>
    obtain ⟨k, q, hk, rfl, rfl, hq, hqk, hbel⟩ := hrel
    clear hb1
    have hbz := hbel.size
    by_cases hlt : k < n
    · have hlt' : (k : Int) < n := by omega
      obtain ⟨b, o, rfl, hbB, hcx⟩ := hx.out (by omega)
      have g0 : wr.cell? ⟨b, o + k * 3, none⟩ = some (.int .i64 (xs (k * 3))) := by rw [hbel.cell (by simp; omega)]; exact hcx (k * 3) (by omega)
      have g1 : wr.cell? ⟨b, o + k * 3 + 1, none⟩ = some (.int .i64 (xs (k * 3 + 1))) := by rw [hbel.cell (by simp; omega)]; exact hcx (k * 3 + 1) (by omega)
      have g2 : wr.cell? ⟨b, o + k * 3 + 2, none⟩ = some (.int .i64 (xs (k * 3 + 2))) := by rw [hbel.cell (by simp; omega)]; exact hcx (k * 3 + 2) (by omega)
      have hnext : cntF xs (k + 1) = cntF xs k + (if xs (k * 3 + 1) = 0 then 1 else 0) := rfl
      rw [hq.out] at hnext
      generalize xs (k * 3) = z0 at g0
      generalize xs (k * 3 + 1) = z1 at g1 hnext
      generalize xs (k * 3 + 2) = z2 at g2
      have hb3 := hbel.alloc hbz (.cells #[.int .i64 z0, .int .i64 z1, .int .i64 z2] 50)
      clear hcx hq
      by_cases h0 : z1 = 0
      · subst h0
        rw [if_pos rfl] at hnext
        replace hnext := Lib.hid hnext
        go_wp2
        go_roundw
        case rel => exact ⟨k + 1, q + 1, by omega, by go_num, by go_num, hnext, by omega, hb3⟩
        case measure => simp [intOf]; omega
      · have h0' : (z1 == 0) = false := by rw [beq_eq_false_iff_ne]; exact h0
        rw [if_neg h0] at hnext
        replace hnext := Lib.hid hnext
        clear h0
        go_wp2
        go_roundw
        case rel => exact ⟨k + 1, q, by omega, by go_num, rfl, hnext, by omega, hb3⟩
        case measure => simp [intOf]; omega
    · obtain rfl : k = n := by omega
      have hnlt : ¬ ((k : Int) < k) := by omega
      have e : q = K := by rw [← hq.out, hK.out]
      subst e
      go_wp2
      go_ret2
      exact ⟨rfl, hbel⟩
end Go.Proofs.Ytbmclcajgplpnaa
