/- The lengths of a course's legs: the program's and the reference's. -/
import Derived.Test.YtfllbhgngolfnaaDoorIc2
import Derived.Test.YtfllbhgngolfnaaDoorRow
import Derived.Deep.RegionLaw
import Derived.Deep.CutRange
set_option linter.unusedSimpArgs false
set_option linter.unusedVariables false
namespace Go.Proofs.YtfllbhgngolfnaaDoor
open Go.RowKit

theorem infoInt64 : (Tryd.prog.info? 2).map (fun i => (i.zero, i.size, i.bytes)) = some (some (.int .i64 0), 1, 8) := by kernel_rfl
/-- append onto a row of the call's own, as a step of a region that draws its order. -/
theorem step_append_own {P : Program} {w : World} {ops : Array Oper} {o : Oper} {a : Act} {K : Act → World → Prop} {Q : Exit → Act → World → Prop} {E : Prop} (hgd : o.guard = none) (s x : Operand) (t : TypeId)
    (ho : o.op = .call { callee := .builtin .append, args := #[s, x], argTypes := #[t, t] })
    (base : Nat) (e : TypeId) (i : TypeInfo) (z : Value) (size bytes : Nat) (ht : P.underlying t = some (.slice e)) (hi : P.info? e = some i) (hz : i.zero = some z)
    (hsize : i.size = size) (hby : i.bytes = bytes) (hzs : z.cells.size = size) (hsz : 0 < size)
    (v : Value) (n : Nat) (xs : List Value) (hs : a.eval s = v) (hown : w.ownsRow base e size v n xs)
    (ad : Addr) (m c : Nat) (news : List Value) (hx : a.eval x = .slice (some ad) m c) (hl : news.length = m * size) (hnews : ∀ j u, news[j]? = some u → w.cell? (ad.add j) = some u) (h1 : ∀ u ∈ news, u.oneCell' = true)
    (h63 : n + m ≤ maxLen) (hbytes : (n + m) * bytes ≤ 140737488355328) (hbase : base ≤ w.heap.size)
    (h : ∀ v' w', w'.ownsRow base e size v' (n + m) (xs ++ news) → w.grownBy w' v.ownBlock → K (a.put o.dst v') w') :
    if Region.wanted o (yielded ops a.tmps) = true then Oper.wp P o a w K Q else E := by
  have hw : Region.wanted o (yielded ops a.tmps) = true := by simp [Region.wanted, hgd]
  rw [if_pos hw]
  exact wp_append_own w s x t ho base e i z size bytes ht hi hz hsize hby hzs hsz v n xs hs hown ad m c news hx hl hnews h1 h63 hbytes hbase fun v' w' h2 h3 h4 => h v' w' h2 h3
theorem news_whole {W : World} {g : Nat} {t : TypeId} {cs : Array Value} (h : Whole W g t cs) : ∀ j u, cs.toList[j]? = some u → W.cell? ((⟨g, 0, none⟩ : Addr).add j) = some u := by
  intro j u hu
  rw [add_zero_off, h.cell j]
  simpa using hu
theorem own_whole {w : World} {b1 s1 n1 g : Nat} {e1 e2 : TypeId} {v1 : Value} {x1 : List Value} {cs : Array Value} (h1 : w.ownsRow b1 e1 s1 v1 n1 x1) (h2 : Whole w g e2 cs) (he : e1 ≠ e2) : v1.ownBlock ≠ some g := by
  rcases h1.2 with ⟨rfl, _⟩ | ⟨g1, c1, cur1, rfl, _, hW1, _⟩
  · intro e; cases e
  · intro e
    injection e with e
    subst e
    have := hW1.symm.trans h2
    injection this with this
    injection this with _ h _
    exact he h

/-- The whole root. -/
def rtN : Nat → Nat
  | 0 => 0
  | n + 1 => if n + 1 < (rtN n + 1) * (rtN n + 1) then rtN n else rtN n + 1
theorem rtN_root : ∀ n, IsRoot n (rtN n)
  | 0 => ⟨by decide, by decide⟩
  | n + 1 => by
    obtain ⟨h1, h2⟩ := rtN_root n
    unfold rtN
    by_cases h : n + 1 < (rtN n + 1) * (rtN n + 1)
    · rw [if_pos h]; exact ⟨by omega, h⟩
    · rw [if_neg h]
      refine ⟨by omega, ?_⟩
      have : (rtN n + 1 + 1) * (rtN n + 1 + 1) = (rtN n + 1) * (rtN n + 1) + 2 * (rtN n + 1) + 1 := by rw [Nat.add_mul, Nat.mul_add]; omega
      omega
theorem rtN_le {n : Nat} (h : n ≤ 8000000000000) : rtN n ≤ 3000000 := by
  have := root_lt (a := 3000001) (rtN_root n) (by omega)
  omega
/-- The length of the leg from station k on. -/
def legF (xs : Nat → Int) (k : Nat) : Int := rtN (sqD (xs (k * 2)) (xs (k * 2 + 1)) (xs ((k + 1) * 2)) (xs ((k + 1) * 2 + 1))).toNat
def lgL (xs : Nat → Int) : Nat → List Int
  | 0 => []
  | k + 1 => lgL xs k ++ [legF xs k]
theorem lgL_len (xs : Nat → Int) : ∀ k, (lgL xs k).length = k
  | 0 => rfl
  | k + 1 => by unfold lgL; rw [List.length_append, lgL_len xs k]; rfl
theorem stI_get (M : Nat → MkV) : ∀ n i, i < n → (stI M n)[i * 2]? = some (M i).x ∧ (stI M n)[i * 2 + 1]? = some (M i).y
  | 0, i, h => by omega
  | n + 1, i, h => by
    have hl := stI_len M n
    unfold stI
    by_cases e : i = n
    · subst e
      rw [List.getElem?_append_right (by omega), List.getElem?_append_right (by omega), hl, Nat.sub_self, show i * 2 + 1 - i * 2 = 1 by omega]
      exact ⟨rfl, rfl⟩
    · obtain ⟨h1, h2⟩ := stI_get M n i (by omega)
      rw [List.getElem?_append_left (by omega), List.getElem?_append_left (by omega)]
      exact ⟨h1, h2⟩
theorem crsB_t {a b c d e f g h : Int} {n : Nat} {M : Nat → MkV} (hc : crsB a b c d e f g h n M = true) : lnB a b c d = true ∧ lnB e f g h = true ∧ 1 ≤ n ∧ n ≤ 8 ∧ allM M n = true := by
  unfold crsB at hc
  simp only [Bool.and_eq_true, decide_eq_true_eq] at hc
  exact ⟨hc.1, hc.2.1, hc.2.2.1.1, hc.2.2.1.2, hc.2.2.2.1⟩
theorem allM_t {M : Nat → MkV} {n : Nat} (h : allM M n = true) {i : Nat} (hi : i < n) : ptB (M i).x (M i).y = true := by
  cases h' : okM M i with
  | false => rw [allM_no h' n hi] at h; cases h
  | true =>
    unfold okM markB at h'
    simp only [Bool.and_eq_true] at h'
    exact h'.1.2.1
/-- Every station of a course is a point. -/
theorem sta_pt {a b c d e f g h : Int} {n : Nat} {M : Nat → MkV} (hc : crsB a b c d e f g h n M = true) {j : Nat} (hj : j < n + 2) : ptB (stF a b c d e f g h n M (j * 2)) (stF a b c d e f g h n M (j * 2 + 1)) = true := by
  obtain ⟨l1, l2, n1, n8, hall⟩ := crsB_t hc
  unfold stF stL
  rcases Nat.eq_zero_or_pos j with h0 | h0
  · subst h0
    exact mid_bd l1
  · obtain ⟨i, rfl⟩ : ∃ i, j = i + 1 := ⟨j - 1, by omega⟩
    rw [show (i + 1) * 2 = i * 2 + 1 + 1 by omega]
    have hl := stI_len M n
    simp only [List.getD_cons_succ]
    by_cases hi : i < n
    · obtain ⟨h1, h2⟩ := stI_get M n i hi
      rw [List.getD_eq_getElem?_getD, List.getD_eq_getElem?_getD, List.getElem?_append_left (by omega), List.getElem?_append_left (by omega), h1, h2]
      exact allM_t hall hi
    · obtain rfl : i = n := by omega
      rw [List.getD_eq_getElem?_getD, List.getD_eq_getElem?_getD, List.getElem?_append_right (by omega), List.getElem?_append_right (by omega), hl, Nat.sub_self, show i * 2 + 1 - i * 2 = 1 by omega]
      exact mid_bd l2
/-- The lengths of the legs, their count and the code. -/
def legL (a b c d e f g h : Int) (n : Nat) (M : Nat → MkV) : List Int := if crsB a b c d e f g h n M = true then lgL (stF a b c d e f g h n M) (n + 1) else []
def legK (a b c d e f g h : Int) (n : Nat) (M : Nat → MkV) : Nat := if crsB a b c d e f g h n M = true then n + 1 else 0
def legC (a b c d e f g h : Int) (n : Nat) (M : Nat → MkV) : Int := if crsB a b c d e f g h n M = true then 0 else 1

set_option maxRecDepth 100000 in
set_option maxHeartbeats 8000000 in
theorem legLengths_any (a b c d e f g h : Int) (A : Option Addr) (n cp B : Nat) (M : Nat → MkV) (w : World) (hx : Mks w B A n M) (hB : B ≤ w.heap.size) (hn : n ≤ 1048576) (hcp : n ≤ cp) :
    Calls Tryd.prog 13 #[.agg #[.int .i64 a, .int .i64 b, .int .i64 c, .int .i64 d, .int .i64 e, .int .i64 f, .int .i64 g, .int .i64 h, .slice A n cp]] w fun e' w' => Gave 2 1 (legK a b c d e f g h n M) w w' e' (legL a b c d e f g h n M) (legC a b c d e f g h n M) := by
  have hb0 := (Below.refl w.heap.size w).alloc (Nat.le_refl _) (.cells #[.int .i64 a, .int .i64 b, .int .i64 c, .int .i64 d, .int .i64 e, .int .i64 f, .int .i64 g, .int .i64 h, .slice A n cp] 37)
  have hW0 := Whole.new w 37 #[.int .i64 a, .int .i64 b, .int .i64 c, .int .i64 d, .int .i64 e, .int .i64 f, .int .i64 g, .int .i64 h, .slice A n cp]
  have hxn := hx.below (hb0.mono hB)
  replace hb0 := Lib.hid hb0
  replace hxn := Lib.hid hxn
  replace hW0 := Lib.hid hW0
  obtain ⟨v, hv⟩ : ∃ v, crsB a b c d e f g h n M = v := ⟨_, rfl⟩
  have hic := fun W hW hb => isCourse_any a b c d e f g h A n cp B M v hv W hW hb hn hcp
  replace hic := Lib.hid hic
  cases v with
  | false =>
    have hL : legL a b c d e f g h n M = [] := by unfold legL; rw [hv]; rfl
    have hK : legK a b c d e f g h n M = 0 := by unfold legK; rw [hv]; rfl
    have hC : legC a b c d e f g h n M = 1 := by unfold legC; rw [hv]; rfl
    rw [hL, hK, hC]
    clear hL hK hC hv hx
    go_enter Tryd.func13, Tryd.ntmps13
    go_wp2_with fail
    refine (hic.out _ hxn.out (by simp; omega)).mono ?_
    rintro e1 w1 ⟨rfl, hb1⟩
    go_wp2
    go_ret2
    exact gave_nil (hb0.out.trans (hb1.mono (by simp)))
  | true =>
    have hL : legL a b c d e f g h n M = lgL (stF a b c d e f g h n M) (n + 1) := by unfold legL; rw [hv]; rfl
    have hK : legK a b c d e f g h n M = n + 1 := by unfold legK; rw [hv]; rfl
    have hC : legC a b c d e f g h n M = 0 := by unfold legC; rw [hv]; rfl
    rw [hL, hK, hC]
    obtain ⟨l1, l2, n1, n8, hall⟩ := crsB_t hv
    have hpt := fun j hj => sta_pt hv (j := j) hj
    have hsta := fun W hW hb => stationsOf_any a b c d e f g h _ _ _ _ A n cp B M l1 l2 rfl rfl rfl rfl W hW hb hn
    obtain ⟨xs, hxs⟩ : ∃ xs, stF a b c d e f g h n M = xs := ⟨_, rfl⟩
    rw [hxs]
    simp only [hxs] at hpt
    replace hxs := Lib.hid hxs
    replace hpt := Lib.hid hpt
    replace hsta := Lib.hid hsta
    clear hL hK hC hv hx l1 l2 hall
    obtain ⟨i0, hi, hz0', hz1', hz2'⟩ := info_parts infoInt64
    replace hi := Lib.hid hi
    replace hz0' := Lib.hid hz0'
    replace hz1' := Lib.hid hz1'
    replace hz2' := Lib.hid hz2'
    go_enter Tryd.func13, Tryd.ntmps13
    go_wp2_with fail
    refine (hic.out _ hxn.out (by simp; omega)).mono ?_
    rintro e1 w1 ⟨rfl, hb1⟩
    have hs1 := hb1.size
    simp only [World.size_alloc] at hs1
    have hW1 := hW0.out.below hb1 (by simp)
    have hB1 := hb0.out.trans (hb1.mono (by simp))
    have hx1 := hxn.out.below (hb1.mono (by simp; omega))
    have y0 : (w1.alloc (.cells #[] 2)).cell? ⟨w.heap.size, 0, none⟩ = some (.int .i64 a) := by simpa using (hW1.alloc (.cells #[] 2)).cell 0
    have y1 : (w1.alloc (.cells #[] 2)).cell? ⟨w.heap.size, 1, none⟩ = some (.int .i64 b) := by simpa using (hW1.alloc (.cells #[] 2)).cell 1
    have y2 : (w1.alloc (.cells #[] 2)).cell? ⟨w.heap.size, 2, none⟩ = some (.int .i64 c) := by simpa using (hW1.alloc (.cells #[] 2)).cell 2
    have y3 : (w1.alloc (.cells #[] 2)).cell? ⟨w.heap.size, 3, none⟩ = some (.int .i64 d) := by simpa using (hW1.alloc (.cells #[] 2)).cell 3
    have y4 : (w1.alloc (.cells #[] 2)).cell? ⟨w.heap.size, 4, none⟩ = some (.int .i64 e) := by simpa using (hW1.alloc (.cells #[] 2)).cell 4
    have y5 : (w1.alloc (.cells #[] 2)).cell? ⟨w.heap.size, 5, none⟩ = some (.int .i64 f) := by simpa using (hW1.alloc (.cells #[] 2)).cell 5
    have y6 : (w1.alloc (.cells #[] 2)).cell? ⟨w.heap.size, 6, none⟩ = some (.int .i64 g) := by simpa using (hW1.alloc (.cells #[] 2)).cell 6
    have y7 : (w1.alloc (.cells #[] 2)).cell? ⟨w.heap.size, 7, none⟩ = some (.int .i64 h) := by simpa using (hW1.alloc (.cells #[] 2)).cell 7
    have y8 : (w1.alloc (.cells #[] 2)).cell? ⟨w.heap.size, 8, none⟩ = some (.slice A n cp) := by simpa using (hW1.alloc (.cells #[] 2)).cell 8
    go_wp2_with fail
    refine (hsta.out _ (hx1.below ((Below.refl _ _).alloc (by omega) _)) (by simp; omega)).mono ?_
    rintro e1 w3 ⟨A2, c2, rfl, hownS, hb3⟩
    have hO : w3.ownsRow (w.heap.size + 1) 2 1 (.slice (some ⟨w1.heap.size, 0, none⟩) 0 0) 0 ((lgL xs 0).map (Value.int .i64)) :=
      own_empty ((Whole.new w1 2 #[]).below hb3 (by simp)) hs1
    have hs3 := hb3.size
    simp only [World.size_alloc] at hs3
    have hB3 : Below w.heap.size w w3 := (hB1.alloc (by omega) _).trans (hb3.mono (by simp; omega))
    obtain ⟨g2, cur, rfl, hg2, hW2, hc2, hcm2, hcur⟩ := sta_open hownS (by omega)
    have hcur2 : ∀ j, j < (n + 2) * 2 → cur[j]? = some (.int .i64 (stF a b c d e f g h n M j)) := hcur
    rw [hxs.out] at hcur2
    clear hcur hownS hW1 hB1 hx1 y0 y1 y2 y3 y4 y5 y6 y7 y8 
    replace hcur2 := Lib.hid hcur2
    replace hW2 := Lib.hid hW2
    replace hB3 := Lib.hid hB3
    simp only [maxLen] at hcm2
    go_wp2_with fail
    go_loopw [4, 6] (fun v4 v6 wr => ∃ k : Nat, k ≤ n + 1 ∧ v6 = .int .i64 ((k : Int) + 1) ∧ wr.ownsRow (w.heap.size + 1) 2 1 v4 k ((lgL xs k).map (Value.int .i64)) ∧ Hid (Whole wr g2 32 cur) ∧ Hid (Below w.heap.size w wr) ∧ w.heap.size + 1 ≤ wr.heap.size) (fun v4 v6 _ => (n + 2 - intOf v6).toNat)
    case atStart => exact ⟨0, by omega, by go_num, hO, hW2, hB3, by omega⟩
    case round =>
      obtain ⟨k, hk, rfl, hown, hWr, hbel, hsz⟩ := hrel
      clear hO hW2 hB3
      by_cases hlt : k < n + 1
      · have hwr : IntKind.i64.wrap (k : Int) = k := IntWalk.i64_in _ (by omega)
        have hk3 : (k : Int) < (n : Int) + 2 := by omega
        have hk4 : (k : Int) + 1 < (n : Int) + 2 := by omega
        have hk5 : 0 ≤ (k : Int) + 1 := by omega
        have hgl := Lib.hid hWr.out.lt
        have y0 : wr.cell? ⟨g2, (k + 1) * 2, none⟩ = some (.int .i64 (xs ((k + 1) * 2))) := (hWr.out.cell _).trans (hcur2.out _ (by omega))
        have y1 : wr.cell? ⟨g2, (k + 1) * 2 + 1, none⟩ = some (.int .i64 (xs ((k + 1) * 2 + 1))) := (hWr.out.cell _).trans (hcur2.out _ (by omega))
        have y2 : wr.cell? ⟨g2, k * 2, none⟩ = some (.int .i64 (xs (k * 2))) := (hWr.out.cell _).trans (hcur2.out _ (by omega))
        have y3 : wr.cell? ⟨g2, k * 2 + 1, none⟩ = some (.int .i64 (xs (k * 2 + 1))) := (hWr.out.cell _).trans (hcur2.out _ (by omega))
        have p1 := hpt.out k (by omega)
        have p2 := hpt.out (k + 1) (by omega)
        have hsq := fun W => squareDistance_any _ _ _ _ p1 p2 W
        obtain ⟨s0, s1, _⟩ := sqD_bd p1 p2
        obtain ⟨q, hq⟩ : ∃ q : Nat, sqD (xs (k * 2)) (xs (k * 2 + 1)) (xs ((k + 1) * 2)) (xs ((k + 1) * 2 + 1)) = q := ⟨_, (Int.toNat_of_nonneg s0).symm⟩
        have hlg : lgL xs (k + 1) = lgL xs k ++ [((rtN q : Nat) : Int)] := by
          show lgL xs k ++ [legF xs k] = _
          unfold legF; rw [hq]; rfl
        have hroot := fun W => rootOf_any q (rtN q) (rtN_root q) (by omega) W
        rw [hq] at hsq
        obtain ⟨A', c', rfl, hnc, hcm⟩ := own_form hown
        generalize lgL xs k = L at hown hlg
        generalize rtN q = r at hlg hroot
        generalize xs ((k + 1) * 2) = a1 at *
        generalize xs ((k + 1) * 2 + 1) = b1 at *
        generalize xs (k * 2) = c1 at *
        generalize xs (k * 2 + 1) = d1 at *
        replace hlg := Lib.hid hlg
        replace hsq := Lib.hid hsq
        replace hroot := Lib.hid hroot
        clear p1 p2 hq s0 s1
        go_wp2_with fail
        go_region_law (first
          | (refine step_append_own rfl (.tmp 19) (.tmp 31) 42 rfl (w.heap.size + 1) 2 i0 _ 1 8 Tryd.underlying42 hi.out hz0'.out hz1'.out hz2'.out rfl (by decide) _ k _ (by rfl) (by first | exact hown3 | exact hown3.alloc _ | exact hown3.drew | exact (hown3.alloc _).drew) _ 1 1 [.int .i64 r] (by rfl) rfl (by exact news_whole (Whole.new w5 2 #[.int .i64 r])) (by simp [Value.oneCell']) (by simp only [maxLen]; omega) (by omega) (by simp; omega) ?_; intro v' w6 hown4 hg4)
          | (go_simp; go_at_call 26; refine (hsq.out _).mono ?_; rintro e w4 ⟨rfl, hb4⟩)
          | (go_simp; go_at_call 25; refine (hroot.out _).mono ?_; rintro e w5 ⟨rfl, hb5⟩; have hb6 : Below wr.heap.size wr w5 := (by first | exact hb4.trans (hb5.mono hb4.size) | exact ((Below.refl _ _).drew.trans hb4).trans (hb5.mono hb4.size)); have hown3 := own_below hown hb6; have hz5 := hb6.size))
        all_goals have hown6 : w6.ownsRow (w.heap.size + 1) 2 1 v' (k + 1) ((lgL xs (k + 1)).map (Value.int .i64)) := by rw [hlg.out]; simpa using hown4
        all_goals have hW6 : Hid (Whole w6 g2 32 cur) := Lib.hid (((hWr.out.below hb6 hgl.out).alloc _).grown hg4 (own_whole hown hWr.out (by decide)))
        all_goals have hb7 : Hid (Below w.heap.size w w6) := Lib.hid (((hbel.out.trans (hb6.mono (by omega))).alloc (by omega) _).trans (below_only hg4 (by simp; omega) (fun k hk => by have := (hown.lt k hk).1; omega)))
        all_goals have hz6 : w.heap.size + 1 ≤ w6.heap.size := by have := hg4.size; simp at this; omega
        all_goals clear hown4 hg4 hb4 hb5 hb6 hown3 hown hWr hbel
        all_goals go_wp2
        all_goals go_roundw
        all_goals first
          | exact ⟨k + 1, by omega, by go_num, hown6, hW6, hb7, hz6⟩
          | (simp [intOf]; omega)
      · obtain rfl : k = n + 1 := by omega
        obtain ⟨A', c', rfl, hnc, hcm⟩ := own_form hown
        have hne : ¬ ((n : Int) + 1 + 1 < (n : Int) + 2) := by omega
        go_wp2
        go_ret2
        exact ⟨A', c', rfl, by omega, own_base hown (Nat.le_succ _), hbel.out⟩
set_option maxRecDepth 100000 in
set_option maxHeartbeats 8000000 in
theorem sLegLengths_any (a b c d e f g h : Int) (A : Option Addr) (n cp B : Nat) (M : Nat → MkV) (w : World) (hx : Mks w B A n M) (hB : B ≤ w.heap.size) (hn : n ≤ 1048576) (hcp : n ≤ cp) :
    Calls Tryd.prog 10 #[.agg #[.int .i64 a, .int .i64 b, .int .i64 c, .int .i64 d, .int .i64 e, .int .i64 f, .int .i64 g, .int .i64 h, .slice A n cp]] w fun e' w' => Gave 2 1 (legK a b c d e f g h n M) w w' e' (legL a b c d e f g h n M) (legC a b c d e f g h n M) := by
  have hb0 := (Below.refl w.heap.size w).alloc (Nat.le_refl _) (.cells #[.int .i64 a, .int .i64 b, .int .i64 c, .int .i64 d, .int .i64 e, .int .i64 f, .int .i64 g, .int .i64 h, .slice A n cp] 37)
  have hW0 := Whole.new w 37 #[.int .i64 a, .int .i64 b, .int .i64 c, .int .i64 d, .int .i64 e, .int .i64 f, .int .i64 g, .int .i64 h, .slice A n cp]
  have hxn := hx.below (hb0.mono hB)
  replace hb0 := Lib.hid hb0
  replace hxn := Lib.hid hxn
  replace hW0 := Lib.hid hW0
  obtain ⟨v, hv⟩ : ∃ v, crsB a b c d e f g h n M = v := ⟨_, rfl⟩
  have hic := fun W hW hb => sIsCourse_any a b c d e f g h A n cp B M v hv W hW hb hn hcp
  replace hic := Lib.hid hic
  cases v with
  | false =>
    have hL : legL a b c d e f g h n M = [] := by unfold legL; rw [hv]; rfl
    have hK : legK a b c d e f g h n M = 0 := by unfold legK; rw [hv]; rfl
    have hC : legC a b c d e f g h n M = 1 := by unfold legC; rw [hv]; rfl
    rw [hL, hK, hC]
    clear hL hK hC hv hx
    go_enter Tryd.func10, Tryd.ntmps10
    go_wp2_with fail
    refine (hic.out _ (hxn.out.below ((Below.refl _ _).alloc (by simp; omega) _)) (by simp; omega)).mono ?_
    rintro e1 w1 ⟨rfl, hb1⟩
    have hO : w1.ownsRow w.heap.size 2 1 (.slice (some ⟨w.heap.size + 1, 0, none⟩) 0 0) 0 (([] : List Int).map (Value.int .i64)) := by
      have := (Whole.new (w.alloc (.cells #[.int .i64 a, .int .i64 b, .int .i64 c, .int .i64 d, .int .i64 e, .int .i64 f, .int .i64 g, .int .i64 h, .slice A n cp] 37)) 2 #[]).below hb1 (by simp)
      simp only [World.size_alloc] at this
      exact own_empty this (by omega)
    go_wp2
    go_ret2
    exact ⟨_, _, rfl, by omega, hO, hb0.out.trans (((Below.refl _ _).alloc (by simp) _).trans (hb1.mono (by simp; omega)))⟩
  | true =>
    have hL : legL a b c d e f g h n M = lgL (stF a b c d e f g h n M) (n + 1) := by unfold legL; rw [hv]; rfl
    have hK : legK a b c d e f g h n M = n + 1 := by unfold legK; rw [hv]; rfl
    have hC : legC a b c d e f g h n M = 0 := by unfold legC; rw [hv]; rfl
    rw [hL, hK, hC]
    obtain ⟨l1, l2, n1, n8, hall⟩ := crsB_t hv
    have hpt := fun j hj => sta_pt hv (j := j) hj
    have hsta := fun W hW hb => l04Stations_any a b c d e f g h _ _ _ _ A n cp B M l1 l2 rfl rfl rfl rfl W hW hb hn
    obtain ⟨xs, hxs⟩ : ∃ xs, stF a b c d e f g h n M = xs := ⟨_, rfl⟩
    rw [hxs]
    simp only [hxs] at hpt
    replace hxs := Lib.hid hxs
    replace hpt := Lib.hid hpt
    replace hsta := Lib.hid hsta
    clear hL hK hC hv hx l1 l2 hall
    obtain ⟨i0, hi, hz0', hz1', hz2'⟩ := info_parts infoInt64
    replace hi := Lib.hid hi
    replace hz0' := Lib.hid hz0'
    replace hz1' := Lib.hid hz1'
    replace hz2' := Lib.hid hz2'
    go_enter Tryd.func10, Tryd.ntmps10
    go_wp2_with fail
    refine (hic.out _ (hxn.out.below ((Below.refl _ _).alloc (by simp; omega) _)) (by simp; omega)).mono ?_
    rintro e1 w1 ⟨rfl, hb1⟩
    have hs1 := hb1.size
    simp only [World.size_alloc] at hs1
    have hW1 := (hW0.out.alloc (.cells #[] 2)).below hb1 (by simp; omega)
    have hB1 := (hb0.out.alloc (by simp) (.cells #[] 2)).trans (hb1.mono (by simp; omega))
    have hx1 := (hxn.out.below ((Below.refl _ _).alloc (by simp; omega) (.cells #[] 2))).below (hb1.mono (by simp; omega))
    have hO1 := (Whole.new (w.alloc (.cells #[.int .i64 a, .int .i64 b, .int .i64 c, .int .i64 d, .int .i64 e, .int .i64 f, .int .i64 g, .int .i64 h, .slice A n cp] 37)) 2 #[]).below hb1 (by simp)
    simp only [World.size_alloc] at hO1
    have y0 : w1.cell? ⟨w.heap.size, 0, none⟩ = some (.int .i64 a) := by simpa using hW1.cell 0
    have y1 : w1.cell? ⟨w.heap.size, 1, none⟩ = some (.int .i64 b) := by simpa using hW1.cell 1
    have y2 : w1.cell? ⟨w.heap.size, 2, none⟩ = some (.int .i64 c) := by simpa using hW1.cell 2
    have y3 : w1.cell? ⟨w.heap.size, 3, none⟩ = some (.int .i64 d) := by simpa using hW1.cell 3
    have y4 : w1.cell? ⟨w.heap.size, 4, none⟩ = some (.int .i64 e) := by simpa using hW1.cell 4
    have y5 : w1.cell? ⟨w.heap.size, 5, none⟩ = some (.int .i64 f) := by simpa using hW1.cell 5
    have y6 : w1.cell? ⟨w.heap.size, 6, none⟩ = some (.int .i64 g) := by simpa using hW1.cell 6
    have y7 : w1.cell? ⟨w.heap.size, 7, none⟩ = some (.int .i64 h) := by simpa using hW1.cell 7
    have y8 : w1.cell? ⟨w.heap.size, 8, none⟩ = some (.slice A n cp) := by simpa using hW1.cell 8
    go_wp2_with fail
    refine (hsta.out _ hx1 (by omega)).mono ?_
    rintro e1 w3 ⟨A2, c2, rfl, hownS, hb3⟩
    have hO : w3.ownsRow (w.heap.size + 1) 2 1 (.slice (some ⟨w.heap.size + 1, 0, none⟩) 0 0) 0 ((lgL xs 0).map (Value.int .i64)) :=
      own_empty (hO1.below hb3 (by omega)) (by omega)
    have hs3 := hb3.size
    have hB3 : Below w.heap.size w w3 := hB1.trans (hb3.mono (by omega))
    obtain ⟨g2, cur, rfl, hg2, hW2, hc2, hcm2, hcur⟩ := sta_open hownS (by omega)
    have hcur2 : ∀ j, j < (n + 2) * 2 → cur[j]? = some (.int .i64 (stF a b c d e f g h n M j)) := hcur
    rw [hxs.out] at hcur2
    clear hcur hownS hW1 hB1 hx1 y0 y1 y2 y3 y4 y5 y6 y7 y8 hO1
    replace hcur2 := Lib.hid hcur2
    replace hW2 := Lib.hid hW2
    replace hB3 := Lib.hid hB3
    simp only [maxLen] at hcm2
    go_wp2_with fail
    go_loopw [4, 6] (fun v4 v6 wr => ∃ k : Nat, k ≤ n + 1 ∧ v6 = .int .i64 ((k : Int) + 1) ∧ wr.ownsRow (w.heap.size + 1) 2 1 v4 k ((lgL xs k).map (Value.int .i64)) ∧ Hid (Whole wr g2 32 cur) ∧ Hid (Below w.heap.size w wr) ∧ w.heap.size + 1 ≤ wr.heap.size) (fun v4 v6 _ => (n + 2 - intOf v6).toNat)
    case atStart => exact ⟨0, by omega, by go_num, hO, hW2, hB3, by omega⟩
    case round =>
      obtain ⟨k, hk, rfl, hown, hWr, hbel, hsz⟩ := hrel
      clear hO hW2 hB3
      by_cases hlt : k < n + 1
      · have hwr : IntKind.i64.wrap (k : Int) = k := IntWalk.i64_in _ (by omega)
        have hk3 : (k : Int) < (n : Int) + 2 := by omega
        have hk4 : (k : Int) + 1 < (n : Int) + 2 := by omega
        have hk5 : 0 ≤ (k : Int) + 1 := by omega
        have hgl := Lib.hid hWr.out.lt
        have y0 : wr.cell? ⟨g2, (k + 1) * 2, none⟩ = some (.int .i64 (xs ((k + 1) * 2))) := (hWr.out.cell _).trans (hcur2.out _ (by omega))
        have y1 : wr.cell? ⟨g2, (k + 1) * 2 + 1, none⟩ = some (.int .i64 (xs ((k + 1) * 2 + 1))) := (hWr.out.cell _).trans (hcur2.out _ (by omega))
        have y2 : wr.cell? ⟨g2, k * 2, none⟩ = some (.int .i64 (xs (k * 2))) := (hWr.out.cell _).trans (hcur2.out _ (by omega))
        have y3 : wr.cell? ⟨g2, k * 2 + 1, none⟩ = some (.int .i64 (xs (k * 2 + 1))) := (hWr.out.cell _).trans (hcur2.out _ (by omega))
        have p1 := hpt.out k (by omega)
        have p2 := hpt.out (k + 1) (by omega)
        have hsq := fun W => l01Square_any _ _ _ _ p1 p2 W
        obtain ⟨s0, s1, _⟩ := sqD_bd p1 p2
        obtain ⟨q, hq⟩ : ∃ q : Nat, sqD (xs (k * 2)) (xs (k * 2 + 1)) (xs ((k + 1) * 2)) (xs ((k + 1) * 2 + 1)) = q := ⟨_, (Int.toNat_of_nonneg s0).symm⟩
        have hlg : lgL xs (k + 1) = lgL xs k ++ [((rtN q : Nat) : Int)] := by
          show lgL xs k ++ [legF xs k] = _
          unfold legF; rw [hq]; rfl
        have hroot := fun W => l01Root_any q (rtN q) (rtN_root q) (by omega) W
        rw [hq] at hsq
        obtain ⟨A', c', rfl, hnc, hcm⟩ := own_form hown
        generalize lgL xs k = L at hown hlg
        generalize rtN q = r at hlg hroot
        generalize xs ((k + 1) * 2) = a1 at *
        generalize xs ((k + 1) * 2 + 1) = b1 at *
        generalize xs (k * 2) = c1 at *
        generalize xs (k * 2 + 1) = d1 at *
        replace hlg := Lib.hid hlg
        replace hsq := Lib.hid hsq
        replace hroot := Lib.hid hroot
        clear p1 p2 hq s0 s1
        go_wp2_with fail
        go_region_law (first
          | (refine step_append_own rfl (.tmp 20) (.tmp 32) 42 rfl (w.heap.size + 1) 2 i0 _ 1 8 Tryd.underlying42 hi.out hz0'.out hz1'.out hz2'.out rfl (by decide) _ k _ (by rfl) (by first | exact hown3 | exact hown3.alloc _ | exact hown3.drew | exact (hown3.alloc _).drew) _ 1 1 [.int .i64 r] (by rfl) rfl (by exact news_whole (Whole.new w5 2 #[.int .i64 r])) (by simp [Value.oneCell']) (by simp only [maxLen]; omega) (by omega) (by simp; omega) ?_; intro v' w6 hown4 hg4)
          | (go_simp; go_at_call 20; refine (hsq.out _).mono ?_; rintro e w4 ⟨rfl, hb4⟩)
          | (go_simp; go_at_call 19; refine (hroot.out _).mono ?_; rintro e w5 ⟨rfl, hb5⟩; have hb6 : Below wr.heap.size wr w5 := (by first | exact hb4.trans (hb5.mono hb4.size) | exact ((Below.refl _ _).drew.trans hb4).trans (hb5.mono hb4.size)); have hown3 := own_below hown hb6; have hz5 := hb6.size))
        all_goals have hown6 : w6.ownsRow (w.heap.size + 1) 2 1 v' (k + 1) ((lgL xs (k + 1)).map (Value.int .i64)) := by rw [hlg.out]; simpa using hown4
        all_goals have hW6 : Hid (Whole w6 g2 32 cur) := Lib.hid (((hWr.out.below hb6 hgl.out).alloc _).grown hg4 (own_whole hown hWr.out (by decide)))
        all_goals have hb7 : Hid (Below w.heap.size w w6) := Lib.hid (((hbel.out.trans (hb6.mono (by omega))).alloc (by omega) _).trans (below_only hg4 (by simp; omega) (fun k hk => by have := (hown.lt k hk).1; omega)))
        all_goals have hz6 : w.heap.size + 1 ≤ w6.heap.size := by have := hg4.size; simp at this; omega
        all_goals clear hown4 hg4 hb4 hb5 hb6 hown3 hown hWr hbel
        all_goals go_wp2
        all_goals go_roundw
        all_goals first
          | exact ⟨k + 1, by omega, by go_num, hown6, hW6, hb7, hz6⟩
          | (simp [intOf]; omega)
      · obtain rfl : k = n + 1 := by omega
        obtain ⟨A', c', rfl, hnc, hcm⟩ := own_form hown
        have hne : ¬ ((n : Int) + 1 + 1 < (n : Int) + 2) := by omega
        go_wp2
        go_ret2
        exact ⟨A', c', rfl, by omega, own_base hown (Nat.le_succ _), hbel.out⟩
end Go.Proofs.YtfllbhgngolfnaaDoor
