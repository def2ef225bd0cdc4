/- Windows merged: the program's walk. -/
import Derived.Test.YtghpaegabppeaaaMrg3
set_option linter.unusedSimpArgs false
set_option linter.unusedVariables false
namespace Go.Proofs.Ytghpaegabppeaaa
open Go.RowKit Go.Shelf

set_option maxRecDepth 100000 in
set_option maxHeartbeats 16000000 in
theorem mergeWindows_val (A : Option Addr) (n c B : Nat) (xs : Nat → Int) (w : World) (K : Nat) (L : List Int) (co : Int) (hL : Hid (mrgL n xs = L)) (hc : Hid (codM n xs = co)) (hK : Hid (L.length = K * 2)) (hx : Ints w B A (n * 2) xs) (hB : B ≤ w.heap.size) (hn : n ≤ 9223372036854775807) (hA : A = none → n = 0 ∧ c = 0) :
    Calls Try.prog 34 #[.slice A n c] w fun e w' => Gave 51 2 K w w' e L co := by
  have hnil : co ≠ 0 → L = [] ∧ K = 0 := fun h => by
    have e : L = [] := by rw [← hL.out]; exact codM_ne (by rw [hc.out]; exact h)
    subst e
    exact ⟨rfl, by have := hK.out; simp at this; omega⟩
  have hcall := containsM_any A n c B xs w hx hB hn
  cases hok : okA n xs with
  | false =>
    have e2 : co = 2 := by rw [← hc.out]; unfold codM; rw [hok]; rfl
    subst e2
    obtain ⟨e3, e4⟩ := hnil (by decide)
    subst e3
    subst e4
    rw [hok] at hcall
    replace hcall := Lib.hid hcall
    clear hnil hx hA
    go_enter Try.func34, Try.ntmps34
    go_wp2_with fail
    refine hcall.out.mono ?_
    rintro e w1 ⟨rfl, hb1⟩
    go_wp2
    go_ret2
    exact gave_nil hb1
  | true =>
    rw [hok] at hcall
    replace hcall := Lib.hid hcall
    by_cases h30 : 30 < n
    · have h30' : (30 : Int) < n := by omega
      have e3 : co = 3 := by rw [← hc.out]; unfold codM; rw [hok, if_pos rfl, if_neg (by omega)]
      subst e3
      obtain ⟨e3, e4⟩ := hnil (by decide)
      subst e3
      subst e4
      clear hnil hx hA
      go_enter Try.func34, Try.ntmps34
      go_wp2_with fail
      refine hcall.out.mono ?_
      rintro e w1 ⟨rfl, hb1⟩
      go_wp2
      go_ret2
      exact gave_nil hb1
    · have h30' : ¬ ((30 : Int) < n) := by omega
      have e0 : co = 0 := by rw [← hc.out]; unfold codM; rw [hok, if_pos rfl, if_pos (by omega)]
      subst e0
      have hlaw : ∀ S : List (Int × Int), S.Perm (prs xs n) → srtd S → flatW (S.foldl stepR []).reverse = L := fun S h1 h2 => by
        rw [mrg_law hok h1 h2, ← hL.out]; unfold mrgL; rw [if_pos hc.out]
      have hprs := prs_ok hok
      replace hlaw := Lib.hid hlaw
      replace hprs := Lib.hid hprs
      obtain ⟨i0, hi, hz0', hz1', hz2'⟩ := info_parts infoWindow
      replace hi := Lib.hid hi
      replace hz0' := Lib.hid hz0'
      replace hz1' := Lib.hid hz1'
      replace hz2' := Lib.hid hz2'
      replace hx := Lib.hid hx
      replace hA := Lib.hid hA
      clear hnil hL
      go_enter Try.func34, Try.ntmps34
      go_wp2_with fail
      refine hcall.out.mono ?_
      rintro e w1 ⟨rfl, hb1⟩
      have hz1 := hb1.size
      clear hcall
      go_wp2_with fail
      refine (cloneW_any A n c w1.heap.size xs w1 ((hx.out.below (hb1.mono hB)).more (by omega)) (Nat.le_refl _) (by omega) hA.out).mono ?_
      rintro e w2 ⟨vS, rfl, hownS, hb2⟩
      have hz2 := hb2.size
      have hbb2 := hb1.trans (hb2.mono hz1)
      have hownS1 := own_base (b := w.heap.size) (hownS.alloc (.cells #[] 51)) hz1
      have hownO : (w2.alloc (.cells #[] 51)).ownsRow w2.heap.size 51 2 (.slice (some ⟨w2.heap.size, 0, none⟩) 0 0) 0 [] := own_empty (Whole.new _ _ _) (Nat.le_refl _)
      have hWO := Whole.new w2 51 #[]
      have hbO := hbb2.alloc hbb2.size (.cells #[] 51)
      have hltS := hownS.lt
      obtain ⟨AS, cS, rfl, hncS, hcmS⟩ := own_form hownS
      have hownS2 := hownS.alloc (.cells #[] 51)
      replace hownS2 := Lib.hid hownS2
      replace hWO := Lib.hid hWO
      replace hbO := Lib.hid hbO
      replace hltS := Lib.hid hltS
      clear hownS hownS1 hownO hb1 hb2 hbb2
      go_wp2_with fail
      refine (sortWin_any (prs xs n) hprs.out _ n w1.heap.size _ (prs_len xs n) (by omega) hownS2.out (by simp; omega)).mono ?_
      rintro e w3 ⟨rfl, S, hSp, hSs, hown3, hb3, hgr3⟩
      have hSl : S.length = n := by rw [hSp.length_eq, prs_len]
      have hbb3 := hbO.out.trans (hb3.mono (B' := w.heap.size) (by omega))
      have hz3 := hbb3.size
      have hz3' := hb3.size
      have hlaw2 := Lib.hid (hlaw.out S hSp hSs)
      have hWO3 : Whole w3 w2.heap.size 51 #[] := hWO.out.grown hgr3 (fun e => by have := (hltS.out _ e).2; omega)
      rcases Nat.eq_zero_or_pos n with hn0 | hn0
      · subst hn0
        have hS0 : S = [] := List.length_eq_zero_iff.1 hSl
        subst hS0
        have hLn : L = [] := hlaw2.out.symm
        subst hLn
        have hK0 : K = 0 := by have := hK.out; simp at this; omega
        subst hK0
        clear hlaw hownS2 hlaw2
        go_wp2_with fail
        go_loopw [5, 8, 21] (fun v5 _ v21 wr => v5 = .slice (some ⟨w2.heap.size, 0, none⟩) 0 0 ∧ v21 = .int .i64 0 ∧ wr = w3) (fun _ _ _ _ => 0)
        case atStart => exact ⟨rfl, rfl, rfl⟩
        case round =>
          obtain ⟨rfl, rfl, rfl⟩ := hrel
          go_wp2
          go_ret2
          exact ⟨some ⟨w2.heap.size, 0, none⟩, 0, rfl, by omega, ⟨by simp, .inr ⟨w2.heap.size, 0, #[], rfl, by omega, hWO3, Nat.le_refl _, by simp [maxLen], by simp, by simp⟩⟩, hbb3⟩
      · obtain ⟨g, cap, cur, hvS, hgb, hW, hnc, hcm, hcs, hcur⟩ := own_open hown3 hn0
        injection hvS with hv1 _ hv3
        subst hv1
        subst hv3
        have hg2 : g < w2.heap.size := (hltS.out g rfl).2
        obtain ⟨hzl, hcs2⟩ := cells_of hown3
        have hcell : Hid (∀ k, k < n → cur[k * 2]? = some (.int .i64 (S.getD k (0, 0)).1) ∧ cur[k * 2 + 1]? = some (.int .i64 (S.getD k (0, 0)).2)) := Lib.hid (fun k hk => by
          obtain ⟨f1, f2⟩ := flatW_get S k (by omega)
          rw [← f1, ← f2]
          exact ⟨hcur _ _ (hcs2 _ (by omega)), hcur _ _ (hcs2 _ (by omega))⟩)
        have hown3' : w3.ownsRow w.heap.size 51 2 (.slice (some ⟨w2.heap.size, 0, none⟩) 0 0) 0 ((flatW ([] : List (Int × Int)).reverse).map (Value.int .i64)) := own_base (own_empty (base := w2.heap.size) (hWO3) (Nat.le_refl _)) (by omega)
        clear hcs2 hcur hown3 hownS2 hWO hbO hlaw hSp hSs
        go_wp2_with fail
        go_loopw [5, 8, 21] (fun v5 _ v21 wr => ∃ (q g2 c2 nz : Nat) (R : List (Int × Int)), q ≤ n ∧ v21 = .int .i64 q ∧ Hid ((S.take q).foldl stepR [] = R) ∧ Hid (R.length = nz) ∧ nz ≤ q ∧ v5 = .slice (some ⟨g2, 0, none⟩) nz c2 ∧ wr.ownsRow w.heap.size 51 2 v5 nz ((flatW R.reverse).map (Value.int .i64)) ∧ Whole wr g 51 cur ∧ g2 ≠ g ∧ Below w.heap.size w wr) (fun _ _ v21 _ => (n - intOf v21).toNat)
        case atStart => exact ⟨0, _, _, 0, [], by omega, rfl, Lib.hid rfl, Lib.hid rfl, by omega, rfl, hown3', hW, by omega, hbb3⟩
        case round =>
          obtain ⟨q, g2, c2, nz, R, hq, rfl, hR, hnz, hnq, rfl, hownR, hWg, hgne, hbr⟩ := hrel
          clear hown3' hW hbb3 hb3
          have hbrz := hbr.size
          by_cases hlt : q < n
          · have hlt' : (q : Int) < n := by omega
            obtain ⟨k0, k1⟩ := hcell.out q hlt
            have hfold := fold_take (S := S) (i := q) (by omega)
            rw [hR.out] at hfold
            obtain ⟨⟨xa, xb⟩, hxx⟩ : ∃ z, S.getD q (0, 0) = z := ⟨_, rfl⟩
            rw [hxx] at k0 k1 hfold
            have h0 : wr.cell? ⟨g, q * 2, none⟩ = some (.int .i64 xa) := (hWg.cell _).trans k0
            have h1 : wr.cell? ⟨g, q * 2 + 1, none⟩ = some (.int .i64 xb) := (hWg.cell _).trans k1
            have hXw := Whole.new wr 51 #[.int .i64 xa, .int .i64 xb]
            have hownX := hownR.alloc (.cells #[.int .i64 xa, .int .i64 xb] 51)
            have hWX := hWg.alloc (.cells #[.int .i64 xa, .int .i64 xb] 51)
            have hbX := hbr.alloc hbrz (.cells #[.int .i64 xa, .int .i64 xb] 51)
            have C0 : ∀ u : Over (wr.alloc (.cells #[.int .i64 xa, .int .i64 xb] 51)), u.w.cell? ⟨wr.heap.size, 0, none⟩ = some (.int .i64 xa) := fun u => u.cell (by simp) (by simp)
            have C1 : ∀ u : Over (wr.alloc (.cells #[.int .i64 xa, .int .i64 xb] 51)), u.w.cell? ⟨wr.heap.size, 1, none⟩ = some (.int .i64 xb) := fun u => u.cell (by simp) (by simp)
            have hgll := hWg.lt
            clear hxx k0 k1
            cases R with
            | nil =>
              obtain rfl : nz = 0 := hnz.out.symm
              have hfold2 : Hid ((S.take (q + 1)).foldl stepR [] = [(xa, xb)]) := Lib.hid hfold
              have hnz2 : Hid ([(xa, xb)].length = 0 + 1) := Lib.hid rfl
              replace hownX := Lib.hid hownX
              replace hWX := Lib.hid hWX
              replace hbX := Lib.hid hbX
              clear hfold hR hnz hXw hownR hWg hbr
              go_wp2_with fail
              refine wp_region_over (by kernel_rfl) (by kernel_rfl) ?_
              repeat (go_big_quiet_step (fail))
              refine wpQuiet_nil ?_
              rintro _ ⟨u, rfl⟩
              have hownU := own_below hownX.out u.ok
              have hWU := hWX.out.below u.ok hWX.out.lt
              have hbU := hbX.out.trans (u.ok.mono hbX.out.size)
              have d0 := C0 u
              have d1 := C1 u
              clear C0 C1 hownX hWX hbX h0 h1
              have hnew := Whole.new u.w 51 #[.int .i64 xa, .int .i64 xb]
              have hownA := hownU.alloc (.cells #[.int .i64 xa, .int .i64 xb] 51)
              have hWA := hWU.alloc (.cells #[.int .i64 xa, .int .i64 xb] 51)
              have hbA := hbU.alloc hbU.size (.cells #[.int .i64 xa, .int .i64 xb] 51)
              have hbUz := hbU.size
              have hglU := hWU.lt
              go_wp2_with (at_builtin; refine wpList_append_own_at _ rfl _ _ 25 rfl w.heap.size 51 i0 _ 2 16 Try.underlying25 hi.out hz0'.out hz1'.out hz2'.out rfl (by decide) _ _ _ rfl hownA ⟨u.w.heap.size, 0, none⟩ 1 1 [.int .i64 xa, .int .i64 xb] rfl rfl ?c1 ?c2 ?c3 ?c4 ?c5 ?_)
              case c1 =>
                intro k y hy
                rw [add_zero_off, hnew.cell]
                simpa using hy
              case c2 => simp [Value.oneCell']
              case c3 => simp only [maxLen]; omega
              case c4 => omega
              case c5 => simp; omega
              intro v' wy hown' hgrow _ hat
              replace hgrow : (u.w.alloc (.cells #[.int .i64 xa, .int .i64 xb] 51)).grownBy wy (some g2) := hgrow
              have hWy := hWA.grown hgrow (fun e => by injection e with e; exact hgne e)
              have hby := hbA.trans (below_only hgrow hbA.size (fun k hk => by injection hk with hk; have := (hownU.lt g2 rfl).1; omega))
              have hoy : wy.ownsRow w.heap.size 51 2 v' (0 + 1) ((flatW ((xa, xb) :: ([] : List (Int × Int))).reverse).map (Value.int .i64)) := by
                rw [mrg_push]
                simpa using hown'
              obtain ⟨g3, c3, cur3, rfl, -⟩ := own_open hoy (by omega)
              have hg3 : g3 ≠ g := by
                rcases hat with h | h
                · simp [Value.ownBlock] at h; omega
                · simp [Value.ownBlock] at h; omega
              clear hown' hgrow hat hownU hWU hbU hnew hownA hWA hbA
              go_wp2
              go_roundw
              case rel => exact ⟨q + 1, g3, c3, 0 + 1, _, by omega, by go_num, hfold2, hnz2, by omega, rfl, hoy, hWy, hg3, hby⟩
              case measure => simp [intOf]; omega
            | cons l r =>
              obtain ⟨m, hm⟩ : ∃ m, r.length = m := ⟨_, rfl⟩
              obtain rfl : nz = m + 1 := by have := hnz.out; simp at this; omega
              obtain ⟨hzl2, hcs⟩ := cells_of hownR
              have hlast := mrg_last l r
              rw [hm] at hlast
              have hset := mrg_set l r (max l.2 xb)
              rw [hm] at hset
              obtain ⟨g2', cap2, cur2, hv2, hg2b, hW2, -, -, -, hcur2⟩ := own_open hownR (by omega)
              injection hv2 with hv2 _ hv3
              injection hv2 with hv2
              injection hv2 with hv2
              subst hv2
              subst hv3
              have hl0 : wr.cell? ⟨g2, m * 2 + 1, none⟩ = some (.int .i64 l.2) := by
                rw [hW2.cell]
                have := hcur2 _ _ (hcs (m * 2 + 1) (by omega))
                rw [hlast] at this
                exact this
              obtain ⟨la, lb⟩ := l
              simp only at hl0 hset
              have hg2l := hW2.lt
              have C2 : ∀ u : Over (wr.alloc (.cells #[.int .i64 xa, .int .i64 xb] 51)), u.w.cell? ⟨g2, m * 2 + 1, none⟩ = some (.int .i64 lb) := fun u => u.cell (by simp; omega) (by rw [World.cell?_alloc_lt _ _ _ hg2l]; exact hl0)
              have hmm : IntKind.i64.wrap (((m : Int) + 1) - 1) = m := by rw [IntKind.wrap_i64]; omega
              have hmm2 : ((m : Int) + 1) - 1 = m := by omega
              have hmge : (0 : Int) < (m : Int) + 1 := by omega
              have hW2X := hW2.alloc (.cells #[.int .i64 xa, .int .i64 xb] 51)
              replace hset := Lib.hid hset
              replace hownX := Lib.hid hownX
              replace hWX := Lib.hid hWX
              replace hbX := Lib.hid hbX
              replace hW2X := Lib.hid hW2X
              clear hcs hlast hl0 hcur2 hzl2 hXw hownR hWg hbr hW2
              by_cases hle : xa ≤ lb
              · have hfold2 : Hid ((S.take (q + 1)).foldl stepR [] = (la, max lb xb) :: r) := Lib.hid (by rw [hfold]; show (if xa ≤ lb then (la, max lb xb) :: r else (xa, xb) :: (la, lb) :: r) = _; rw [if_pos hle])
                have hnz2 : Hid (((la, max lb xb) :: r).length = m + 1) := Lib.hid (by simp [hm])
                clear hfold hR hnz hm
                obtain ⟨mx, hmx⟩ : ∃ z, (if lb < xb then xb else lb) = z := ⟨_, rfl⟩
                have hmm' : max lb xb = mx := by rw [← hmx]; split <;> omega
                rw [hmm'] at hfold2 hnz2 hset
                replace hmm' := Lib.hid hmm'
                go_wp2_with fail
                refine wp_region_over (by kernel_rfl) (by kernel_rfl) ?_
                repeat (go_big_quiet_step (fail))
                refine wpQuiet_nil ?_
                rintro _ ⟨u, rfl⟩
                have hownU := own_below hownX.out u.ok
                have hWU := hWX.out.below u.ok hWX.out.lt
                have hbU := hbX.out.trans (u.ok.mono hbX.out.size)
                have hW2U := hW2X.out.below u.ok hW2X.out.lt
                have d0 := C0 u
                have d1 := C1 u
                have d2 := C2 u
                have f2 := hW2U.frz (m * 2 + 1)
                have hown3 := own_setI hownU (m * 2 + 1) mx
                rw [← hset.out] at hown3
                have hW3 := hWU.far (p := ⟨g2, m * 2 + 1, none⟩) (by simp; omega) (.int .i64 mx)
                have hb3 := hbU.setCell (p := ⟨g2, m * 2 + 1, none⟩) hg2b (.int .i64 mx)
                replace hown3 := Lib.hid hown3
                replace hW3 := Lib.hid hW3
                replace hb3 := Lib.hid hb3
                clear C0 C1 C2 hownX hWX hbX hW2X hownU hWU hbU hW2U hset h0 h1
                go_wp2_with fail
                go_region
                go_wp2
                go_roundw
                case rel => exact ⟨q + 1, g2, c2, m + 1, _, by omega, by go_num, hfold2, hnz2, by omega, rfl, by first | exact hown3.out | (rw [hmm'.out]; exact hown3.out), by first | exact hW3.out | (rw [hmm'.out]; exact hW3.out), hgne, by first | exact hb3.out.drew | (rw [hmm'.out]; exact hb3.out.drew)⟩
                case measure => simp [intOf]; omega
              · have hfold2 : Hid ((S.take (q + 1)).foldl stepR [] = (xa, xb) :: (la, lb) :: r) := Lib.hid (by rw [hfold]; show (if xa ≤ lb then (la, max lb xb) :: r else (xa, xb) :: (la, lb) :: r) = _; rw [if_neg hle])
                have hnz2 : Hid (((xa, xb) :: (la, lb) :: r).length = m + 1 + 1) := Lib.hid (by simp [hm])
                have hle2 : ¬ (xa ≤ lb) := hle
                clear hfold hR hnz hm hset hle hW2X
                go_wp2_with fail
                refine wp_region_over (by kernel_rfl) (by kernel_rfl) ?_
                repeat (go_big_quiet_step (fail))
                refine wpQuiet_nil ?_
                rintro _ ⟨u, rfl⟩
                have hownU := own_below hownX.out u.ok
                have hWU := hWX.out.below u.ok hWX.out.lt
                have hbU := hbX.out.trans (u.ok.mono hbX.out.size)
                have d0 := C0 u
                have d1 := C1 u
                clear C0 C1 C2 hownX hWX hbX h0 h1
                have hnew := Whole.new u.w 51 #[.int .i64 xa, .int .i64 xb]
                have hownA := hownU.alloc (.cells #[.int .i64 xa, .int .i64 xb] 51)
                have hWA := hWU.alloc (.cells #[.int .i64 xa, .int .i64 xb] 51)
                have hbA := hbU.alloc hbU.size (.cells #[.int .i64 xa, .int .i64 xb] 51)
                have hbUz := hbU.size
                have hglU := hWU.lt
                go_wp2_with (at_builtin; refine wpList_append_own_at _ rfl _ _ 25 rfl w.heap.size 51 i0 _ 2 16 Try.underlying25 hi.out hz0'.out hz1'.out hz2'.out rfl (by decide) _ _ _ rfl hownA ⟨u.w.heap.size, 0, none⟩ 1 1 [.int .i64 xa, .int .i64 xb] rfl rfl ?c1 ?c2 ?c3 ?c4 ?c5 ?_)
                case c1 =>
                  intro k y hy
                  rw [add_zero_off, hnew.cell]
                  simpa using hy
                case c2 => simp [Value.oneCell']
                case c3 => simp only [maxLen]; omega
                case c4 => omega
                case c5 => simp; omega
                intro v' wy hown' hgrow _ hat
                replace hgrow : (u.w.alloc (.cells #[.int .i64 xa, .int .i64 xb] 51)).grownBy wy (some g2) := hgrow
                have hWy := hWA.grown hgrow (fun e => by injection e with e; exact hgne e)
                have hby := hbA.trans (below_only hgrow hbA.size (fun k hk => by injection hk with hk; have := (hownU.lt g2 rfl).1; omega))
                have hoy : wy.ownsRow w.heap.size 51 2 v' ((m + 1) + 1) ((flatW ((xa, xb) :: ((la, lb) :: r)).reverse).map (Value.int .i64)) := by
                  rw [mrg_push]
                  simpa using hown'
                obtain ⟨g3, c3, cur3, rfl, -⟩ := own_open hoy (by omega)
                have hg3 : g3 ≠ g := by
                  rcases hat with h | h
                  · simp [Value.ownBlock] at h; omega
                  · simp [Value.ownBlock] at h; omega
                clear hown' hgrow hat hownU hWU hbU hnew hownA hWA hbA
                go_wp2
                go_roundw
                case rel => exact ⟨q + 1, g3, c3, (m + 1) + 1, _, by omega, by go_num, hfold2, hnz2, by omega, rfl, hoy, hWy, hg3, hby⟩
                case measure => simp [intOf]; omega
          · obtain rfl : n = q := by omega
            have hRL : flatW R.reverse = L := by
              rw [← hlaw2.out, ← hR.out, List.take_of_length_le (by omega)]
            have hKn : K = nz := by
              have h1 := hK.out
              rw [← hRL, flatW_len, List.length_reverse, hnz.out] at h1
              omega
            subst hKn
            rw [hRL] at hownR
            go_wp2
            go_ret2
            exact ⟨_, _, rfl, by omega, hownR, hbr⟩
def mrgK (n : Nat) (xs : Nat → Int) : Nat := (mrgL n xs).length / 2
theorem mrgK_len (n : Nat) (xs : Nat → Int) : (mrgL n xs).length = mrgK n xs * 2 := by
  unfold mrgK mrgL
  split
  · rw [flatW_len]; omega
  · rfl
theorem mergeWindows_k (b o n c B : Nat) (xs : Nat → Int) (w : World) (K : Nat) (L : List Int) (co : Int) (hL : Hid (mrgL n xs = L)) (hc : Hid (codM n xs = co)) (hK : Hid (mrgK n xs = K)) (hx : Ints w B (some ⟨b, o, none⟩) (n * 2) xs) (hB : B ≤ w.heap.size) (hn : n ≤ 9223372036854775807) :
    Calls Try.prog 34 #[.slice (some ⟨b, o, none⟩) n c] w fun e w' => Gave 51 2 K w w' e L co :=
  mergeWindows_val _ n c B xs w K L co hL hc (Lib.hid (by rw [← hL.out, ← hK.out]; exact mrgK_len n xs)) hx hB hn (fun h => by cases h)
theorem sMergeWindows_k (A : Option Addr) (n c B : Nat) (xs : Nat → Int) (w : World) (K : Nat) (L : List Int) (co : Int) (hL : Hid (mrgL n xs = L)) (hc : Hid (codM n xs = co)) (hK : Hid (mrgK n xs = K)) (hx : Ints w B A (n * 2) xs) (hB : B ≤ w.heap.size) (hn : n ≤ 9223372036854775807) :
    Calls Try.prog 33 #[.slice A n c] w fun e w' => Gave 51 2 K w w' e L co :=
  sMergeWindows_val A n c B xs w K L co hL hc (Lib.hid (by rw [← hL.out, ← hK.out]; exact mrgK_len n xs)) hx hB hn
end Go.Proofs.Ytghpaegabppeaaa
