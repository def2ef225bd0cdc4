/- Windows merged: the reference's. -/
import Derived.Test.YtghpaegabppeaaaMrg
import Derived.Test.YtghpaegabppeaaaRow
import Derived.Test.YtghpaegabppeaaaOwn
import Derived.Test.YtghpaegabppeaaaOver
import Derived.Maps.AppendAt
import Derived.Laws.OwnMore
import Derived.OwnWalk
import Derived.WalkKit
import Derived.RegionTactic
import Derived.BigRegion
set_option linter.unusedSimpArgs false
set_option linter.unusedVariables false
namespace Go.Proofs.Ytghpaegabppeaaa
open Go.RowKit

theorem mrg_set (l : Int × Int) (r : List (Int × Int)) (m : Int) : flatW ((l.1, m) :: r).reverse = (flatW (l :: r).reverse).set (r.length * 2 + 1) m := by
  rw [List.reverse_cons, List.reverse_cons, flatW_app, flatW_app, List.set_append]
  have hl : (flatW r.reverse).length = r.length * 2 := by rw [flatW_len, List.length_reverse]
  rw [if_neg (by omega), hl, show r.length * 2 + 1 - r.length * 2 = 1 by omega]
  rfl
theorem mrg_last (l : Int × Int) (r : List (Int × Int)) : (flatW (l :: r).reverse).getD (r.length * 2 + 1) 0 = l.2 := by
  have hl : (flatW r.reverse).length = r.length * 2 := by rw [flatW_len, List.length_reverse]
  rw [List.reverse_cons, flatW_app, List.getD_eq_getElem?_getD, List.getElem?_append_right (by omega), hl, show r.length * 2 + 1 - r.length * 2 = 1 by omega]
  rfl
theorem mrg_push (x : Int × Int) (R : List (Int × Int)) : flatW (x :: R).reverse = flatW R.reverse ++ [x.1, x.2] := by
  rw [List.reverse_cons, flatW_app]
  rfl
theorem fold_take {S : List (Int × Int)} {i : Nat} (h : i < S.length) : (S.take (i + 1)).foldl stepR [] = stepR ((S.take i).foldl stepR []) (S.getD i (0, 0)) := by
  rw [List.take_add_one, List.getElem?_eq_getElem h, List.foldl_append, List.getD_eq_getElem?_getD, List.getElem?_eq_getElem h]
  rfl
theorem step_len (R : List (Int × Int)) (x : Int × Int) : (stepR R x).length ≤ R.length + 1 := by
  unfold stepR
  split
  · simp
  · split <;> simp
theorem own_setI {w : World} {base g n c size : Nat} {e : TypeId} {zs : List Int} (h : w.ownsRow base e size (.slice (some ⟨g, 0, none⟩) n c) n (zs.map (Value.int .i64))) (i : Nat) (x : Int) : (w.setCell ⟨g, i, none⟩ (.int .i64 x)).ownsRow base e size (.slice (some ⟨g, 0, none⟩) n c) n ((zs.set i x).map (Value.int .i64)) := by
  rw [List.map_set]
  exact (h.stored i (.int .i64 x)).1
theorem own_base {w : World} {base b : Nat} {e : TypeId} {size : Nat} {v : Value} {n : Nat} {xs : List Value} (h : w.ownsRow base e size v n xs) (hb : b ≤ base) : w.ownsRow b e size v n xs := by
  refine ⟨h.1, ?_⟩
  rcases h.2 with h1 | ⟨g, cap, cur, h1, h2, h3⟩
  · exact .inl h1
  · exact .inr ⟨g, cap, cur, h1, by omega, h3⟩
theorem codM_ne {n : Nat} {xs : Nat → Int} (h : codM n xs ≠ 0) : mrgL n xs = [] := by unfold mrgL; rw [if_neg h]
set_option maxRecDepth 100000 in
set_option maxHeartbeats 16000000 in
theorem sMergeWindows_val (A : Option Addr) (n c B : Nat) (xs : Nat → Int) (w : World) (K : Nat) (L : List Int) (co : Int) (hL : Hid (mrgL n xs = L)) (hc : Hid (codM n xs = co)) (hK : Hid (L.length = K * 2)) (hx : Ints w B A (n * 2) xs) (hB : B ≤ w.heap.size) (hn : n ≤ 9223372036854775807) :
    Calls Try.prog 33 #[.slice A n c] w fun e w' => Gave 51 2 K w w' e L co := by
  replace hx := Lib.hid hx
  have hwin : ∀ i, i < n → okW (xs (i * 2)) (xs (i * 2 + 1)) = false → co = 2 := fun i hi h => by
    rw [← hc.out]; unfold codM; rw [okA_no hi h]; rfl
  have hlim : (∀ i, i < n → okW (xs (i * 2)) (xs (i * 2 + 1)) = true) → (30 < n → co = 3) ∧ (n ≤ 30 → co = 0) := fun h => by
    have := okA_all h
    rw [← hc.out]; unfold codM; rw [this, if_pos rfl]
    exact ⟨fun h => by rw [if_neg (by omega)], fun h => by rw [if_pos h]⟩
  have hnil : co ≠ 0 → L = [] ∧ K = 0 := fun h => by
    have e : L = [] := by rw [← hL.out]; exact codM_ne (by rw [hc.out]; exact h)
    subst e
    exact ⟨rfl, by have := hK.out; simp at this; omega⟩
  replace hwin := Lib.hid hwin
  replace hlim := Lib.hid hlim
  replace hnil := Lib.hid hnil
  go_enter Try.func33, Try.ntmps33
  go_wp2_with fail
  go_loopw [4] (fun v4 wr => ∃ k : Nat, k ≤ n ∧ v4 = .int .i64 k ∧ Hid (∀ i, i < k → okW (xs (i * 2)) (xs (i * 2 + 1)) = true) ∧ Below w.heap.size w wr) (fun v4 _ => (n - intOf v4).toNat)
  case atStart => exact ⟨0, by omega, rfl, Lib.hid (fun i h => by omega), Below.refl _ _⟩
  case round =>
    obtain ⟨k, hk, rfl, hok, hbel⟩ := hrel
    have hbz := hbel.size
    by_cases hlt : k < n
    · have hlt' : (k : Int) < n := by omega
      obtain ⟨b, o, rfl, hbB, hcx⟩ := hx.out (by omega)
      have g0 : wr.cell? ⟨b, o + k * 2, none⟩ = some (.int .i64 (xs (k * 2))) := by rw [hbel.cell (by simp; omega)]; exact hcx (k * 2) (by omega)
      have g1 : wr.cell? ⟨b, o + k * 2 + 1, none⟩ = some (.int .i64 (xs (k * 2 + 1))) := by rw [hbel.cell (by simp; omega)]; exact hcx (k * 2 + 1) (by omega)
      cases hv : okW (xs (k * 2)) (xs (k * 2 + 1)) with
      | false =>
        have e2 := hwin.out k hlt hv
        subst e2
        obtain ⟨e3, e4⟩ := hnil.out (by decide)
        subst e3
        subst e4
        have hcall := fun W => l20Window_val _ _ false hv W
        replace hcall := Lib.hid hcall
        clear hcx hv
        go_wp2_with fail
        refine (hcall.out _).mono ?_
        rintro e w2 ⟨rfl, hb2⟩
        go_wp2
        go_ret2
        exact gave_nil (hbel.trans (hb2.mono hbz))
      | true =>
        have hok2 : Hid (∀ i, i < k + 1 → okW (xs (i * 2)) (xs (i * 2 + 1)) = true) := Lib.hid (fun i hi => by
          by_cases e : i = k
          · subst e; exact hv
          · exact hok.out i (by omega))
        have hcall := fun W => l20Window_val _ _ true hv W
        replace hcall := Lib.hid hcall
        clear hcx hv
        go_wp2_with fail
        refine (hcall.out _).mono ?_
        rintro e w2 ⟨rfl, hb2⟩
        go_wp2
        go_roundw
        case rel => exact ⟨k + 1, by omega, by go_num, hok2, hbel.trans (hb2.mono hbz)⟩
        case measure => simp [intOf]; omega
    · obtain rfl : n = k := by omega
      have hnlt : ¬ ((n : Int) < n) := by omega
      obtain ⟨l3, l0⟩ := hlim.out hok.out
      by_cases h30 : 30 < n
      · have h30' : (30 : Int) < n := by omega
        have e3 := l3 h30
        subst e3
        obtain ⟨e3, e4⟩ := hnil.out (by decide)
        subst e3
        subst e4
        clear l3 l0
        go_wp2
        go_ret2
        exact gave_nil hbel
      · have h30' : ¬ ((30 : Int) < n) := by omega
        have e3 := l0 (by omega)
        subst e3
        have hall := okA_all hok.out
        have hlaw : ∀ S : List (Int × Int), S.Perm (prs xs n) → srtd S → flatW (S.foldl stepR []).reverse = L := fun S h1 h2 => by
          rw [mrg_law hall h1 h2, ← hL.out]; unfold mrgL; rw [if_pos hc.out]
        replace hlaw := Lib.hid hlaw
        replace hall := Lib.hid hall
        obtain ⟨i0, hi, hz0', hz1', hz2'⟩ := info_parts infoWindow
        replace hi := Lib.hid hi
        replace hz0' := Lib.hid hz0'
        replace hz1' := Lib.hid hz1'
        replace hz2' := Lib.hid hz2'
        have hown0 : (wr.alloc (.cells #[] 51)).ownsRow w.heap.size 51 2 (.slice (some ⟨wr.heap.size, 0, none⟩) 0 0) 0 ((flatW []).map (Value.int .i64)) := own_empty (Whole.new _ _ _) hbz
        have hb0 := hbel.alloc hbz (.cells #[] 51)
        clear l3 l0 hwin hlim hnil hbel hok hL
        go_wp2_with fail
        go_loopw [5, 6, 7, 8] (fun v5 v6 _ _ wr => ∃ (i g cz : Nat) (S : List (Int × Int)), i ≤ n ∧ v6 = .int .i64 i ∧ v5 = .slice (some ⟨g, 0, none⟩) i cz ∧ Hid (S.Perm (prs xs i) ∧ srtd S) ∧ wr.ownsRow w.heap.size 51 2 v5 i ((flatW S).map (Value.int .i64)) ∧ Below w.heap.size w wr) (fun _ v6 _ _ _ => (n - intOf v6).toNat)
        case atStart => exact ⟨0, _, _, [], by omega, rfl, rfl, Lib.hid ⟨List.Perm.refl _, List.Pairwise.nil⟩, hown0, hb0⟩
        case round =>
          obtain ⟨i, g, cz, S, hin, rfl, rfl, hS, hown, hbel⟩ := hrel
          clear hown0 hb0
          have hbz := hbel.size
          rename World => wo
          have hSl : S.length = i := by rw [hS.out.1.length_eq, prs_len]
          obtain ⟨cap, cur, hv', hgb, hW, hnzc, hcm, -, hcur⟩ : ∃ cap cur, (Value.slice (some ⟨g, 0, none⟩) i cz) = .slice (some ⟨g, 0, none⟩) i cap ∧ w.heap.size ≤ g ∧ Whole wo g 51 cur ∧ i ≤ cap ∧ cap ≤ maxLen ∧ cur.size = cap * 2 ∧ (∀ (j : Nat) (u : Value), ((flatW S).map (Value.int .i64))[j]? = some u → cur[j]? = some u) := by
            rcases hown.2 with ⟨e, _⟩ | ⟨g', cap', cur, e, h1, h2, h3, h4, h5, h6⟩
            · cases e
            · injection e with e1 _ e3
              injection e1 with e1
              injection e1 with e1
              subst e1
              subst e3
              refine ⟨_, cur, rfl, h1, h2, h3, h4, h5, fun j u hu => ?_⟩
              rw [← h6, List.getElem?_take] at hu
              split at hu
              · simpa using hu
              · cases hu
          injection hv' with _ _ hv3
          subst hv3
          obtain ⟨hzl, hcs⟩ := cells_of hown
          have hcell : Hid (∀ k, k < i → cur[k * 2]? = some (.int .i64 (S.getD k (0, 0)).1) ∧ cur[k * 2 + 1]? = some (.int .i64 (S.getD k (0, 0)).2)) := Lib.hid (fun k hk => by
            obtain ⟨f1, f2⟩ := flatW_get S k (by omega)
            rw [← f1, ← f2]
            exact ⟨hcur _ _ (hcs _ (by omega)), hcur _ _ (hcs _ (by omega))⟩)
          replace hcur := Lib.hid hcur
          replace hW := Lib.hid hW
          have hgl := hW.out.lt
          clear hcs
          by_cases hlt : i < n
          · have hlt' : (i : Int) < n := by omega
            obtain ⟨b, o, rfl, hbB, hcx⟩ := hx.out (by omega)
            have wx0 : Hid (w.cell? ⟨b, o + i * 2, none⟩ = some (.int .i64 (xs (i * 2)))) := Lib.hid (hcx (i * 2) (by omega))
            have wx1 : Hid (w.cell? ⟨b, o + i * 2 + 1, none⟩ = some (.int .i64 (xs (i * 2 + 1)))) := Lib.hid (hcx (i * 2 + 1) (by omega))
            have hprs : prs xs (i + 1) = prs xs i ++ [(xs (i * 2), xs (i * 2 + 1))] := rfl
            obtain ⟨xa, hxa⟩ : ∃ z, xs (i * 2) = z := ⟨_, rfl⟩
            obtain ⟨xb, hxb⟩ : ∃ z, xs (i * 2 + 1) = z := ⟨_, rfl⟩
            rw [hxa] at wx0 hprs
            rw [hxb] at wx1 hprs
            replace hprs := Lib.hid hprs
            clear hcx hxa hxb
            go_wp2_with fail
            go_loopw [7] (fun v7 wr => ∃ j : Nat, j ≤ i ∧ v7 = .int .i64 j ∧ Hid (∀ k, j ≤ k → k < i → xa ≤ (S.getD k (0, 0)).1) ∧ Below wo.heap.size wo wr) (fun v7 _ => (intOf v7).toNat)
            case atStart => exact ⟨i, Nat.le_refl _, rfl, Lib.hid (fun k h1 h2 => by omega), Below.refl _ _⟩
            case round =>
              obtain ⟨j, hj, rfl, hgt, hbr⟩ := hrel
              have hbrz := hbr.size
              have fin : (j = 0 ∨ (S.getD (j - 1) (0, 0)).1 ≤ xa) → Hid ((S.take j ++ (xa, xb) :: S.drop j).Perm (prs xs (i + 1)) ∧ srtd (S.take j ++ (xa, xb) :: S.drop j)) := fun h => Lib.hid ⟨by
                rw [hprs.out]
                exact (ins_perm S (xa, xb) j).trans (List.Perm.append_right _ hS.out.1), ins_srtd hS.out.2 (by omega) h (fun k h1 h2 => hgt.out k h1 (by omega))⟩
              replace fin := Lib.hid fin
              have cx : ∀ u : Over wr, u.w.cell? ⟨b, o + i * 2, none⟩ = some (.int .i64 xa) := fun u => u.cell (by show b < _; omega) (by rw [hbr.cell (by show b < _; omega), hbel.cell (by show b < _; omega)]; exact wx0.out)
              by_cases hj0 : 0 < j
              · obtain ⟨q, hqj⟩ : ∃ q, q + 1 = j := ⟨j - 1, by omega⟩
                have hqj2 : (j : Int) - 1 = q := by omega
                have hqj3 : IntKind.i64.wrap ((j : Int) - 1) = q := by rw [IntKind.wrap_i64]; omega
                have hqj4 : j - 1 = q := by omega
                have hcq := (hcell.out q (by omega)).1
                have hnextg : xa ≤ (S.getD q (0, 0)).1 → Hid (∀ k, q ≤ k → k < i → xa ≤ (S.getD k (0, 0)).1) := fun h => Lib.hid (fun k h1 h2 => by
                  by_cases e : k = q
                  · subst e; exact h
                  · exact hgt.out k (by omega) h2)
                rw [hqj4] at fin
                obtain ⟨s, hs⟩ : ∃ s, (S.getD q (0, 0)).1 = s := ⟨_, rfl⟩
                rw [hs] at hcq hnextg fin
                have c0 : ∀ u : Over wr, u.w.cell? ⟨g, q * 2, none⟩ = some (.int .i64 s) := fun u => u.cell (by show g < _; omega) (by rw [hbr.cell hgl, hW.out.cell]; exact hcq)
                have hqgt : (0 : Int) < (j : Int) := by omega
                clear hcq hs
                by_cases hlv : xa < s
                · have hg2 := hnextg (by omega)
                  clear hnextg fin
                  go_wp2_with fail
                  refine wp_region_over (by kernel_rfl) (by kernel_rfl) ?_
                  repeat (go_big_quiet_step (fail))
                  refine wpQuiet_nil ?_
                  rintro _ ⟨u, rfl⟩
                  clear c0 cx
                  go_wp2
                  go_roundw
                  case rel => exact ⟨q, by omega, by go_num, hg2, hbr.trans (u.ok.mono hbrz)⟩
                  case measure => first | (simp [intOf]; done) | (simp [intOf]; omega)
                · have hfin := fin.out (.inr (by omega))
                  clear hnextg fin
                  go_wp2_with fail
                  refine wp_region_over (by kernel_rfl) (by kernel_rfl) ?_
                  repeat (go_big_quiet_step (fail))
                  refine wpQuiet_nil ?_
                  rintro _ ⟨u, rfl⟩
                  clear c0 cx
                  have hbu := hbr.trans (u.ok.mono hbrz)
                  rcases Nat.lt_or_ge j cz with hczj | hczj
                  · have hczj' : ¬ cz = j := by omega
                    have hW3 := hW.out.below hbu hgl
                    have hb3 := hbel.trans (hbu.mono hbz)
                    have hz3 := hb3.size
                    have hgl3 : g < u.w.heap.size := hW3.lt
                    have hji : (j : Int) ≤ i := by omega
                    obtain ⟨M1, hM1⟩ : ∃ M, (flatW (S.drop j)).map (Value.int .i64) = M := ⟨_, rfl⟩
                    obtain ⟨M2, hM2⟩ : ∃ M, (flatW (S.take j)).map (Value.int .i64) = M := ⟨_, rfl⟩
                    have hl1 : M1.length = (i - j) * 2 := by rw [← hM1, List.length_map, flatW_len, List.length_drop, hSl]
                    have hl2 : M2.length = j * 2 := by rw [← hM2, List.length_map, flatW_len, List.length_take, hSl]; omega
                    have hget1 : ∀ k x, M1[k]? = some x → cur[j * 2 + k]? = some x := fun k x h => hcur.out _ _ (by rw [← hM1, flatW_drop, List.map_drop, List.getElem?_drop] at h; exact h)
                    have hget2 : ∀ k x, M2[k]? = some x → cur[k]? = some x := fun k x h => hcur.out _ _ (by
                      rw [← hM2, flatW_take, List.map_take, List.getElem?_take] at h
                      split at h
                      · exact h
                      · cases h)
                    have h1c1 : ∀ x ∈ M1, x.oneCell' = true := fun x hx => by rw [← hM1] at hx; obtain ⟨y, -, rfl⟩ := List.mem_map.1 hx; rfl
                    have h1c2 : ∀ x ∈ M2, x.oneCell' = true := fun x hx => by rw [← hM2] at hx; obtain ⟨y, -, rfl⟩ := List.mem_map.1 hx; rfl
                    have hMM : M2 ++ [Value.int .i64 xa, Value.int .i64 xb] ++ M1 = (flatW (S.take j ++ (xa, xb) :: S.drop j)).map (Value.int .i64) := by rw [← hM1, ← hM2, flatW_app]; simp [flatW]
                    obtain ⟨zz, hzz⟩ : ∃ z, S.take j ++ (xa, xb) :: S.drop j = z := ⟨_, rfl⟩
                    rw [hzz] at hMM hfin
                    have hLit : (u.w.alloc (.cells #[] 51)).ownsRow w.heap.size 51 2 (.slice (some ⟨u.w.heap.size, 0, none⟩) 0 0) 0 [] := own_empty (Whole.new _ _ _) hz3
                    have hW4 : Whole (u.w.alloc (.cells #[] 51)) g 51 cur := hW3.alloc _
                    have hb4 : Below w.heap.size w (u.w.alloc (.cells #[] 51)) := hb3.alloc hz3 _
                    have hcl2 : ∀ k x, M2[k]? = some x → (u.w.alloc (.cells #[] 51)).cell? ((⟨g, 0, none⟩ : Addr).add k) = some x := fun k x h => by
                      rw [add_zero_off, hW4.cell]
                      exact hget2 k x h
                    replace hM1 := Lib.hid hM1
                    replace hM2 := Lib.hid hM2
                    replace hget1 := Lib.hid hget1
                    replace hget2 := Lib.hid hget2
                    replace hMM := Lib.hid hMM
                    replace hzz := Lib.hid hzz
                    replace hLit := Lib.hid hLit
                    replace hcl2 := Lib.hid hcl2
                    replace h1c1 := Lib.hid h1c1
                    replace h1c2 := Lib.hid h1c2
                    replace hW4 := Lib.hid hW4
                    replace hb4 := Lib.hid hb4
                    clear hcell hgt hbr hown hbel hW3 hb3
                    go_wp2_with (at_builtin; refine wpList_append_own_at _ rfl _ _ 25 rfl w.heap.size 51 i0 _ 2 16 Try.underlying25 hi.out hz0'.out hz1'.out hz2'.out rfl (by decide) _ _ _ rfl hLit.out ⟨g, 0, none⟩ _ _ M2 rfl (by omega) (fun k x hkx => hcl2.out k x hkx) h1c2.out (by unfold maxLen; omega) (by omega) (by simp; omega) ?_)
                    intro va wA hownA hgrowA _ hatA
                    replace hgrowA : (u.w.alloc (.cells #[] 51)).grownBy wA (some u.w.heap.size) := hgrowA
                    have hWA := hW4.out.grown hgrowA (fun e => by injection e with e; omega)
                    have hbA := hb4.out.trans (below_only hgrowA hb4.out.size (fun k hk => by injection hk with hk; omega))
                    have hzA := hbA.size
                    have hglA : g < wA.heap.size := hWA.lt
                    have gx0 : wA.cell? ⟨b, o + i * 2, none⟩ = some (.int .i64 xa) := by rw [hbA.cell (by simp; omega)]; exact wx0.out
                    have gx1 : wA.cell? ⟨b, o + i * 2 + 1, none⟩ = some (.int .i64 xb) := by rw [hbA.cell (by simp; omega)]; exact wx1.out
                    have hnewB := Whole.new wA 51 #[.int .i64 xa, .int .i64 xb]
                    have hWA2 := hWA.alloc (.cells #[.int .i64 xa, .int .i64 xb] 51)
                    have hbA2 : Below w.heap.size w (wA.alloc (.cells #[.int .i64 xa, .int .i64 xb] 51)) := hbA.alloc hzA _
                    have hown2 := hownA.alloc (.cells #[.int .i64 xa, .int .i64 xb] 51)
                    have hoA : ∀ k, va.ownBlock = some k → k ≠ g := fun k hk => by
                      rcases hatA with h | h
                      · rw [h] at hk; simp [Value.ownBlock] at hk; omega
                      · rw [h] at hk; simp at hk; omega
                    have hoAl := fun k hk => (hownA.lt k hk)
                    replace hnewB := Lib.hid hnewB
                    replace hWA2 := Lib.hid hWA2
                    replace hbA2 := Lib.hid hbA2
                    replace hown2 := Lib.hid hown2
                    replace hoA := Lib.hid hoA
                    replace hoAl := Lib.hid hoAl
                    clear hgrowA hatA hownA hWA hbA hLit hcl2 hW4 hb4
                    go_wp2_with (at_builtin; refine wpList_append_own_at _ rfl _ _ 25 rfl w.heap.size 51 i0 _ 2 16 Try.underlying25 hi.out hz0'.out hz1'.out hz2'.out rfl (by decide) _ _ _ rfl hown2.out ⟨wA.heap.size, 0, none⟩ 1 1 [.int .i64 xa, .int .i64 xb] rfl rfl ?c1 ?c2 ?c3 ?c4 ?c5 ?_)
                    case c1 =>
                      intro k u hu
                      rw [add_zero_off, hnewB.out.cell]
                      simpa using hu
                    case c2 => simp [Value.oneCell']
                    case c3 => simp only [maxLen]; omega
                    case c4 => omega
                    case c5 => simp; omega
                    intro vb wB hownB hgrowB _ hatB
                    have hWB := hWA2.out.grown hgrowB (fun e => hoA.out g e rfl)
                    have hbB := hbA2.out.trans (below_only hgrowB hbA2.out.size (fun k hk => (hoAl.out k hk).1))
                    have hzB := hbB.size
                    have hglB : g < wB.heap.size := hWB.lt
                    have hcl1 : ∀ k x, M1[k]? = some x → wB.cell? ((⟨g, j * 2, none⟩ : Addr).add k) = some x := fun k x h => by
                      rw [show (⟨g, j * 2, none⟩ : Addr).add k = ⟨g, j * 2 + k, none⟩ by simp [Addr.add], hWB.cell]
                      exact hget1.out k x h
                    replace hcl1 := Lib.hid hcl1
                    clear hgrowB hatB hnewB hWA2 hbA2 hown2 hoA hoAl hWB
                    go_wp2_with (at_builtin; refine wpList_append_own_at _ rfl _ _ 25 rfl w.heap.size 51 i0 _ 2 16 Try.underlying25 hi.out hz0'.out hz1'.out hz2'.out rfl (by decide) _ _ _ rfl hownB _ _ _ M1 rfl (by omega) (fun k x hkx => by first | exact hcl1.out k x hkx | (exfalso; have hz : M1 = [] := List.length_eq_zero_iff.1 (by omega); rw [hz] at hkx; simp at hkx)) h1c1.out (by unfold maxLen; omega) (by omega) (by omega) ?_)
                    intro vc wC hownC hgrowC _ hatC
                    have hbC := hbB.trans (below_only hgrowC hzB (fun k hk => (hownB.lt k hk).1))
                    have hoyC : wC.ownsRow w.heap.size 51 2 vc (i + 1) ((flatW zz).map (Value.int .i64)) := by
                      rw [← hMM.out, show i + 1 = j + 1 + (i - j) by omega]
                      simpa using hownC
                    obtain ⟨gC, cC, curC, rfl, -⟩ := own_open hoyC (by omega)
                    clear hownC hgrowC hatC hownB hbB hcl1
                    go_wp2
                    go_roundw
                    case rel => exact ⟨i + 1, gC, cC, zz, by omega, by go_num, rfl, hfin, hoyC, hbC⟩
                    case measure => first | (simp [intOf]; done) | (simp [intOf]; omega)
                  · have hczj' : cz = j := by omega
                    have hW3 := hW.out.below hbu hgl
                    have hb3 := hbel.trans (hbu.mono hbz)
                    have hz3 := hb3.size
                    have hgl3 : g < u.w.heap.size := hW3.lt
                    have hji : (j : Int) ≤ i := by omega
                    obtain ⟨M1, hM1⟩ : ∃ M, (flatW (S.drop j)).map (Value.int .i64) = M := ⟨_, rfl⟩
                    obtain ⟨M2, hM2⟩ : ∃ M, (flatW (S.take j)).map (Value.int .i64) = M := ⟨_, rfl⟩
                    have hl1 : M1.length = (i - j) * 2 := by rw [← hM1, List.length_map, flatW_len, List.length_drop, hSl]
                    have hl2 : M2.length = j * 2 := by rw [← hM2, List.length_map, flatW_len, List.length_take, hSl]; omega
                    have hget1 : ∀ k x, M1[k]? = some x → cur[j * 2 + k]? = some x := fun k x h => hcur.out _ _ (by rw [← hM1, flatW_drop, List.map_drop, List.getElem?_drop] at h; exact h)
                    have hget2 : ∀ k x, M2[k]? = some x → cur[k]? = some x := fun k x h => hcur.out _ _ (by
                      rw [← hM2, flatW_take, List.map_take, List.getElem?_take] at h
                      split at h
                      · exact h
                      · cases h)
                    have h1c1 : ∀ x ∈ M1, x.oneCell' = true := fun x hx => by rw [← hM1] at hx; obtain ⟨y, -, rfl⟩ := List.mem_map.1 hx; rfl
                    have h1c2 : ∀ x ∈ M2, x.oneCell' = true := fun x hx => by rw [← hM2] at hx; obtain ⟨y, -, rfl⟩ := List.mem_map.1 hx; rfl
                    have hMM : M2 ++ [Value.int .i64 xa, Value.int .i64 xb] ++ M1 = (flatW (S.take j ++ (xa, xb) :: S.drop j)).map (Value.int .i64) := by rw [← hM1, ← hM2, flatW_app]; simp [flatW]
                    obtain ⟨zz, hzz⟩ : ∃ z, S.take j ++ (xa, xb) :: S.drop j = z := ⟨_, rfl⟩
                    rw [hzz] at hMM hfin
                    have hLit : (u.w.alloc (.cells #[] 51)).ownsRow w.heap.size 51 2 (.slice (some ⟨u.w.heap.size, 0, none⟩) 0 0) 0 [] := own_empty (Whole.new _ _ _) hz3
                    have hW4 : Whole (u.w.alloc (.cells #[] 51)) g 51 cur := hW3.alloc _
                    have hb4 : Below w.heap.size w (u.w.alloc (.cells #[] 51)) := hb3.alloc hz3 _
                    have hcl2 : ∀ k x, M2[k]? = some x → (u.w.alloc (.cells #[] 51)).cell? ((⟨g, 0, none⟩ : Addr).add k) = some x := fun k x h => by
                      rw [add_zero_off, hW4.cell]
                      exact hget2 k x h
                    replace hM1 := Lib.hid hM1
                    replace hM2 := Lib.hid hM2
                    replace hget1 := Lib.hid hget1
                    replace hget2 := Lib.hid hget2
                    replace hMM := Lib.hid hMM
                    replace hzz := Lib.hid hzz
                    replace hLit := Lib.hid hLit
                    replace hcl2 := Lib.hid hcl2
                    replace h1c1 := Lib.hid h1c1
                    replace h1c2 := Lib.hid h1c2
                    replace hW4 := Lib.hid hW4
                    replace hb4 := Lib.hid hb4
                    clear hcell hgt hbr hown hbel hW3 hb3
                    go_wp2_with (at_builtin; refine wpList_append_own_at _ rfl _ _ 25 rfl w.heap.size 51 i0 _ 2 16 Try.underlying25 hi.out hz0'.out hz1'.out hz2'.out rfl (by decide) _ _ _ rfl hLit.out ⟨g, 0, none⟩ _ _ M2 rfl (by omega) (fun k x hkx => hcl2.out k x hkx) h1c2.out (by unfold maxLen; omega) (by omega) (by simp; omega) ?_)
                    intro va wA hownA hgrowA _ hatA
                    replace hgrowA : (u.w.alloc (.cells #[] 51)).grownBy wA (some u.w.heap.size) := hgrowA
                    have hWA := hW4.out.grown hgrowA (fun e => by injection e with e; omega)
                    have hbA := hb4.out.trans (below_only hgrowA hb4.out.size (fun k hk => by injection hk with hk; omega))
                    have hzA := hbA.size
                    have hglA : g < wA.heap.size := hWA.lt
                    have gx0 : wA.cell? ⟨b, o + i * 2, none⟩ = some (.int .i64 xa) := by rw [hbA.cell (by simp; omega)]; exact wx0.out
                    have gx1 : wA.cell? ⟨b, o + i * 2 + 1, none⟩ = some (.int .i64 xb) := by rw [hbA.cell (by simp; omega)]; exact wx1.out
                    have hnewB := Whole.new wA 51 #[.int .i64 xa, .int .i64 xb]
                    have hWA2 := hWA.alloc (.cells #[.int .i64 xa, .int .i64 xb] 51)
                    have hbA2 : Below w.heap.size w (wA.alloc (.cells #[.int .i64 xa, .int .i64 xb] 51)) := hbA.alloc hzA _
                    have hown2 := hownA.alloc (.cells #[.int .i64 xa, .int .i64 xb] 51)
                    have hoA : ∀ k, va.ownBlock = some k → k ≠ g := fun k hk => by
                      rcases hatA with h | h
                      · rw [h] at hk; simp [Value.ownBlock] at hk; omega
                      · rw [h] at hk; simp at hk; omega
                    have hoAl := fun k hk => (hownA.lt k hk)
                    replace hnewB := Lib.hid hnewB
                    replace hWA2 := Lib.hid hWA2
                    replace hbA2 := Lib.hid hbA2
                    replace hown2 := Lib.hid hown2
                    replace hoA := Lib.hid hoA
                    replace hoAl := Lib.hid hoAl
                    clear hgrowA hatA hownA hWA hbA hLit hcl2 hW4 hb4
                    go_wp2_with (at_builtin; refine wpList_append_own_at _ rfl _ _ 25 rfl w.heap.size 51 i0 _ 2 16 Try.underlying25 hi.out hz0'.out hz1'.out hz2'.out rfl (by decide) _ _ _ rfl hown2.out ⟨wA.heap.size, 0, none⟩ 1 1 [.int .i64 xa, .int .i64 xb] rfl rfl ?c1 ?c2 ?c3 ?c4 ?c5 ?_)
                    case c1 =>
                      intro k u hu
                      rw [add_zero_off, hnewB.out.cell]
                      simpa using hu
                    case c2 => simp [Value.oneCell']
                    case c3 => simp only [maxLen]; omega
                    case c4 => omega
                    case c5 => simp; omega
                    intro vb wB hownB hgrowB _ hatB
                    have hWB := hWA2.out.grown hgrowB (fun e => hoA.out g e rfl)
                    have hbB := hbA2.out.trans (below_only hgrowB hbA2.out.size (fun k hk => (hoAl.out k hk).1))
                    have hzB := hbB.size
                    have hglB : g < wB.heap.size := hWB.lt
                    have hcl1 : ∀ k x, M1[k]? = some x → wB.cell? ((⟨g, j * 2, none⟩ : Addr).add k) = some x := fun k x h => by
                      rw [show (⟨g, j * 2, none⟩ : Addr).add k = ⟨g, j * 2 + k, none⟩ by simp [Addr.add], hWB.cell]
                      exact hget1.out k x h
                    replace hcl1 := Lib.hid hcl1
                    clear hgrowB hatB hnewB hWA2 hbA2 hown2 hoA hoAl hWB
                    go_wp2_with (at_builtin; refine wpList_append_own_at _ rfl _ _ 25 rfl w.heap.size 51 i0 _ 2 16 Try.underlying25 hi.out hz0'.out hz1'.out hz2'.out rfl (by decide) _ _ _ rfl hownB _ _ _ M1 rfl (by omega) (fun k x hkx => by first | exact hcl1.out k x hkx | (exfalso; have hz : M1 = [] := List.length_eq_zero_iff.1 (by omega); rw [hz] at hkx; simp at hkx)) h1c1.out (by unfold maxLen; omega) (by omega) (by omega) ?_)
                    intro vc wC hownC hgrowC _ hatC
                    have hbC := hbB.trans (below_only hgrowC hzB (fun k hk => (hownB.lt k hk).1))
                    have hoyC : wC.ownsRow w.heap.size 51 2 vc (i + 1) ((flatW zz).map (Value.int .i64)) := by
                      rw [← hMM.out, show i + 1 = j + 1 + (i - j) by omega]
                      simpa using hownC
                    obtain ⟨gC, cC, curC, rfl, -⟩ := own_open hoyC (by omega)
                    clear hownC hgrowC hatC hownB hbB hcl1
                    go_wp2
                    go_roundw
                    case rel => exact ⟨i + 1, gC, cC, zz, by omega, by go_num, rfl, hfin, hoyC, hbC⟩
                    case measure => first | (simp [intOf]; done) | (simp [intOf]; omega)
              · have hnj : ¬ ((0 : Int) < (j : Int)) := by omega
                have hfin := fin.out (.inl (by omega))
                clear fin
                go_wp2_with fail
                refine wp_region_over (by kernel_rfl) (by kernel_rfl) ?_
                repeat (go_big_quiet_step (fail))
                refine wpQuiet_nil ?_
                rintro _ ⟨u, rfl⟩
                clear cx
                have hbu := hbr.trans (u.ok.mono hbrz)
                rcases Nat.lt_or_ge j cz with hczj | hczj
                · have hczj' : ¬ cz = j := by omega
                  have hW3 := hW.out.below hbu hgl
                  have hb3 := hbel.trans (hbu.mono hbz)
                  have hz3 := hb3.size
                  have hgl3 : g < u.w.heap.size := hW3.lt
                  have hji : (j : Int) ≤ i := by omega
                  obtain ⟨M1, hM1⟩ : ∃ M, (flatW (S.drop j)).map (Value.int .i64) = M := ⟨_, rfl⟩
                  obtain ⟨M2, hM2⟩ : ∃ M, (flatW (S.take j)).map (Value.int .i64) = M := ⟨_, rfl⟩
                  have hl1 : M1.length = (i - j) * 2 := by rw [← hM1, List.length_map, flatW_len, List.length_drop, hSl]
                  have hl2 : M2.length = j * 2 := by rw [← hM2, List.length_map, flatW_len, List.length_take, hSl]; omega
                  have hget1 : ∀ k x, M1[k]? = some x → cur[j * 2 + k]? = some x := fun k x h => hcur.out _ _ (by rw [← hM1, flatW_drop, List.map_drop, List.getElem?_drop] at h; exact h)
                  have hget2 : ∀ k x, M2[k]? = some x → cur[k]? = some x := fun k x h => hcur.out _ _ (by
                    rw [← hM2, flatW_take, List.map_take, List.getElem?_take] at h
                    split at h
                    · exact h
                    · cases h)
                  have h1c1 : ∀ x ∈ M1, x.oneCell' = true := fun x hx => by rw [← hM1] at hx; obtain ⟨y, -, rfl⟩ := List.mem_map.1 hx; rfl
                  have h1c2 : ∀ x ∈ M2, x.oneCell' = true := fun x hx => by rw [← hM2] at hx; obtain ⟨y, -, rfl⟩ := List.mem_map.1 hx; rfl
                  have hMM : M2 ++ [Value.int .i64 xa, Value.int .i64 xb] ++ M1 = (flatW (S.take j ++ (xa, xb) :: S.drop j)).map (Value.int .i64) := by rw [← hM1, ← hM2, flatW_app]; simp [flatW]
                  obtain ⟨zz, hzz⟩ : ∃ z, S.take j ++ (xa, xb) :: S.drop j = z := ⟨_, rfl⟩
                  rw [hzz] at hMM hfin
                  have hLit : (u.w.alloc (.cells #[] 51)).ownsRow w.heap.size 51 2 (.slice (some ⟨u.w.heap.size, 0, none⟩) 0 0) 0 [] := own_empty (Whole.new _ _ _) hz3
                  have hW4 : Whole (u.w.alloc (.cells #[] 51)) g 51 cur := hW3.alloc _
                  have hb4 : Below w.heap.size w (u.w.alloc (.cells #[] 51)) := hb3.alloc hz3 _
                  have hcl2 : ∀ k x, M2[k]? = some x → (u.w.alloc (.cells #[] 51)).cell? ((⟨g, 0, none⟩ : Addr).add k) = some x := fun k x h => by
                    rw [add_zero_off, hW4.cell]
                    exact hget2 k x h
                  replace hM1 := Lib.hid hM1
                  replace hM2 := Lib.hid hM2
                  replace hget1 := Lib.hid hget1
                  replace hget2 := Lib.hid hget2
                  replace hMM := Lib.hid hMM
                  replace hzz := Lib.hid hzz
                  replace hLit := Lib.hid hLit
                  replace hcl2 := Lib.hid hcl2
                  replace h1c1 := Lib.hid h1c1
                  replace h1c2 := Lib.hid h1c2
                  replace hW4 := Lib.hid hW4
                  replace hb4 := Lib.hid hb4
                  clear hcell hgt hbr hown hbel hW3 hb3
                  go_wp2_with (at_builtin; refine wpList_append_own_at _ rfl _ _ 25 rfl w.heap.size 51 i0 _ 2 16 Try.underlying25 hi.out hz0'.out hz1'.out hz2'.out rfl (by decide) _ _ _ rfl hLit.out ⟨g, 0, none⟩ _ _ M2 rfl (by omega) (fun k x hkx => hcl2.out k x hkx) h1c2.out (by unfold maxLen; omega) (by omega) (by simp; omega) ?_)
                  intro va wA hownA hgrowA _ hatA
                  replace hgrowA : (u.w.alloc (.cells #[] 51)).grownBy wA (some u.w.heap.size) := hgrowA
                  have hWA := hW4.out.grown hgrowA (fun e => by injection e with e; omega)
                  have hbA := hb4.out.trans (below_only hgrowA hb4.out.size (fun k hk => by injection hk with hk; omega))
                  have hzA := hbA.size
                  have hglA : g < wA.heap.size := hWA.lt
                  have gx0 : wA.cell? ⟨b, o + i * 2, none⟩ = some (.int .i64 xa) := by rw [hbA.cell (by simp; omega)]; exact wx0.out
                  have gx1 : wA.cell? ⟨b, o + i * 2 + 1, none⟩ = some (.int .i64 xb) := by rw [hbA.cell (by simp; omega)]; exact wx1.out
                  have hnewB := Whole.new wA 51 #[.int .i64 xa, .int .i64 xb]
                  have hWA2 := hWA.alloc (.cells #[.int .i64 xa, .int .i64 xb] 51)
                  have hbA2 : Below w.heap.size w (wA.alloc (.cells #[.int .i64 xa, .int .i64 xb] 51)) := hbA.alloc hzA _
                  have hown2 := hownA.alloc (.cells #[.int .i64 xa, .int .i64 xb] 51)
                  have hoA : ∀ k, va.ownBlock = some k → k ≠ g := fun k hk => by
                    rcases hatA with h | h
                    · rw [h] at hk; simp [Value.ownBlock] at hk; omega
                    · rw [h] at hk; simp at hk; omega
                  have hoAl := fun k hk => (hownA.lt k hk)
                  replace hnewB := Lib.hid hnewB
                  replace hWA2 := Lib.hid hWA2
                  replace hbA2 := Lib.hid hbA2
                  replace hown2 := Lib.hid hown2
                  replace hoA := Lib.hid hoA
                  replace hoAl := Lib.hid hoAl
                  clear hgrowA hatA hownA hWA hbA hLit hcl2 hW4 hb4
                  go_wp2_with (at_builtin; refine wpList_append_own_at _ rfl _ _ 25 rfl w.heap.size 51 i0 _ 2 16 Try.underlying25 hi.out hz0'.out hz1'.out hz2'.out rfl (by decide) _ _ _ rfl hown2.out ⟨wA.heap.size, 0, none⟩ 1 1 [.int .i64 xa, .int .i64 xb] rfl rfl ?c1 ?c2 ?c3 ?c4 ?c5 ?_)
                  case c1 =>
                    intro k u hu
                    rw [add_zero_off, hnewB.out.cell]
                    simpa using hu
                  case c2 => simp [Value.oneCell']
                  case c3 => simp only [maxLen]; omega
                  case c4 => omega
                  case c5 => simp; omega
                  intro vb wB hownB hgrowB _ hatB
                  have hWB := hWA2.out.grown hgrowB (fun e => hoA.out g e rfl)
                  have hbB := hbA2.out.trans (below_only hgrowB hbA2.out.size (fun k hk => (hoAl.out k hk).1))
                  have hzB := hbB.size
                  have hglB : g < wB.heap.size := hWB.lt
                  have hcl1 : ∀ k x, M1[k]? = some x → wB.cell? ((⟨g, j * 2, none⟩ : Addr).add k) = some x := fun k x h => by
                    rw [show (⟨g, j * 2, none⟩ : Addr).add k = ⟨g, j * 2 + k, none⟩ by simp [Addr.add], hWB.cell]
                    exact hget1.out k x h
                  replace hcl1 := Lib.hid hcl1
                  clear hgrowB hatB hnewB hWA2 hbA2 hown2 hoA hoAl hWB
                  go_wp2_with (at_builtin; refine wpList_append_own_at _ rfl _ _ 25 rfl w.heap.size 51 i0 _ 2 16 Try.underlying25 hi.out hz0'.out hz1'.out hz2'.out rfl (by decide) _ _ _ rfl hownB _ _ _ M1 rfl (by omega) (fun k x hkx => by first | exact hcl1.out k x hkx | (exfalso; have hz : M1 = [] := List.length_eq_zero_iff.1 (by omega); rw [hz] at hkx; simp at hkx)) h1c1.out (by unfold maxLen; omega) (by omega) (by omega) ?_)
                  intro vc wC hownC hgrowC _ hatC
                  have hbC := hbB.trans (below_only hgrowC hzB (fun k hk => (hownB.lt k hk).1))
                  have hoyC : wC.ownsRow w.heap.size 51 2 vc (i + 1) ((flatW zz).map (Value.int .i64)) := by
                    rw [← hMM.out, show i + 1 = j + 1 + (i - j) by omega]
                    simpa using hownC
                  obtain ⟨gC, cC, curC, rfl, -⟩ := own_open hoyC (by omega)
                  clear hownC hgrowC hatC hownB hbB hcl1
                  go_wp2
                  go_roundw
                  case rel => exact ⟨i + 1, gC, cC, zz, by omega, by go_num, rfl, hfin, hoyC, hbC⟩
                  case measure => first | (simp [intOf]; done) | (simp [intOf]; omega)
                · have hczj' : cz = j := by omega
                  have hW3 := hW.out.below hbu hgl
                  have hb3 := hbel.trans (hbu.mono hbz)
                  have hz3 := hb3.size
                  have hgl3 : g < u.w.heap.size := hW3.lt
                  have hji : (j : Int) ≤ i := by omega
                  obtain ⟨M1, hM1⟩ : ∃ M, (flatW (S.drop j)).map (Value.int .i64) = M := ⟨_, rfl⟩
                  obtain ⟨M2, hM2⟩ : ∃ M, (flatW (S.take j)).map (Value.int .i64) = M := ⟨_, rfl⟩
                  have hl1 : M1.length = (i - j) * 2 := by rw [← hM1, List.length_map, flatW_len, List.length_drop, hSl]
                  have hl2 : M2.length = j * 2 := by rw [← hM2, List.length_map, flatW_len, List.length_take, hSl]; omega
                  have hget1 : ∀ k x, M1[k]? = some x → cur[j * 2 + k]? = some x := fun k x h => hcur.out _ _ (by rw [← hM1, flatW_drop, List.map_drop, List.getElem?_drop] at h; exact h)
                  have hget2 : ∀ k x, M2[k]? = some x → cur[k]? = some x := fun k x h => hcur.out _ _ (by
                    rw [← hM2, flatW_take, List.map_take, List.getElem?_take] at h
                    split at h
                    · exact h
                    · cases h)
                  have h1c1 : ∀ x ∈ M1, x.oneCell' = true := fun x hx => by rw [← hM1] at hx; obtain ⟨y, -, rfl⟩ := List.mem_map.1 hx; rfl
                  have h1c2 : ∀ x ∈ M2, x.oneCell' = true := fun x hx => by rw [← hM2] at hx; obtain ⟨y, -, rfl⟩ := List.mem_map.1 hx; rfl
                  have hMM : M2 ++ [Value.int .i64 xa, Value.int .i64 xb] ++ M1 = (flatW (S.take j ++ (xa, xb) :: S.drop j)).map (Value.int .i64) := by rw [← hM1, ← hM2, flatW_app]; simp [flatW]
                  obtain ⟨zz, hzz⟩ : ∃ z, S.take j ++ (xa, xb) :: S.drop j = z := ⟨_, rfl⟩
                  rw [hzz] at hMM hfin
                  have hLit : (u.w.alloc (.cells #[] 51)).ownsRow w.heap.size 51 2 (.slice (some ⟨u.w.heap.size, 0, none⟩) 0 0) 0 [] := own_empty (Whole.new _ _ _) hz3
                  have hW4 : Whole (u.w.alloc (.cells #[] 51)) g 51 cur := hW3.alloc _
                  have hb4 : Below w.heap.size w (u.w.alloc (.cells #[] 51)) := hb3.alloc hz3 _
                  have hcl2 : ∀ k x, M2[k]? = some x → (u.w.alloc (.cells #[] 51)).cell? ((⟨g, 0, none⟩ : Addr).add k) = some x := fun k x h => by
                    rw [add_zero_off, hW4.cell]
                    exact hget2 k x h
                  replace hM1 := Lib.hid hM1
                  replace hM2 := Lib.hid hM2
                  replace hget1 := Lib.hid hget1
                  replace hget2 := Lib.hid hget2
                  replace hMM := Lib.hid hMM
                  replace hzz := Lib.hid hzz
                  replace hLit := Lib.hid hLit
                  replace hcl2 := Lib.hid hcl2
                  replace h1c1 := Lib.hid h1c1
                  replace h1c2 := Lib.hid h1c2
                  replace hW4 := Lib.hid hW4
                  replace hb4 := Lib.hid hb4
                  clear hcell hgt hbr hown hbel hW3 hb3
                  go_wp2_with (at_builtin; refine wpList_append_own_at _ rfl _ _ 25 rfl w.heap.size 51 i0 _ 2 16 Try.underlying25 hi.out hz0'.out hz1'.out hz2'.out rfl (by decide) _ _ _ rfl hLit.out ⟨g, 0, none⟩ _ _ M2 rfl (by omega) (fun k x hkx => hcl2.out k x hkx) h1c2.out (by unfold maxLen; omega) (by omega) (by simp; omega) ?_)
                  intro va wA hownA hgrowA _ hatA
                  replace hgrowA : (u.w.alloc (.cells #[] 51)).grownBy wA (some u.w.heap.size) := hgrowA
                  have hWA := hW4.out.grown hgrowA (fun e => by injection e with e; omega)
                  have hbA := hb4.out.trans (below_only hgrowA hb4.out.size (fun k hk => by injection hk with hk; omega))
                  have hzA := hbA.size
                  have hglA : g < wA.heap.size := hWA.lt
                  have gx0 : wA.cell? ⟨b, o + i * 2, none⟩ = some (.int .i64 xa) := by rw [hbA.cell (by simp; omega)]; exact wx0.out
                  have gx1 : wA.cell? ⟨b, o + i * 2 + 1, none⟩ = some (.int .i64 xb) := by rw [hbA.cell (by simp; omega)]; exact wx1.out
                  have hnewB := Whole.new wA 51 #[.int .i64 xa, .int .i64 xb]
                  have hWA2 := hWA.alloc (.cells #[.int .i64 xa, .int .i64 xb] 51)
                  have hbA2 : Below w.heap.size w (wA.alloc (.cells #[.int .i64 xa, .int .i64 xb] 51)) := hbA.alloc hzA _
                  have hown2 := hownA.alloc (.cells #[.int .i64 xa, .int .i64 xb] 51)
                  have hoA : ∀ k, va.ownBlock = some k → k ≠ g := fun k hk => by
                    rcases hatA with h | h
                    · rw [h] at hk; simp [Value.ownBlock] at hk; omega
                    · rw [h] at hk; simp at hk; omega
                  have hoAl := fun k hk => (hownA.lt k hk)
                  replace hnewB := Lib.hid hnewB
                  replace hWA2 := Lib.hid hWA2
                  replace hbA2 := Lib.hid hbA2
                  replace hown2 := Lib.hid hown2
                  replace hoA := Lib.hid hoA
                  replace hoAl := Lib.hid hoAl
                  clear hgrowA hatA hownA hWA hbA hLit hcl2 hW4 hb4
                  go_wp2_with (at_builtin; refine wpList_append_own_at _ rfl _ _ 25 rfl w.heap.size 51 i0 _ 2 16 Try.underlying25 hi.out hz0'.out hz1'.out hz2'.out rfl (by decide) _ _ _ rfl hown2.out ⟨wA.heap.size, 0, none⟩ 1 1 [.int .i64 xa, .int .i64 xb] rfl rfl ?c1 ?c2 ?c3 ?c4 ?c5 ?_)
                  case c1 =>
                    intro k u hu
                    rw [add_zero_off, hnewB.out.cell]
                    simpa using hu
                  case c2 => simp [Value.oneCell']
                  case c3 => simp only [maxLen]; omega
                  case c4 => omega
                  case c5 => simp; omega
                  intro vb wB hownB hgrowB _ hatB
                  have hWB := hWA2.out.grown hgrowB (fun e => hoA.out g e rfl)
                  have hbB := hbA2.out.trans (below_only hgrowB hbA2.out.size (fun k hk => (hoAl.out k hk).1))
                  have hzB := hbB.size
                  have hglB : g < wB.heap.size := hWB.lt
                  have hcl1 : ∀ k x, M1[k]? = some x → wB.cell? ((⟨g, j * 2, none⟩ : Addr).add k) = some x := fun k x h => by
                    rw [show (⟨g, j * 2, none⟩ : Addr).add k = ⟨g, j * 2 + k, none⟩ by simp [Addr.add], hWB.cell]
                    exact hget1.out k x h
                  replace hcl1 := Lib.hid hcl1
                  clear hgrowB hatB hnewB hWA2 hbA2 hown2 hoA hoAl hWB
                  go_wp2_with (at_builtin; refine wpList_append_own_at _ rfl _ _ 25 rfl w.heap.size 51 i0 _ 2 16 Try.underlying25 hi.out hz0'.out hz1'.out hz2'.out rfl (by decide) _ _ _ rfl hownB _ _ _ M1 rfl (by omega) (fun k x hkx => by first | exact hcl1.out k x hkx | (exfalso; have hz : M1 = [] := List.length_eq_zero_iff.1 (by omega); rw [hz] at hkx; simp at hkx)) h1c1.out (by unfold maxLen; omega) (by omega) (by omega) ?_)
                  intro vc wC hownC hgrowC _ hatC
                  have hbC := hbB.trans (below_only hgrowC hzB (fun k hk => (hownB.lt k hk).1))
                  have hoyC : wC.ownsRow w.heap.size 51 2 vc (i + 1) ((flatW zz).map (Value.int .i64)) := by
                    rw [← hMM.out, show i + 1 = j + 1 + (i - j) by omega]
                    simpa using hownC
                  obtain ⟨gC, cC, curC, rfl, -⟩ := own_open hoyC (by omega)
                  clear hownC hgrowC hatC hownB hbB hcl1
                  go_wp2
                  go_roundw
                  case rel => exact ⟨i + 1, gC, cC, zz, by omega, by go_num, rfl, hfin, hoyC, hbC⟩
                  case measure => first | (simp [intOf]; done) | (simp [intOf]; omega)
          · obtain rfl : n = i := by omega
            have hnlt : ¬ ((n : Int) < n) := by omega
            have hownO : (wo.alloc (.cells #[] 51)).ownsRow w.heap.size 51 2 (.slice (some ⟨wo.heap.size, 0, none⟩) 0 0) 0 ((flatW ([] : List (Int × Int)).reverse).map (Value.int .i64)) := own_empty (Whole.new _ _ _) hbz
            have hWO := hW.out.alloc (.cells #[] 51)
            have hbO := hbel.alloc hbz (.cells #[] 51)
            have hlaw2 := Lib.hid (hlaw.out S hS.out.1 hS.out.2)
            clear hS hown hbel hlaw hW
            go_wp2_with fail
            go_loopw [9, 10, 11] (fun v9 v10 _ wr => ∃ (q g2 c2 nz : Nat) (R : List (Int × Int)), q ≤ n ∧ v10 = .int .i64 q ∧ Hid ((S.take q).foldl stepR [] = R) ∧ Hid (R.length = nz) ∧ nz ≤ q ∧ v9 = .slice (some ⟨g2, 0, none⟩) nz c2 ∧ wr.ownsRow w.heap.size 51 2 v9 nz ((flatW R.reverse).map (Value.int .i64)) ∧ Whole wr g 51 cur ∧ g2 ≠ g ∧ Below w.heap.size w wr) (fun _ v10 _ _ => (n - intOf v10).toNat)
            case atStart => exact ⟨0, _, _, 0, [], by omega, rfl, Lib.hid rfl, Lib.hid rfl, by omega, rfl, hownO, hWO, by omega, hbO⟩
            case round =>
              obtain ⟨q, g2, c2, nz, R, hq, rfl, hR, hnz, hnq, rfl, hownR, hWg, hgne, hbr⟩ := hrel
              clear hownO hWO hbO
              have hbrz := hbr.size
              by_cases hlt : q < n
              · have hlt' : (q : Int) < n := by omega
                obtain ⟨k0, k1⟩ := hcell.out q hlt
                have hfold := fold_take (S := S) (i := q) (by omega)
                rw [hR.out] at hfold
                obtain ⟨⟨xa, xb⟩, hxx⟩ : ∃ z, S.getD q (0, 0) = z := ⟨_, rfl⟩
                rw [hxx] at k0 k1 hfold
                have C0 : ∀ u : Over wr, u.w.cell? ⟨g, q * 2, none⟩ = some (.int .i64 xa) := fun u => u.cell hWg.lt ((hWg.cell _).trans k0)
                have C1 : ∀ u : Over wr, u.w.cell? ⟨g, q * 2 + 1, none⟩ = some (.int .i64 xb) := fun u => u.cell hWg.lt ((hWg.cell _).trans k1)
                clear hxx k0 k1
                cases R with
                | nil =>
                  obtain rfl : nz = 0 := hnz.out.symm
                  have hfold2 : Hid ((S.take (q + 1)).foldl stepR [] = [(xa, xb)]) := Lib.hid hfold
                  have hnz2 : Hid ([(xa, xb)].length = 0 + 1) := Lib.hid rfl
                  have hneg : IntKind.i64.wrap ((0 : Int) - 1) = -1 := by rw [IntKind.wrap_i64]; omega
                  have hneg2 : ¬ ((0 : Int) ≤ -1) := by omega
                  clear hfold hR hnz
                  go_wp2_with fail
                  refine wp_region_over (by kernel_rfl) (by kernel_rfl) ?_
                  repeat (go_big_quiet_step (fail))
                  refine wpQuiet_nil ?_
                  rintro _ ⟨u, rfl⟩
                  have hownU := own_below hownR u.ok
                  have hWU := hWg.below u.ok hWg.lt
                  have hbU := hbr.trans (u.ok.mono hbrz)
                  have d0 := C0 u
                  have d1 := C1 u
                  clear C0 C1 hownR hWg hbr
                  have hnew := Whole.new u.w 51 #[.int .i64 xa, .int .i64 xb]
                  have hownA := hownU.alloc (.cells #[.int .i64 xa, .int .i64 xb] 51)
                  have hWA := hWU.alloc (.cells #[.int .i64 xa, .int .i64 xb] 51)
                  have hbA := hbU.alloc hbU.size (.cells #[.int .i64 xa, .int .i64 xb] 51)
                  have hbUz := hbU.size
                  have hglU := hWU.lt
                  go_wp2_with (at_builtin; refine wpList_append_own_at _ rfl _ _ 25 rfl w.heap.size 51 i0 _ 2 16 Try.underlying25 hi.out hz0'.out hz1'.out hz2'.out rfl (by decide) _ _ _ rfl hownA ⟨u.w.heap.size, 0, none⟩ 1 1 [.int .i64 xa, .int .i64 xb] rfl rfl ?c1 ?c2 ?c3 ?c4 ?c5 ?_)
                  case c1 =>
                    intro k y hy
                    rw [add_zero_off, hnew.cell]
                    simpa using hy
                  case c2 => simp [Value.oneCell']
                  case c3 => simp only [maxLen]; omega
                  case c4 => omega
                  case c5 => simp; omega
                  intro v' wy hown' hgrow _ hat
                  replace hgrow : (u.w.alloc (.cells #[.int .i64 xa, .int .i64 xb] 51)).grownBy wy (some g2) := hgrow
                  have hWy := hWA.grown hgrow (fun e => by injection e with e; exact hgne e)
                  have hby := hbA.trans (below_only hgrow hbA.size (fun k hk => by injection hk with hk; have := (hownU.lt g2 rfl).1; omega))
                  have hoy : wy.ownsRow w.heap.size 51 2 v' (0 + 1) ((flatW ((xa, xb) :: ([] : List (Int × Int))).reverse).map (Value.int .i64)) := by
                    rw [mrg_push]
                    simpa using hown'
                  obtain ⟨g3, c3, cur3, rfl, -⟩ := own_open hoy (by omega)
                  have hg3 : g3 ≠ g := by
                    rcases hat with h | h
                    · simp [Value.ownBlock] at h; omega
                    · simp [Value.ownBlock] at h; omega
                  clear hown' hgrow hat hownU hWU hbU hnew hownA hWA hbA
                  go_wp2
                  go_roundw
                  case rel => exact ⟨q + 1, g3, c3, 0 + 1, _, by omega, by go_num, hfold2, hnz2, by omega, rfl, hoy, hWy, hg3, hby⟩
                  case measure => simp [intOf]; omega
                | cons l r =>
                  obtain ⟨m, hm⟩ : ∃ m, r.length = m := ⟨_, rfl⟩
                  obtain rfl : nz = m + 1 := by have := hnz.out; simp at this; omega
                  obtain ⟨hzl, hcs⟩ := cells_of hownR
                  have hlast := mrg_last l r
                  rw [hm] at hlast
                  have hset := mrg_set l r (max l.2 xb)
                  rw [hm] at hset
                  obtain ⟨g2', cap2, cur2, hv2, hg2b, hW2, -, -, -, hcur2⟩ := own_open hownR (by omega)
                  injection hv2 with hv2 _ hv3
                  injection hv2 with hv2
                  injection hv2 with hv2
                  subst hv2
                  subst hv3
                  have hl0 : wr.cell? ⟨g2, m * 2 + 1, none⟩ = some (.int .i64 l.2) := by
                    rw [hW2.cell]
                    have := hcur2 _ _ (hcs (m * 2 + 1) (by omega))
                    rw [hlast] at this
                    exact this
                  obtain ⟨la, lb⟩ := l
                  simp only at hl0 hset
                  have hg2l := hW2.lt
                  have C2 : ∀ u : Over wr, u.w.cell? ⟨g2, m * 2 + 1, none⟩ = some (.int .i64 lb) := fun u => u.cell hg2l hl0
                  have hmm : IntKind.i64.wrap (((m : Int) + 1) - 1) = m := by rw [IntKind.wrap_i64]; omega
                  have hmm2 : ((m : Int) + 1) - 1 = m := by omega
                  have hmge : (0 : Int) ≤ m := by omega
                  replace hset := Lib.hid hset
                  clear hcs hlast hl0 hcur2 hzl
                  by_cases hle : xa ≤ lb
                  · have hfold2 : Hid ((S.take (q + 1)).foldl stepR [] = (la, max lb xb) :: r) := Lib.hid (by rw [hfold]; show (if xa ≤ lb then (la, max lb xb) :: r else (xa, xb) :: (la, lb) :: r) = _; rw [if_pos hle])
                    have hnz2 : Hid (((la, max lb xb) :: r).length = m + 1) := Lib.hid (by simp [hm])
                    clear hfold hR hnz hm
                    obtain ⟨mx, hmx⟩ : ∃ z, (if lb < xb then xb else lb) = z := ⟨_, rfl⟩
                    have hmm' : max lb xb = mx := by rw [← hmx]; split <;> omega
                    rw [hmm'] at hfold2 hnz2 hset
                    clear hmm'
                    go_wp2_with fail
                    refine wp_region_over (by kernel_rfl) (by kernel_rfl) ?_
                    repeat (go_big_quiet_step (fail))
                    refine wpQuiet_nil ?_
                    rintro _ ⟨u, rfl⟩
                    have hownU := own_below hownR u.ok
                    have hWU := hWg.below u.ok hWg.lt
                    have hbU := hbr.trans (u.ok.mono hbrz)
                    have hW2U := hW2.below u.ok hg2l
                    have d0 := C0 u
                    have d1 := C1 u
                    have d2 := C2 u
                    have f2 := hW2U.frz (m * 2 + 1)
                    have hown3 := own_setI hownU (m * 2 + 1) mx
                    rw [← hset.out] at hown3
                    have hW3 := hWU.far (p := ⟨g2, m * 2 + 1, none⟩) (by simp; omega) (.int .i64 mx)
                    have hb3 := hbU.setCell (p := ⟨g2, m * 2 + 1, none⟩) hg2b (.int .i64 mx)
                    replace hown3 := Lib.hid hown3
                    replace hW3 := Lib.hid hW3
                    replace hb3 := Lib.hid hb3
                    clear C0 C1 C2 hownR hWg hbr hownU hWU hbU hW2 hW2U hset
                    go_wp2_with fail
                    go_region
                    go_wp2
                    go_roundw
                    case rel => exact ⟨q + 1, g2, c2, m + 1, _, by omega, by go_num, hfold2, hnz2, by omega, rfl, by first | exact hown3.out | (rw [hmx]; exact hown3.out), by first | exact hW3.out | (rw [hmx]; exact hW3.out), hgne, by first | exact hb3.out.drew | (rw [hmx]; exact hb3.out.drew)⟩
                    case measure => simp [intOf]; omega
                  · have hfold2 : Hid ((S.take (q + 1)).foldl stepR [] = (xa, xb) :: (la, lb) :: r) := Lib.hid (by rw [hfold]; show (if xa ≤ lb then (la, max lb xb) :: r else (xa, xb) :: (la, lb) :: r) = _; rw [if_neg hle])
                    have hnz2 : Hid (((xa, xb) :: (la, lb) :: r).length = m + 1 + 1) := Lib.hid (by simp [hm])
                    have hle2 : ¬ (xa ≤ lb) := hle
                    clear hfold hR hnz hm hset hle
                    go_wp2_with fail
                    refine wp_region_over (by kernel_rfl) (by kernel_rfl) ?_
                    repeat (go_big_quiet_step (fail))
                    refine wpQuiet_nil ?_
                    rintro _ ⟨u, rfl⟩
                    have hownU := own_below hownR u.ok
                    have hWU := hWg.below u.ok hWg.lt
                    have hbU := hbr.trans (u.ok.mono hbrz)
                    have d0 := C0 u
                    have d1 := C1 u
                    clear C0 C1 C2 hownR hWg hbr hW2
                    have hnew := Whole.new u.w 51 #[.int .i64 xa, .int .i64 xb]
                    have hownA := hownU.alloc (.cells #[.int .i64 xa, .int .i64 xb] 51)
                    have hWA := hWU.alloc (.cells #[.int .i64 xa, .int .i64 xb] 51)
                    have hbA := hbU.alloc hbU.size (.cells #[.int .i64 xa, .int .i64 xb] 51)
                    have hbUz := hbU.size
                    have hglU := hWU.lt
                    go_wp2_with (at_builtin; refine wpList_append_own_at _ rfl _ _ 25 rfl w.heap.size 51 i0 _ 2 16 Try.underlying25 hi.out hz0'.out hz1'.out hz2'.out rfl (by decide) _ _ _ rfl hownA ⟨u.w.heap.size, 0, none⟩ 1 1 [.int .i64 xa, .int .i64 xb] rfl rfl ?c1 ?c2 ?c3 ?c4 ?c5 ?_)
                    case c1 =>
                      intro k y hy
                      rw [add_zero_off, hnew.cell]
                      simpa using hy
                    case c2 => simp [Value.oneCell']
                    case c3 => simp only [maxLen]; omega
                    case c4 => omega
                    case c5 => simp; omega
                    intro v' wy hown' hgrow _ hat
                    replace hgrow : (u.w.alloc (.cells #[.int .i64 xa, .int .i64 xb] 51)).grownBy wy (some g2) := hgrow
                    have hWy := hWA.grown hgrow (fun e => by injection e with e; exact hgne e)
                    have hby := hbA.trans (below_only hgrow hbA.size (fun k hk => by injection hk with hk; have := (hownU.lt g2 rfl).1; omega))
                    have hoy : wy.ownsRow w.heap.size 51 2 v' ((m + 1) + 1) ((flatW ((xa, xb) :: ((la, lb) :: r)).reverse).map (Value.int .i64)) := by
                      rw [mrg_push]
                      simpa using hown'
                    obtain ⟨g3, c3, cur3, rfl, -⟩ := own_open hoy (by omega)
                    have hg3 : g3 ≠ g := by
                      rcases hat with h | h
                      · simp [Value.ownBlock] at h; omega
                      · simp [Value.ownBlock] at h; omega
                    clear hown' hgrow hat hownU hWU hbU hnew hownA hWA hbA
                    go_wp2
                    go_roundw
                    case rel => exact ⟨q + 1, g3, c3, (m + 1) + 1, _, by omega, by go_num, hfold2, hnz2, by omega, rfl, hoy, hWy, hg3, hby⟩
                    case measure => simp [intOf]; omega
              · obtain rfl : n = q := by omega
                have hRL : flatW R.reverse = L := by
                  rw [← hlaw2.out, ← hR.out, List.take_of_length_le (by omega)]
                have hKn : K = nz := by
                  have h1 := hK.out
                  rw [← hRL, flatW_len, List.length_reverse, hnz.out] at h1
                  omega
                subst hKn
                rw [hRL] at hownR
                go_wp2
                go_ret2
                exact ⟨_, _, rfl, by omega, hownR, hbr⟩
end Go.Proofs.Ytghpaegabppeaaa
