/- The draws of logs that may be no logs. -/
import Derived.Test.YtfckoeoohlgmiaaSig13
import Derived.Maps.AppendAt
set_option linter.unusedSimpArgs false
set_option linter.unusedVariables false
namespace Go.Proofs.Ytfckoeoohlgmiaa
open Go.RowKit

theorem own_put {w : World} {base g n c size : Nat} {e : TypeId} {xs : List Value} (h : w.ownsRow base e size (.slice (some ⟨g, 0, none⟩) n c) n xs) (i : Nat) (u : Value) : (w.setCell ⟨g, i, none⟩ u).ownsRow base e size (.slice (some ⟨g, 0, none⟩) n c) n (xs.set i u) := by
  rcases h.2 with ⟨hv, _⟩ | ⟨g', cap, cur, hv, hb, hh, hnc, hcm, hcs, ht⟩
  · cases hv
  · injection hv with hv1 _ hv3
    injection hv1 with hv1
    injection hv1 with hv1
    subst hv1
    subst hv3
    refine ⟨by simpa using h.1, .inr ⟨g, c, cur.setIfInBounds i u, rfl, hb, Whole.put hh i u, hnc, hcm, by simpa using hcs, ?_⟩⟩
    rw [Array.toList_setIfInBounds, List.take_set, ht]
theorem own_putI {w : World} {base g n c size : Nat} {e : TypeId} {zs : List Int} (h : w.ownsRow base e size (.slice (some ⟨g, 0, none⟩) n c) n (zs.map (Value.int .i64))) (i : Nat) (x : Int) : (w.setCell ⟨g, i, none⟩ (.int .i64 x)).ownsRow base e size (.slice (some ⟨g, 0, none⟩) n c) n ((zs.set i x).map (Value.int .i64)) := by
  rw [List.map_set]; exact own_put h i _
theorem set_all {zs : List Int} {i : Nat} {x M : Int} (h : ∀ y ∈ zs, -1 ≤ y ∧ y ≤ M) (hx : -1 ≤ x ∧ x ≤ M) : ∀ y ∈ zs.set i x, -1 ≤ y ∧ y ≤ M := by
  intro y hy
  rcases List.mem_or_eq_of_mem_set hy with h' | rfl
  · exact h y h'
  · exact hx
def lenV : Value → Nat
  | .slice _ n _ => n
  | _ => 0
theorem getD_all {zs : List Int} {P : Int → Prop} (h : ∀ y ∈ zs, P y) {i : Nat} (hi : i < zs.length) : P (zs.getD i 0) := by
  rw [List.getD_eq_getElem?_getD, List.getElem?_eq_getElem hi]
  exact h _ (List.getElem_mem _)
set_option maxHeartbeats 8000000 in
theorem l13DrawAny_any (w : World) (B g m : Nat) (bs : Nat → Int) (h : SrcX w B g m bs) :
    Calls Try.prog 47 #[.pointer (some ⟨g, 0, none⟩)] w fun e w' => DrewL w w' B g m bs 41 1000000001 e := by
  have hgl := h.lt
  obtain ⟨i0, hi, hz0', hz1', hz2'⟩ := info_parts infoSignal
  replace hi := Lib.hid hi
  replace hz0' := Lib.hid hz0'
  replace hz1' := Lib.hid hz1'
  replace hz2' := Lib.hid hz2'
  go_enter Try.func47, Try.ntmps47
  go_wp2_with fail
  refine (l13Draw_any _ _ _ _ _ h).mono ?_
  rintro e w1 ⟨v, n, zs, rfl, n11, hown, hS1, hg1, hzb⟩
  have hz1 := hg1.size
  have hzb' : ∀ x ∈ zs, -1 ≤ x ∧ x ≤ 1000000001 := fun x hx => ⟨(hzb x hx).1, by have := (hzb x hx).2; omega⟩
  rcases Nat.eq_zero_or_pos n with hn0 | hn0
  · subst hn0
    obtain ⟨A', c', rfl, hnc, hcm⟩ := own_form hown
    go_wp2
    go_ret
    exact ⟨_, 0, zs, rfl, by omega, hown, hS1, hg1, hzb'⟩
  obtain ⟨g', cap, cur, rfl, hg'b, hWh, hncap, hcapm, hcs, hcur⟩ := own_open hown hn0
  have hgg : g' < w1.heap.size := hWh.lt
  go_wp2_with fail
  refine (nextR _ _ _ _ _ _ hS1 (by omega) (by omega)).mono ?_
  rintro e w2 ⟨kk, rfl, k0, k1, hS2, hg2⟩
  have hW2 := hWh.grown hg2 (fun e => by injection e with e; omega)
  have hown2 := own_only hown hg2 (fun k e => by injection e with e; omega)
  go_wp2_with fail
  refine (nextR _ _ _ _ _ _ hS2 (by omega) (by omega)).mono ?_
  rintro e w3 ⟨d, rfl, d0, d1, hS3, hg3⟩
  have hW3 := hW2.grown hg3 (fun e => by injection e with e; omega)
  have hown3 := own_only hown2 hg3 (fun k e => by injection e with e; omega)
  have hgw3 := only_trans (only_trans hg1 hg2) hg3
  have hz3 := hg3.size
  have hz2 := hg2.size
  obtain ⟨hzl, hzc⟩ := cells_of hown3
  have hcells : ∀ j, j < n * 2 → cur[j]? = some (.int .i64 (zs.getD j 0)) := fun j hj => hcur j _ (hzc j hj)
  replace hcells := Lib.hid hcells
  replace hcs := Lib.hid hcs
  obtain ⟨k, rfl⟩ : ∃ k : Nat, kk = k := ⟨kk.toNat, by omega⟩
  have hkn : k < n := by omega
  clear hown hown2 hS1 hS2 hg1 hg2 hg3 hWh hW2 hcur hzc h
  by_cases h0 : d = 0
  · subst h0
    go_wp2_with fail
    refine (nextR _ _ _ _ _ _ (hS3.new _) (by omega) (by omega)).mono ?_
    rintro e w4 ⟨r, rfl, r0, r1', hS4, hg4⟩
    obtain ⟨x, hx, hcell⟩ := ((Whole.new w3 2 _).grown hg4 (fun e => by injection e with e; omega)).pick [0, 9] rfl r r0 (by simpa using r1')
    have hW4 := (hW3.alloc _).grown hg4 (fun e => by injection e with e; omega)
    have hown4 := own_only (hown3.alloc _) hg4 (fun k e => by injection e with e; omega)
    have s0 := hW4.some_ (k * 2) (by have := hcs.out; omega)
    have f0 := hW4.frz (k * 2)
    have hgw4 := only_trans (only_new hgw3 _) hg4
    have hxb : -1 ≤ x ∧ x ≤ 1000000001 := by simp at hx; omega
    clear hx
    go_wp2
    go_ret
    exact ⟨_, n, zs.set (k * 2) x, rfl, by omega, own_putI hown4 _ _, hS4.only (row := some g') (only_put (only_refl _ _) _ _) (fun k e => by injection e with e; omega), only_put_new hgw4 (by omega) _ _, set_all hzb' hxb⟩
  by_cases h1 : d = 1
  · subst h1
    go_wp2_with fail
    refine (nextR _ _ _ _ _ _ (hS3.new _) (by omega) (by omega)).mono ?_
    rintro e w4 ⟨r, rfl, r0, r1', hS4, hg4⟩
    obtain ⟨x, hx, hcell⟩ := ((Whole.new w3 2 _).grown hg4 (fun e => by injection e with e; omega)).pick [-1, 1000000000, 1000000001, 0] rfl r r0 (by simpa using r1')
    have hW4 := (hW3.alloc _).grown hg4 (fun e => by injection e with e; omega)
    have hown4 := own_only (hown3.alloc _) hg4 (fun k e => by injection e with e; omega)
    have s0 := hW4.some_ (k * 2 + 1) (by have := hcs.out; omega)
    have f0 := hW4.frz (k * 2 + 1)
    have hgw4 := only_trans (only_new hgw3 _) hg4
    have hxb : -1 ≤ x ∧ x ≤ 1000000001 := by simp at hx; omega
    clear hx
    go_wp2
    go_ret
    exact ⟨_, n, zs.set (k * 2 + 1) x, rfl, by omega, own_putI hown4 _ _, hS4.only (row := some g') (only_put (only_refl _ _) _ _) (fun k e => by injection e with e; omega), only_put_new hgw4 (by omega) _ _, set_all hzb' hxb⟩
  by_cases h2 : d = 2
  · subst h2
    have s0 := hW3.some_ (k * 2 + 1) (by have := hcs.out; omega)
    have s1 := hW3.cell (k * 2 + 1)
    rw [hcells.out _ (by omega)] at s1
    clear s0
    have f0 := hW3.frz (k * 2 + 1)
    have hxb := getD_all (P := fun y => -1 ≤ y ∧ y ≤ 10000000) hzb (i := k * 2 + 1) (by omega)
    generalize zs.getD (k * 2 + 1) 0 = x at s1 hxb
    go_wp2
    go_ret
    exact ⟨_, n, zs.set (k * 2 + 1) (x + 1), rfl, by omega, own_putI hown3 _ _, hS3.only (row := some g') (only_put (only_refl _ _) _ _) (fun k e => by injection e with e; omega), only_put_new hgw3 (by omega) _ _, set_all hzb' ⟨by omega, by omega⟩⟩
  by_cases h3 : d = 3
  · subst h3
    clear hcells hcs hW3 hgg hncap hcapm
    go_wp2_with fail
    go_loopw [3] (fun v3 wr => ∃ (n : Nat) (zs : List Int), 0 < n ∧ n ≤ 41 ∧ wr.ownsRow w.heap.size 43 2 v3 n (zs.map (Value.int .i64)) ∧ SrcX wr B g m bs ∧ w.grownBy wr (some g) ∧ (∀ x ∈ zs, -1 ≤ x ∧ x ≤ 1000000001)) (fun v3 _ => 42 - lenV v3)
    case atStart => exact ⟨n, zs, hn0, by omega, hown3, hS3, hgw3, hzb'⟩
    case round =>
      clear hown3 hS3 hgw3 hzb' hzb hzl hn0 n11 k0 k1 hkn
      obtain ⟨n, zs, hn0, hn41, hown, hS, hgw, hzb⟩ := hrel
      have hsw := hgw.size
      obtain ⟨hzl, hzc⟩ := cells_of hown
      obtain ⟨g', cap, cur, rfl, hg'b, hWh, hncap, hcapm, hcs, hcur⟩ := own_open hown hn0
      go_wp2_with fail
      refine (nextR _ _ _ _ _ _ hS (by omega) (by omega)).mono ?_
      rintro e w4 ⟨r, rfl, r0, r1', hS4, hg4⟩
      have hW4 := hWh.grown hg4 (fun e => by injection e with e; omega)
      have hown4 := own_only hown hg4 (fun k e => by injection e with e; omega)
      have hgw4 := only_trans hgw hg4
      have hz4 := hg4.size
      obtain ⟨q, rfl⟩ : ∃ q, n = q + 1 := ⟨n - 1, by omega⟩
      have hwr : IntKind.i64.wrap (q : Int) = q := IntWalk.i64_in _ (by omega)
      by_cases hlt : ((q : Int) + 1) < 40 + r
      · have y0 := (hW4.cell (q * 2)).trans (hcur _ _ (hzc (q * 2) (by omega)))
        have y1 := (hW4.cell (q * 2 + 1)).trans (hcur _ _ (hzc (q * 2 + 1) (by omega)))
        have b0 := getD_all (P := fun y => -1 ≤ y ∧ y ≤ 1000000001) hzb (i := q * 2) (by omega)
        have b1 := getD_all (P := fun y => -1 ≤ y ∧ y ≤ 1000000001) hzb (i := q * 2 + 1) (by omega)
        generalize zs.getD (q * 2) 0 = x0 at y0 b0
        generalize zs.getD (q * 2 + 1) 0 = x1 at y1 b1
        have hgl4 := hW4.lt
        have hnew := Whole.new w4 43 #[.int .i64 x0, .int .i64 x1]
        clear hcs hcur hzc hWh hown hgw hg4 hS
        go_wp2_with (at_builtin; refine wpList_append_own_at _ rfl _ _ 26 rfl w.heap.size 43 i0 _ 2 16 Try.underlying26 hi.out hz0'.out hz1'.out hz2'.out rfl (by decide) _ _ _ rfl (hown4.alloc _) ⟨w4.heap.size, 0, none⟩ 1 1 [.int .i64 x0, .int .i64 x1] rfl rfl ?c1 ?c2 ?c3 ?c4 ?c5 ?_)
        case c1 =>
          intro j u hu
          rw [add_zero_off, hnew.cell]
          simpa using hu
        case c2 => simp [Value.oneCell']
        case c3 => simp only [maxLen]; omega
        case c4 => omega
        case c5 => simp; omega
        intro v' w5 hown' hgrow _ hat
        have hgw5 : w.grownBy w5 (some g) := only_own (only_new hgw4 _) hgrow (fun k hk => (hown4.lt k hk).1) (Nat.le_refl _)
        have hS5 : SrcX w5 B g m bs := (hS4.new _).only hgrow (fun k hk => by have := (hown4.lt k hk).1; omega)
        have hown5 : w5.ownsRow w.heap.size 43 2 v' (q + 1 + 1) ((zs ++ [x0, x1]).map (Value.int .i64)) := by simpa using hown'
        clear hown' hgrow hat hown4 hW4 hgw4 hS4
        have hform := own_form hown5
        have hzb5 : ∀ x ∈ zs ++ [x0, x1], -1 ≤ x ∧ x ≤ 1000000001 := by
          intro x hx
          rcases List.mem_append.1 hx with hx | hx
          · exact hzb x hx
          · simp at hx; rcases hx with rfl | rfl <;> assumption
        replace hform := Lib.hid hform
        go_wp2
        go_roundw
        case rel => exact ⟨q + 1 + 1, zs ++ [x0, x1], by omega, by omega, hown5, hS5, hgw5, hzb5⟩
        case measure =>
          obtain ⟨A', c', hv, _⟩ := hform.out
          simp [lenV, hv]
          omega
      · clear hcs hcur hzc hWh hown hgw hg4 hS
        go_wp2
        go_ret
        exact ⟨_, q + 1, zs, rfl, by omega, hown4, hS4, hgw4, hzb⟩
  · have n0 : (d == 0) = false := by rw [beq_eq_false_iff_ne]; exact h0
    have n1 : (d == 1) = false := by rw [beq_eq_false_iff_ne]; exact h1
    have n2 : (d == 2) = false := by rw [beq_eq_false_iff_ne]; exact h2
    have n3 : (d == 3) = false := by rw [beq_eq_false_iff_ne]; exact h3
    go_wp2
    go_ret
    exact ⟨_, n, zs, rfl, by omega, hown3, hS3, hgw3, hzb'⟩
end Go.Proofs.Ytfckoeoohlgmiaa
