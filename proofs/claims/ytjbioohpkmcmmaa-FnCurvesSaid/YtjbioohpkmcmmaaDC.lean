/- The draws of curves. -/
import Derived.Test.YtjbioohpkmcmmaaPick
import Derived.Test.YtjbioohpkmcmmaaOwn
import Derived.Test.YtjbioohpkmcmmaaSCurvePoint
set_option linter.unusedSimpArgs false
set_option linter.unusedVariables false
namespace Go.Proofs.Ytjbioohpkmcmmaa
open Go.RowKit

set_option maxHeartbeats 4000000 in
theorem l24Draw_any (w : World) (B g m : Nat) (bs : Nat → Int) (h : SrcX w B g m bs) :
    Calls Try.prog 30 #[.pointer (some ⟨g, 0, none⟩)] w fun e w' => ∃ A n c xs, e = .returned (.slice A n c) ∧ 1 ≤ n ∧ n ≤ 10 ∧ Ints w' w'.heap.size A (n * 2) xs ∧ (∀ b o, A = some ⟨b, o, none⟩ → g < b) ∧ SrcX w' B g m bs ∧ w.grownBy w' (some g) := by
  have hgl := h.lt
  obtain ⟨i0, hi, hz0, hz1, hz2⟩ := info_parts infoCurvePoint
  replace hi := Lib.hid hi
  replace hz0 := Lib.hid hz0
  replace hz1 := Lib.hid hz1
  replace hz2 := Lib.hid hz2
  go_enter Try.func30, Try.ntmps30
  go_wp2_with fail
  have hW0 := Whole.new w 39 #[]
  refine (nextR _ _ _ _ _ _ (h.new _) (by omega) (by omega)).mono ?_
  rintro e w1 ⟨r1, rfl, r10, r11, hS1, hg1⟩
  go_wp2_with fail
  refine (nextR _ _ _ _ _ _ hS1 (by omega) (by omega)).mono ?_
  rintro e w2 ⟨r2, rfl, r20, r21, hS2, hg2⟩
  go_wp2_with fail
  refine (nextR _ _ _ _ _ _ hS2 (by omega) (by omega)).mono ?_
  rintro e w3 ⟨r3, rfl, r30, r31, hS3, hg3⟩
  have hgr : w.grownBy w3 (some g) := only_trans (only_trans (only_trans (only_new (only_refl w (some g)) _) hg1) hg2) hg3
  have hW3 := ((hW0.grown hg1 (fun e => by injection e with e; omega)).grown hg2 (fun e => by injection e with e; omega)).grown hg3 (fun e => by injection e with e; omega)
  have hown0 : w3.ownsRow w.heap.size 39 2 (.slice (some ⟨w.heap.size, 0, none⟩) 0 0) 0 (([] : List Int).map (Value.int .i64)) := own_empty hW3 (Nat.le_refl _)
  clear hW0 hW3 hg1 hg2 hg3 hS1 hS2 h
  go_wp2_with fail
  go_loopw [3, 4, 5, 6] (fun v3 v4 v5 v6 wr => ∃ (n : Nat) (zs : List Int) (a p q : Int), v4 = .int .i64 a ∧ v5 = .int .i64 p ∧ v6 = .int .i64 q ∧ 0 ≤ a ∧ a ≤ 100 * (n + 1) ∧ 1 ≤ p ∧ p ≤ 10000 ∧ 0 ≤ q ∧ n + q = 2 + r3 ∧
    wr.ownsRow w.heap.size 39 2 v3 n (zs.map (Value.int .i64)) ∧ SrcX wr B g m bs ∧ w.grownBy wr (some g)) (fun v3 v4 v5 v6 _ => (intOf v6).toNat)
  case atStart => exact ⟨0, [], r1, 3000 + r2, 2 + r3, rfl, rfl, rfl, by omega, by omega, by omega, by omega, by omega, by omega, hown0, hS3, hgr⟩
  case round =>
    obtain ⟨n, zs, a, p, q, rfl, rfl, rfl, a0, a1, p0, p1, q0, hnq, hown, hS, hgw⟩ := hrel
    clear hown0 hS3 hgr
    have hzw := hgw.size
    by_cases hq : 0 < q
    · obtain ⟨A, c, rfl, hnc, hcm⟩ := own_form hown
      go_wp2_with (at_builtin; refine wpList_append_own _ rfl _ _ 25 rfl w.heap.size 39 i0 _ 2 16 Try.underlying25 hi.out hz0.out hz1.out hz2.out rfl (by decide) _ _ _ rfl (hown.alloc _) ⟨wr.heap.size, 0, none⟩ 1 1 [.int .i64 a, .int .i64 p] rfl rfl ?c1 ?c2 ?c3 ?c4 ?c5 ?_)
      case c1 =>
        intro j u hu
        rw [add_zero_off, (Whole.new wr 39 _).cell]
        simpa using hu
      case c2 => simp [Value.oneCell']
      case c3 => simp only [maxLen]; omega
      case c4 => omega
      case c5 => simp; omega
      intro v' w1 hown1 hgrow _
      have hg1 : w.grownBy w1 (some g) := only_own (only_new hgw _) hgrow (fun k hk => (hown.lt k hk).1) (Nat.le_refl _)
      have hS1 : SrcX w1 B g m bs := (hS.new _).only hgrow (fun k hk => by have := (hown.lt k hk).1; omega)
      have hown1' : w1.ownsRow w.heap.size 39 2 v' (n + 1) ((zs ++ [a, p]).map (Value.int .i64)) := by simpa using hown1
      clear hown1 hgrow hown hS hgw
      go_wp2_with fail
      refine (nextR _ _ _ _ _ _ hS1 (by omega) (by omega)).mono ?_
      rintro e w2 ⟨k1, rfl, k10, k11, hS2, hg2⟩
      go_wp2_with fail
      refine (nextR _ _ _ _ _ _ hS2 (by omega) (by omega)).mono ?_
      rintro e w3' ⟨k2, rfl, k20, k21, hS3, hg3⟩
      have hown3 := own_only (own_only hown1' hg2 (fun k e => by injection e with e; omega)) hg3 (fun k e => by injection e with e; omega)
      have hgw3 := only_trans (only_trans hg1 hg2) hg3
      clear hown1' hg1 hg2 hg3 hS1 hS2
      by_cases hp : 1 < p - 1 - k2
      · go_wp2
        go_roundw
        case rel => exact ⟨n + 1, _, _, _, _, rfl, rfl, rfl, by omega, by omega, by omega, by omega, by omega, by omega, hown3, hS3, hgw3⟩
        case measure => simp [intOf]; omega
      · go_wp2
        go_roundw
        case rel => exact ⟨n + 1, _, _, _, _, rfl, rfl, rfl, by omega, by omega, by omega, by omega, by omega, by omega, hown3, hS3, hgw3⟩
        case measure => simp [intOf]; omega
    · have hn2 : 2 ≤ n := by omega
      have hn3 : n ≤ 6 := by omega
      obtain ⟨hzl, hzc⟩ := cells_of hown
      obtain ⟨g', cap, cur, rfl, hg'b, hWh, hncap, hcapm, hcs, hcur⟩ := own_open hown (by omega)
      have hcells : ∀ j, j < n * 2 → cur[j]? = some (.int .i64 (zs.getD j 0)) := fun j hj => hcur j _ (hzc j hj)
      have hgg : g' < wr.heap.size := hWh.lt
      replace hcells := Lib.hid hcells
      replace hcs := Lib.hid hcs
      clear hown hcur hzc hzl hnq
      go_wp2_with fail
      refine (nextR _ _ _ _ _ _ hS (by omega) (by omega)).mono ?_
      rintro e w1 ⟨kk, rfl, k0, k1, hS1, hg1⟩
      have hW1 := hWh.grown hg1 (fun e => by injection e with e; omega)
      go_wp2_with fail
      refine (nextR _ _ _ _ _ _ hS1 (by omega) (by omega)).mono ?_
      rintro e w2 ⟨d, rfl, d0, d1, hS2, hg2⟩
      have hW2 := hW1.grown hg2 (fun e => by injection e with e; omega)
      have hgw2 := only_trans (only_trans hgw hg1) hg2
      have hz2' := hgw2.size
      clear hS hS1 hg1 hg2 hW1 hWh hgw
      obtain ⟨k, rfl⟩ : ∃ k : Nat, kk = k := ⟨kk.toNat, by omega⟩
      have hkn : k < n := by omega
      by_cases h0 : d = 0
      · subst h0
        go_wp2_with fail
        refine (nextR _ _ _ _ _ _ (hS2.new _) (by omega) (by omega)).mono ?_
        rintro e w3 ⟨r, rfl, r0, r1', hS4, hg4⟩
        obtain ⟨x, hx, hcell⟩ := ((Whole.new w2 2 _).grown hg4 (fun e => by injection e with e; omega)).pick [-1, 0, 1000, 1001] rfl r r0 (by simpa using r1')
        have hW4 := (hW2.alloc _).grown hg4 (fun e => by injection e with e; omega)
        have s0 := hW4.some_ (k * 2) (by have := hcs.out; omega)
        have f0 := hW4.frz (k * 2)
        have hgw4 := only_trans (only_new hgw2 _) hg4
        clear hx
        go_wp2
        go_ret
        refine ⟨_, n, cap, _, rfl, by omega, by omega, Ints.of_whole (hW4.put (k * 2) (.int .i64 x)) (hW4.put (k * 2) (.int .i64 x)).lt (ints_put hcells.out (k * 2) x), fun b o e => by injection e with e; injection e; omega, hS4.only (row := some g') ?_ ?_, only_put_new hgw4 (by omega) _ _⟩
        · exact only_put (only_refl _ _) _ _
        · intro k e; injection e with e; omega
      by_cases h1 : d = 1
      · subst h1
        go_wp2_with fail
        refine (nextR _ _ _ _ _ _ (hS2.new _) (by omega) (by omega)).mono ?_
        rintro e w3 ⟨r, rfl, r0, r1', hS4, hg4⟩
        obtain ⟨x, hx, hcell⟩ := ((Whole.new w2 2 _).grown hg4 (fun e => by injection e with e; omega)).pick [0, 1, 1000000, 1000001] rfl r r0 (by simpa using r1')
        have hW4 := (hW2.alloc _).grown hg4 (fun e => by injection e with e; omega)
        have s0 := hW4.some_ (k * 2 + 1) (by have := hcs.out; omega)
        have f0 := hW4.frz (k * 2 + 1)
        have hgw4 := only_trans (only_new hgw2 _) hg4
        clear hx
        go_wp2
        go_ret
        refine ⟨_, n, cap, _, rfl, by omega, by omega, Ints.of_whole (hW4.put (k * 2 + 1) (.int .i64 x)) (hW4.put (k * 2 + 1) (.int .i64 x)).lt (ints_put hcells.out (k * 2 + 1) x), fun b o e => by injection e with e; injection e; omega, hS4.only (row := some g') ?_ ?_, only_put_new hgw4 (by omega) _ _⟩
        · exact only_put (only_refl _ _) _ _
        · intro k e; injection e with e; omega
      have n0 : (d == 0) = false := by rw [beq_eq_false_iff_ne]; exact h0
      have n1 : (d == 1) = false := by rw [beq_eq_false_iff_ne]; exact h1
      clear h0 h1
      by_cases h2 : d = 2
      · subst h2
        go_wp2
        go_ret
        exact ⟨_, 1, _, _, rfl, by omega, by omega, (Ints.of_whole hW2 hW2.lt hcells.out).fewer (by omega), fun b o e => by injection e with e; injection e; omega, hS2, hgw2⟩
      · have n2 : (d == 2) = false := by rw [beq_eq_false_iff_ne]; exact h2
        clear h2
        go_wp2
        go_ret
        exact ⟨_, n, _, _, rfl, by omega, by omega, Ints.of_whole hW2 hW2.lt hcells.out, fun b o e => by injection e with e; injection e; omega, hS2, hgw2⟩
end Go.Proofs.Ytjbioohpkmcmmaa
