/- The draw of a race and allowances, off a code. -/
import Derived.Test.YtbmclcajgplpnaaFin4
import Derived.Test.YtbmclcajgplpnaaMInt64
set_option linter.unusedSimpArgs false
set_option linter.unusedVariables false
namespace Go.Proofs.Ytbmclcajgplpnaa
open Go.RowKit

def DrewD (w w' : World) (e : Ending) : Prop :=
  ∃ (b : Int) (A : Option Addr) (n c : Nat) (xs : Nat → Int) (A2 : Option Addr) (n2 c2 : Nat) (ys : Nat → Int) (d : Int), e = .returned (.tuple #[.int .i64 b, .slice A n c, .slice A2 n2 c2, .int .i64 d]) ∧ n ≤ 17 ∧ n2 ≤ 17 ∧
    Ints w' w'.heap.size A (n * 3) xs ∧ Ints w' w'.heap.size A2 n2 ys ∧ 0 ≤ d ∧ d ≤ 10000001 ∧ Below w.heap.size w w'
set_option maxRecDepth 100000 in
set_option maxHeartbeats 8000000 in
theorem drawCorrectByDistance_any (A : Option Addr) (m c : Nat) (bs : Nat → Int) (w : World) (hc : Nums .u8 w w.heap.size A m bs) (hm : m ≤ 100000) (hb : ∀ j, 0 ≤ bs j ∧ bs j ≤ 255) :
    Calls Try.prog 28 #[.slice A m c] w fun e w' => DrewD w w' e := by
  obtain ⟨i0, hi, hz0', hz1', hz2'⟩ := info_parts infoInt64
  replace hi := Lib.hid hi
  replace hz0' := Lib.hid hz0'
  replace hz1' := Lib.hid hz1'
  replace hz2' := Lib.hid hz2'
  go_enter Try.func28, Try.ntmps28
  go_wp2_with fail
  refine (fromR _ _ _ _ _ _ hc (Nat.le_refl _) hm hb).mono ?_
  rintro e w1 ⟨rfl, hS1, hb1⟩
  have hgl := hS1.lt
  have hz1 := hb1.size
  go_wp2_with fail
  refine (l22DrawRace_any _ _ _ _ _ hS1).mono ?_
  rintro e w2 ⟨b, v, n, zs, rfl, b0, b1, n17, hown, hS2, hg2⟩
  obtain ⟨A1, c1, rfl, hnc, hcm⟩ := own_form hown
  have hz2 := hg2.size
  have hA0 : (w2.alloc (.cells #[] 2)).ownsRow w2.heap.size 2 1 (.slice (some ⟨w2.heap.size, 0, none⟩) 0 0) 0 (([] : List Int).map (Value.int .i64)) := own_empty (Whole.new w2 2 #[]) (Nat.le_refl _)
  have hS3 := hS2.new (.cells #[] 2)
  have hg3 := only_new (only_refl w2 (some w.heap.size)) (.cells #[] 2)
  clear hS1
  go_wp2_with fail
  go_loopw [9, 10] (fun vo vi wr => ∃ (k : Nat) (us : List Int), vi = .int .i64 k ∧ k ≤ 17 ∧ (k : Int) ≤ b ∧ wr.ownsRow w2.heap.size 2 1 vo k (us.map (Value.int .i64)) ∧ SrcX wr w.heap.size w.heap.size m bs ∧ w2.grownBy wr (some w.heap.size)) (fun vo vi _ => (b - intOf vi).toNat)
  case atStart => exact ⟨0, [], rfl, by omega, b0, hA0, hS3, hg3⟩
  case round =>
    obtain ⟨k, us, rfl, hk, hkb, hownk, hS, hg⟩ := hrel
    clear hA0 hS3 hg3
    have hzw := hg.size
    go_wp2_with fail
    refine (nextR _ _ _ _ _ _ hS (by omega) (by omega)).mono ?_
    rintro e w3 ⟨r, rfl, r0, r1, hS3, hg3⟩
    have hown3 := own_only hownk hg3 (fun j e => by injection e with e; omega)
    have hgw3 := only_trans hg hg3
    have hz3 := hgw3.size
    clear hownk hS hg hg3
    obtain ⟨A2, c2, rfl, hnc2, hcm2⟩ := own_form hown3
    have hq : r / 23 = 0 ∨ r / 23 = 1 := by omega
    have hq2 : r.tdiv 23 = r / 23 := Int.tdiv_eq_ediv_of_nonneg r0
    by_cases hlt : (k : Int) < b - r / 23
    · go_wp2_with fail
      refine (l23DrawAllowance_any _ _ _ _ _ hS3).mono ?_
      rintro e w4 ⟨a, rfl, a0, a1, hS4, hg4⟩
      have hown4 := own_only hown3 hg4 (fun j e => by injection e with e; omega)
      have hgw4 := only_trans hgw3 hg4
      have hz4 := hgw4.size
      have hnew := Whole.new w4 2 #[.int .i64 a]
      clear hown3 hgw3 hS3 hg4
      go_wp2_with (at_builtin; refine wpList_append_own_at _ rfl _ _ 39 rfl w2.heap.size 2 i0 _ 1 8 Try.underlying39 hi.out hz0'.out hz1'.out hz2'.out rfl (by decide) _ _ _ rfl (hown4.alloc _) ⟨w4.heap.size, 0, none⟩ 1 1 [.int .i64 a] rfl rfl ?c1 ?c2 ?c3 ?c4 ?c5 ?_)
      case c1 =>
        intro j u hu
        rw [add_zero_off, hnew.cell]
        simpa using hu
      case c2 => simp [Value.oneCell']
      case c3 => simp only [maxLen]; omega
      case c4 => omega
      case c5 => simp; omega
      intro v' w5 hown' hgrow _ hat
      have hgw5 : w2.grownBy w5 (some w.heap.size) := only_own (only_new hgw4 _) hgrow (fun j hj => (hown4.lt j hj).1) (Nat.le_refl _)
      have hS5 : SrcX w5 w.heap.size w.heap.size m bs := (hS4.new _).only hgrow (fun j hj => by have := (hown4.lt j hj).1; omega)
      have hown5 : w5.ownsRow w2.heap.size 2 1 v' (k + 1) ((us ++ [a]).map (Value.int .i64)) := by simpa using hown'
      clear hown' hgrow hat hown4 hgw4 hS4
      go_wp2
      go_roundw
      case rel => exact ⟨k + 1, _, by go_num, by omega, by omega, hown5, hS5, hgw5⟩
      case measure => simp [intOf]; try omega
    · go_wp2_with fail
      refine (l23DrawDistance_any _ _ _ _ _ hS3).mono ?_
      rintro e w4 ⟨d, rfl, d0, d1, hS4, hg4⟩
      have hown4 := own_only hown3 hg4 (fun j e => by injection e with e; omega)
      have hgw4 := only_trans hgw3 hg4
      have hl4 := own_only hown hgw4 (fun j e => by injection e with e; omega)
      obtain ⟨hzl, hzc⟩ := cells_of hl4
      obtain ⟨hul, huc⟩ := cells_of hown4
      have hI1 : Ints w4 w4.heap.size A1 (n * 3) (fun j => zs.getD j 0) := Ints.of_own hl4 (Nat.le_refl _) (by simp; omega) hzc
      have hI2 : Ints w4 w4.heap.size A2 k (fun j => us.getD j 0) := Ints.of_own hown4 (Nat.le_refl _) (by simp; omega) (fun j hj => huc j (by omega))
      have hBB : Below w.heap.size w w4 := hb1.trans (below_only (only_trans hg2 hgw4) hz1 (fun j e => by injection e with e; omega))
      clear hown hown3 hown4 hl4 hgw3 hgw4 hS3 hS4 hg4 hzc huc
      go_wp2
      refine bodyPost_ret (v := .tuple #[.int .i64 b, .slice A1 n c1, .slice A2 k c2, .int .i64 d]) (by simp [results, Try.results28, go_sem]) rfl ⟨_, _, _, _, _, _, _, _, _, _, rfl, n17, hk, hI1, hI2, d0, d1, hBB⟩
end Go.Proofs.Ytbmclcajgplpnaa
