/- CorrectFinishes: the program's and the reference's. -/
import Derived.Test.YtbmclcajgplpnaaFin
import Derived.Test.YtbmclcajgplpnaaNum
import Derived.Test.YtbmclcajgplpnaaMFinish
import Derived.Test.YtbmclcajgplpnaaSFinish
import Derived.Deep.CutRange
import Derived.Deep.RegionWith
set_option linter.unusedSimpArgs false
set_option linter.unusedVariables false
namespace Go.Proofs.Ytbmclcajgplpnaa
open Go.RowKit

theorem own_base {w : World} {base b : Nat} {e : TypeId} {size : Nat} {v : Value} {n : Nat} {xs : List Value} (h : w.ownsRow base e size v n xs) (hb : b ≤ base) : w.ownsRow b e size v n xs :=
  ⟨h.1, h.2.imp id fun ⟨g, cap, cur, a, c, d⟩ => ⟨g, cap, cur, a, Nat.le_trans hb c, d⟩⟩
theorem own_put {w : World} {base g i : Nat} {u : Value} {e : TypeId} {size : Nat} {v : Value} {n : Nat} {xs : List Value} (h : w.ownsRow base e size v n xs) (hg : v.ownBlock ≠ some g) : (w.setCell ⟨g, i, none⟩ u).ownsRow base e size v n xs :=
  h.kept (only_put (only_refl w (some g)) i u) (.inr (fun e => hg e))
/-- The time behind the correction. -/
def corF (xs ys : Nat → Int) (k : Nat) : Int := if xs (k * 3 + 1) = 0 then corV (xs (k * 3 + 2)) (ys (k * 2 + 1)) else xs (k * 3 + 2)
def cfTo (xs ys : Nat → Int) : Nat → List Int
  | 0 => []
  | k + 1 => cfTo xs ys k ++ [xs (k * 3), xs (k * 3 + 1), corF xs ys k]
def cfL (m : Int) (n : Nat) (xs : Nat → Int) (n2 : Nat) (ys : Nat → Int) : List Int := if codF m n xs n2 ys = 0 then cfTo xs ys n else []
def cfK (m : Int) (n : Nat) (xs : Nat → Int) (n2 : Nat) (ys : Nat → Int) : Nat := if codF m n xs n2 ys = 0 then n else 0
theorem codF_0 {m : Int} {n : Nat} {xs : Nat → Int} {n2 : Nat} {ys : Nat → Int} (h : codF m n xs n2 ys = 0) : n2 = n ∧ n ≤ 16 ∧ (∀ i, i < n → finB (xs (i * 3)) (xs (i * 3 + 1)) (xs (i * 3 + 2)) = true) ∧ ∀ i, i < n → 1 ≤ ys (i * 2 + 1) ∧ ys (i * 2 + 1) ≤ 3000 := by
  unfold codF at h
  by_cases h1 : racB m n xs = true
  · rw [if_pos h1] at h
    by_cases h2 : isB m n2 ys = true
    · have a := racB_t h1
      have b := isB_t h2
      refine ⟨by omega, by omega, a.2.2.2, fun i hi => (b.2.2.2 i (by omega)).2⟩
    · rw [if_neg h2] at h; omega
  · rw [if_neg h1] at h; omega

theorem ratingsCode_val (m : Int) (A : Option Addr) (n c B : Nat) (xs : Nat → Int) (A2 : Option Addr) (n2 c2 B2 : Nat) (ys : Nat → Int) (w : World) (v : Int) (hv : Hid (codF m n xs n2 ys = v)) (hx : Ints w B A (n * 3) xs) (hB : B ≤ w.heap.size) (hn : n ≤ 9223372036854775807) (hy : Ints w B2 A2 (n2 * 2) ys) (hB2 : B2 ≤ w.heap.size) (hn2 : n2 ≤ 9223372036854775807) :
    Calls Try.prog 47 #[.int .i64 m, .slice A n c, .slice A2 n2 c2] w fun e w' => e = .returned (.int .i64 v) ∧ Below w.heap.size w w' := by
  rw [← hv.out]; exact ratingsCode_any m A n c B xs A2 n2 c2 B2 ys w hx hB hn hy hB2 hn2
set_option maxHeartbeats 8000000 in
theorem correctFinishes_any (m : Int) (A : Option Addr) (n c B : Nat) (xs : Nat → Int) (A2 : Option Addr) (n2 c2 B2 : Nat) (ys : Nat → Int) (w : World) (hx : Ints w B A (n * 3) xs) (hB : B ≤ w.heap.size) (hn : n ≤ 9223372036854775807) (hy : Ints w B2 A2 (n2 * 2) ys) (hB2 : B2 ≤ w.heap.size) (hn2 : n2 ≤ 9223372036854775807) :
    Calls Try.prog 17 #[.int .i64 m, .slice A n c, .slice A2 n2 c2] w fun e w' => Gave 50 3 (cfK m n xs n2 ys) w w' e (cfL m n xs n2 ys) (codF m n xs n2 ys) := by
  replace hx := Lib.hid hx
  replace hy := Lib.hid hy
  by_cases h0 : codF m n xs n2 ys = 0
  · have hL : cfL m n xs n2 ys = cfTo xs ys n := by unfold cfL; rw [if_pos h0]
    have hK : cfK m n xs n2 ys = n := by unfold cfK; rw [if_pos h0]
    rw [hL, hK, h0]
    obtain ⟨rfl, hn16, hfin, hrat⟩ := codF_0 h0
    replace h0 := Lib.hid h0
    replace hfin := Lib.hid hfin
    replace hrat := Lib.hid hrat
    clear hL hK
    obtain ⟨i0, hi, hz0', hz1', hz2'⟩ := info_parts infoFinish
    replace hi := Lib.hid hi
    replace hz0' := Lib.hid hz0'
    replace hz1' := Lib.hid hz1'
    replace hz2' := Lib.hid hz2'
    go_enter Try.func17, Try.ntmps17
    go_wp2_with fail
    refine (ratingsCode_val _ _ _ _ _ _ _ _ _ _ _ _ 0 h0 hx.out hB hn hy.out hB2 hn2).mono ?_
    rintro e w' ⟨rfl, hb⟩
    have hz := hb.size
    go_wp2
    have hown0 : (w'.alloc (.cells #[] 50)).ownsRow w.heap.size 50 3 (.slice (some ⟨w'.heap.size, 0, none⟩) 0 0) 0 ((cfTo xs ys 0).map (Value.int .i64)) := own_empty (Whole.new w' 50 #[]) hz
    have hA0 := hb.alloc hz (.cells #[] 50)
    go_loopw [9, 22] (fun vo vi wr => ∃ k : Nat, k ≤ n2 ∧ vi = .int .i64 k ∧ wr.ownsRow w.heap.size 50 3 vo k ((cfTo xs ys k).map (Value.int .i64)) ∧ Below w.heap.size w wr) (fun vo vi _ => (n2 - intOf vi).toNat)
    case atStart => exact ⟨0, by omega, rfl, hown0, hA0⟩
    case round =>
      obtain ⟨k, hk1, rfl, hown, hbel⟩ := hrel
      clear hown0 hA0
      have hsz := hbel.size
      by_cases h1 : k < n2
      · obtain ⟨b, o, rfl, hadB, hcode⟩ := hx.out (by omega)
        obtain ⟨b2, o2, rfl, hadB2, hcode2⟩ := hy.out (by omega)
        have g0 : wr.cell? ⟨b, o + k * 3, none⟩ = some (.int .i64 (xs (k * 3))) := by rw [hbel.cell (by simp; omega)]; exact hcode (k * 3) (by omega)
        have g1 : wr.cell? ⟨b, o + k * 3 + 1, none⟩ = some (.int .i64 (xs (k * 3 + 1))) := by rw [hbel.cell (by simp; omega)]; exact hcode (k * 3 + 1) (by omega)
        have g2 : wr.cell? ⟨b, o + k * 3 + 2, none⟩ = some (.int .i64 (xs (k * 3 + 2))) := by rw [hbel.cell (by simp; omega)]; exact hcode (k * 3 + 2) (by omega)
        have e1 : wr.cell? ⟨b2, o2 + k * 2 + 1, none⟩ = some (.int .i64 (ys (k * 2 + 1))) := by rw [hbel.cell (by simp; omega)]; exact hcode2 (k * 2 + 1) (by omega)
        have hb2l : b2 < wr.heap.size := by omega
        clear hcode hcode2
        have hf := finB_t (hfin.out k h1)
        have hr := hrat.out k h1
        obtain ⟨A', c', rfl, hnc, hcm⟩ := own_form hown
        have hstp : cfTo xs ys (k + 1) = cfTo xs ys k ++ [xs (k * 3), xs (k * 3 + 1), corF xs ys k] := rfl
        generalize cfTo xs ys k = L at hown hstp
        cases hc0 : (xs (k * 3 + 1) == 0) with
        | true =>
          have hc : corF xs ys k = corV (xs (k * 3 + 2)) (ys (k * 2 + 1)) := by unfold corF; rw [if_pos (by simpa using hc0)]
          have hf2 := hf.2.2.2.2 (by simpa using hc0)
          rw [hc] at hstp
          replace hstp := Lib.hid hstp
          have hcall := fun W => corrected_any (xs (k * 3 + 2)) (ys (k * 2 + 1)) W hf2.1 hf2.2 hr.1 hr.2
          generalize corV (xs (k * 3 + 2)) (ys (k * 2 + 1)) = tt at hcall hstp
          clear hc hf hf2 hr
          replace hcall := Lib.hid hcall
          go_upto_region 9 with fail
          go_cut [] from 23 to 43 (fun wx => Whole wx wr.heap.size 50 #[.int .i64 (xs (k * 3)), .int .i64 (xs (k * 3 + 1)), .int .i64 tt] ∧ wx.ownsRow w.heap.size 50 3 (.slice A' k c') k (L.map (Value.int .i64)) ∧ Below w.heap.size w wx ∧ wr.heap.size < wx.heap.size)
          case first =>
            go_region_with (go_at_call 48; refine (hcall.out _).mono ?_; rintro e w2 ⟨rfl, rfl⟩)
            all_goals (go_wp2_with fail; go_meet)
            all_goals
              first
                | exact ⟨Whole.new wr 50 _, hown.alloc _, (hbel.alloc hsz _).drew, by simp⟩
                | exact ⟨Whole.new wr 50 _, hown.alloc _, below_dN (hbel.alloc hsz _) _, by simp⟩
                | exact ⟨Whole.new wr 50 _, hown.alloc _, hbel.alloc hsz _, by simp⟩
          case rest =>
          obtain ⟨hW, hownx, hbx, hlx⟩ := hcut
          have y0 := hW.cell 0
          have y1 := hW.cell 1
          have y2 := hW.cell 2
          simp at y0 y1 y2
          have hzx := hbx.size
          clear hown
          have hown := hownx
          go_wp2_with (at_builtin; refine wpList_append_own _ rfl _ _ 31 rfl w.heap.size 50 i0 _ 3 24 Try.underlying31 hi.out hz0'.out hz1'.out hz2'.out rfl (by decide) _ _ _ rfl (hown.alloc _) ⟨wc.heap.size, 0, none⟩ 1 1 [.int .i64 (xs (k * 3)), .int .i64 (xs (k * 3 + 1)), .int .i64 tt] rfl rfl ?c1 ?c2 ?c3 ?c4 ?c5 ?_)
          case c1 =>
            intro j u hu
            rw [add_zero_off]
            have hN := Whole.new wc 50 #[.int .i64 (xs (k * 3)), .int .i64 (xs (k * 3 + 1)), .int .i64 tt]
            rw [hN.cell j]
            simpa using hu
          case c2 => simp [Value.oneCell']
          case c3 => simp only [maxLen]; omega
          case c4 => omega
          case c5 => simp; omega
          intro v' w3 hown3 hgrow _
          have hb3 : Below w.heap.size w w3 := (hbx.alloc hzx _).trans (below_only hgrow (by simp; omega) (fun k hk => (hown.lt k hk).1))
          have hown4 : w3.ownsRow w.heap.size 50 3 v' (k + 1) ((cfTo xs ys (k + 1)).map (Value.int .i64)) := by
            rw [hstp.out]; simpa using hown3
          go_wp2
          go_roundw
          case rel => exact ⟨k + 1, by omega, by go_num, hown4, hb3⟩
          case measure => simp [intOf]; omega
        | false =>
          have hc : corF xs ys k = xs (k * 3 + 2) := by unfold corF; rw [if_neg (by simpa using hc0)]
          rw [hc] at hstp
          replace hstp := Lib.hid hstp
          clear hc hf hr
          go_wp2_with (at_builtin; refine wpList_append_own _ rfl _ _ 31 rfl w.heap.size 50 i0 _ 3 24 Try.underlying31 hi.out hz0'.out hz1'.out hz2'.out rfl (by decide) _ _ _ rfl ((hown.alloc _).alloc _) ⟨wr.heap.size + 1, 0, none⟩ 1 1 [.int .i64 (xs (k * 3)), .int .i64 (xs (k * 3 + 1)), .int .i64 (xs (k * 3 + 2))] rfl rfl ?c1 ?c2 ?c3 ?c4 ?c5 ?_)
          case c1 =>
            intro j u hu
            rw [add_zero_off]
            have hN := Whole.new (wr.alloc (.cells #[.int .i64 (xs (k * 3)), .int .i64 (xs (k * 3 + 1)), .int .i64 (xs (k * 3 + 2))] 50)) 50 #[.int .i64 (xs (k * 3)), .int .i64 (xs (k * 3 + 1)), .int .i64 (xs (k * 3 + 2))]
            simp only [World.size_alloc] at hN
            rw [hN.cell j]
            simpa using hu
          case c2 => simp [Value.oneCell']
          case c3 => simp only [maxLen]; omega
          case c4 => omega
          case c5 => simp; omega
          intro v' w3 hown3 hgrow _
          have hb3 : Below w.heap.size w w3 := ((hbel.alloc hsz _).alloc (by simp; omega) _).trans (below_only hgrow (by simp; omega) (fun k hk => (hown.lt k hk).1))
          have hown4 : w3.ownsRow w.heap.size 50 3 v' (k + 1) ((cfTo xs ys (k + 1)).map (Value.int .i64)) := by
            rw [hstp.out]; simpa using hown3
          go_wp2
          go_roundw
          case rel => exact ⟨k + 1, by omega, by go_num, hown4, hb3⟩
          case measure => simp [intOf]; omega
      · obtain rfl : k = n2 := by omega
        obtain ⟨A', c', rfl, hnc, hcm⟩ := own_form hown
        go_wp2
        go_ret2
        exact ⟨A', c', rfl, by omega, hown, hbel⟩
  · have hL : cfL m n xs n2 ys = [] := by unfold cfL; rw [if_neg h0]
    have hK : cfK m n xs n2 ys = 0 := by unfold cfK; rw [if_neg h0]
    rw [hL, hK]
    generalize hc : codF m n xs n2 ys = co at h0 ⊢
    have hne : (co != 0) = true := by simpa using h0
    replace hc := Lib.hid hc
    clear hL hK h0
    go_enter Try.func17, Try.ntmps17
    go_wp2_with fail
    refine (ratingsCode_val _ _ _ _ _ _ _ _ _ _ _ _ co hc hx.out hB hn hy.out hB2 hn2).mono ?_
    rintro e w' ⟨rfl, hb⟩
    go_wp2
    go_ret2
    exact gave_nil hb

theorem l22Code_val (m : Int) (A : Option Addr) (n c B : Nat) (xs : Nat → Int) (A2 : Option Addr) (n2 c2 B2 : Nat) (ys : Nat → Int) (w : World) (v : Int) (hv : Hid (codF m n xs n2 ys = v)) (hx : Ints w B A (n * 3) xs) (hB : B ≤ w.heap.size) (hn : n ≤ 9223372036854775807) (hy : Ints w B2 A2 (n2 * 2) ys) (hB2 : B2 ≤ w.heap.size) (hn2 : n2 ≤ 9223372036854775807) :
    Calls Try.prog 44 #[.int .i64 m, .slice A n c, .slice A2 n2 c2] w fun e w' => e = .returned (.int .i64 v) ∧ Below w.heap.size w w' := by
  rw [← hv.out]; exact l22Code_any m A n c B xs A2 n2 c2 B2 ys w hx hB hn hy hB2 hn2
set_option maxHeartbeats 8000000 in
theorem sCorrectFinishes_any (m : Int) (A : Option Addr) (n c B : Nat) (xs : Nat → Int) (A2 : Option Addr) (n2 c2 B2 : Nat) (ys : Nat → Int) (w : World) (hx : Ints w B A (n * 3) xs) (hB : B ≤ w.heap.size) (hn : n ≤ 9223372036854775807) (hy : Ints w B2 A2 (n2 * 2) ys) (hB2 : B2 ≤ w.heap.size) (hn2 : n2 ≤ 9223372036854775807) :
    Calls Try.prog 15 #[.int .i64 m, .slice A n c, .slice A2 n2 c2] w fun e w' => Gave 50 3 (cfK m n xs n2 ys) w w' e (cfL m n xs n2 ys) (codF m n xs n2 ys) := by
  replace hx := Lib.hid hx
  replace hy := Lib.hid hy
  by_cases h0 : codF m n xs n2 ys = 0
  · have hL : cfL m n xs n2 ys = cfTo xs ys n := by unfold cfL; rw [if_pos h0]
    have hK : cfK m n xs n2 ys = n := by unfold cfK; rw [if_pos h0]
    rw [hL, hK, h0]
    obtain ⟨rfl, hn16, hfin, hrat⟩ := codF_0 h0
    replace h0 := Lib.hid h0
    replace hfin := Lib.hid hfin
    replace hrat := Lib.hid hrat
    clear hL hK
    obtain ⟨i0, hi, hz0', hz1', hz2'⟩ := info_parts infoFinish
    replace hi := Lib.hid hi
    replace hz0' := Lib.hid hz0'
    replace hz1' := Lib.hid hz1'
    replace hz2' := Lib.hid hz2'
    go_enter Try.func15, Try.ntmps15
    go_wp2_with fail
    refine (l22Code_val _ _ _ _ _ _ _ _ _ _ _ _ 0 h0 hx.out hB hn hy.out hB2 hn2).mono ?_
    rintro e w' ⟨rfl, hb⟩
    have hz := hb.size
    go_wp2
    have hown0 : (w'.alloc (.cells #[] 50)).ownsRow w.heap.size 50 3 (.slice (some ⟨w'.heap.size, 0, none⟩) 0 0) 0 ((cfTo xs ys 0).map (Value.int .i64)) := own_empty (Whole.new w' 50 #[]) hz
    have hA0 := hb.alloc hz (.cells #[] 50)
    go_loopw [9, 10] (fun vo vi wr => ∃ k : Nat, k ≤ n2 ∧ vi = .int .i64 k ∧ wr.ownsRow w.heap.size 50 3 vo k ((cfTo xs ys k).map (Value.int .i64)) ∧ Below w.heap.size w wr) (fun vo vi _ => (n2 - intOf vi).toNat)
    case atStart => exact ⟨0, by omega, rfl, hown0, hA0⟩
    case round =>
      obtain ⟨k, hk1, rfl, hown, hbel⟩ := hrel
      clear hown0 hA0
      have hsz := hbel.size
      by_cases h1 : k < n2
      · obtain ⟨b, o, rfl, hadB, hcode⟩ := hx.out (by omega)
        obtain ⟨b2, o2, rfl, hadB2, hcode2⟩ := hy.out (by omega)
        have g0 : wr.cell? ⟨b, o + k * 3, none⟩ = some (.int .i64 (xs (k * 3))) := by rw [hbel.cell (by simp; omega)]; exact hcode (k * 3) (by omega)
        have g1 : wr.cell? ⟨b, o + k * 3 + 1, none⟩ = some (.int .i64 (xs (k * 3 + 1))) := by rw [hbel.cell (by simp; omega)]; exact hcode (k * 3 + 1) (by omega)
        have g2 : wr.cell? ⟨b, o + k * 3 + 2, none⟩ = some (.int .i64 (xs (k * 3 + 2))) := by rw [hbel.cell (by simp; omega)]; exact hcode (k * 3 + 2) (by omega)
        have e1 : wr.cell? ⟨b2, o2 + k * 2 + 1, none⟩ = some (.int .i64 (ys (k * 2 + 1))) := by rw [hbel.cell (by simp; omega)]; exact hcode2 (k * 2 + 1) (by omega)
        have hb2l : b2 < wr.heap.size := by omega
        clear hcode hcode2
        have hf := finB_t (hfin.out k h1)
        have hr := hrat.out k h1
        obtain ⟨A', c', rfl, hnc, hcm⟩ := own_form hown
        have hstp : cfTo xs ys (k + 1) = cfTo xs ys k ++ [xs (k * 3), xs (k * 3 + 1), corF xs ys k] := rfl
        generalize cfTo xs ys k = L at hown hstp
        cases hc0 : (xs (k * 3 + 1) == 0) with
        | true =>
          have hc : corF xs ys k = corV (xs (k * 3 + 2)) (ys (k * 2 + 1)) := by unfold corF; rw [if_pos (by simpa using hc0)]
          have hf2 := hf.2.2.2.2 (by simpa using hc0)
          rw [hc] at hstp
          replace hstp := Lib.hid hstp
          have hcall := fun W => l22corrected_any (xs (k * 3 + 2)) (ys (k * 2 + 1)) W hf2.1 hf2.2 hr.1 hr.2
          generalize corV (xs (k * 3 + 2)) (ys (k * 2 + 1)) = tt at hcall hstp
          clear hc hf hf2 hr
          replace hcall := Lib.hid hcall
          go_upto_region 10 with fail
          go_cut [] from 20 to 45 (fun wx => Whole wx wr.heap.size 50 #[.int .i64 (xs (k * 3)), .int .i64 (xs (k * 3 + 1)), .int .i64 tt] ∧ wx.ownsRow w.heap.size 50 3 (.slice A' k c') k (L.map (Value.int .i64)) ∧ Below w.heap.size w wx ∧ wr.heap.size < wx.heap.size)
          case first =>
            go_region_with (go_at_call 45; refine (hcall.out _).mono ?_; rintro e w2 ⟨rfl, rfl⟩)
            all_goals (go_wp2_with fail; go_meet)
            all_goals
              first
                | exact ⟨Whole.new wr 50 _, hown.alloc _, (hbel.alloc hsz _).drew, by simp⟩
                | exact ⟨Whole.new wr 50 _, hown.alloc _, below_dN (hbel.alloc hsz _) _, by simp⟩
                | exact ⟨Whole.new wr 50 _, hown.alloc _, hbel.alloc hsz _, by simp⟩
          case rest =>
          obtain ⟨hW, hownx, hbx, hlx⟩ := hcut
          have y0 := hW.cell 0
          have y1 := hW.cell 1
          have y2 := hW.cell 2
          simp at y0 y1 y2
          have hzx := hbx.size
          clear hown
          have hown := hownx
          go_wp2_with (at_builtin; refine wpList_append_own _ rfl _ _ 31 rfl w.heap.size 50 i0 _ 3 24 Try.underlying31 hi.out hz0'.out hz1'.out hz2'.out rfl (by decide) _ _ _ rfl (hown.alloc _) ⟨wc.heap.size, 0, none⟩ 1 1 [.int .i64 (xs (k * 3)), .int .i64 (xs (k * 3 + 1)), .int .i64 tt] rfl rfl ?c1 ?c2 ?c3 ?c4 ?c5 ?_)
          case c1 =>
            intro j u hu
            rw [add_zero_off]
            have hN := Whole.new wc 50 #[.int .i64 (xs (k * 3)), .int .i64 (xs (k * 3 + 1)), .int .i64 tt]
            rw [hN.cell j]
            simpa using hu
          case c2 => simp [Value.oneCell']
          case c3 => simp only [maxLen]; omega
          case c4 => omega
          case c5 => simp; omega
          intro v' w3 hown3 hgrow _
          have hb3 : Below w.heap.size w w3 := (hbx.alloc hzx _).trans (below_only hgrow (by simp; omega) (fun k hk => (hown.lt k hk).1))
          have hown4 : w3.ownsRow w.heap.size 50 3 v' (k + 1) ((cfTo xs ys (k + 1)).map (Value.int .i64)) := by
            rw [hstp.out]; simpa using hown3
          go_wp2
          go_roundw
          case rel => exact ⟨k + 1, by omega, by go_num, hown4, hb3⟩
          case measure => simp [intOf]; omega
        | false =>
          have hc : corF xs ys k = xs (k * 3 + 2) := by unfold corF; rw [if_neg (by simpa using hc0)]
          rw [hc] at hstp
          replace hstp := Lib.hid hstp
          clear hc hf hr
          go_wp2_with (at_builtin; refine wpList_append_own _ rfl _ _ 31 rfl w.heap.size 50 i0 _ 3 24 Try.underlying31 hi.out hz0'.out hz1'.out hz2'.out rfl (by decide) _ _ _ rfl ((hown.alloc _).alloc _) ⟨wr.heap.size + 1, 0, none⟩ 1 1 [.int .i64 (xs (k * 3)), .int .i64 (xs (k * 3 + 1)), .int .i64 (xs (k * 3 + 2))] rfl rfl ?c1 ?c2 ?c3 ?c4 ?c5 ?_)
          case c1 =>
            intro j u hu
            rw [add_zero_off]
            have hN := Whole.new (wr.alloc (.cells #[.int .i64 (xs (k * 3)), .int .i64 (xs (k * 3 + 1)), .int .i64 (xs (k * 3 + 2))] 50)) 50 #[.int .i64 (xs (k * 3)), .int .i64 (xs (k * 3 + 1)), .int .i64 (xs (k * 3 + 2))]
            simp only [World.size_alloc] at hN
            rw [hN.cell j]
            simpa using hu
          case c2 => simp [Value.oneCell']
          case c3 => simp only [maxLen]; omega
          case c4 => omega
          case c5 => simp; omega
          intro v' w3 hown3 hgrow _
          have hb3 : Below w.heap.size w w3 := ((hbel.alloc hsz _).alloc (by simp; omega) _).trans (below_only hgrow (by simp; omega) (fun k hk => (hown.lt k hk).1))
          have hown4 : w3.ownsRow w.heap.size 50 3 v' (k + 1) ((cfTo xs ys (k + 1)).map (Value.int .i64)) := by
            rw [hstp.out]; simpa using hown3
          go_wp2
          go_roundw
          case rel => exact ⟨k + 1, by omega, by go_num, hown4, hb3⟩
          case measure => simp [intOf]; omega
      · obtain rfl : k = n2 := by omega
        obtain ⟨A', c', rfl, hnc, hcm⟩ := own_form hown
        go_wp2
        go_ret2
        exact ⟨A', c', rfl, by omega, hown, hbel⟩
  · have hL : cfL m n xs n2 ys = [] := by unfold cfL; rw [if_neg h0]
    have hK : cfK m n xs n2 ys = 0 := by unfold cfK; rw [if_neg h0]
    rw [hL, hK]
    generalize hc : codF m n xs n2 ys = co at h0 ⊢
    have hne : (co != 0) = true := by simpa using h0
    replace hc := Lib.hid hc
    clear hL hK h0
    go_enter Try.func15, Try.ntmps15
    go_wp2_with fail
    refine (l22Code_val _ _ _ _ _ _ _ _ _ _ _ _ co hc hx.out hB hn hy.out hB2 hn2).mono ?_
    rintro e w' ⟨rfl, hb⟩
    go_wp2
    go_ret2
    exact gave_nil hb

theorem correctFinishes_val (m : Int) (A : Option Addr) (n c B : Nat) (xs : Nat → Int) (A2 : Option Addr) (n2 c2 B2 : Nat) (ys : Nat → Int) (w : World) (K : Nat) (L : List Int) (co : Int) (hL : Hid (cfL m n xs n2 ys = L)) (hc : Hid (codF m n xs n2 ys = co)) (hK : Hid (cfK m n xs n2 ys = K)) (hx : Ints w B A (n * 3) xs) (hB : B ≤ w.heap.size) (hn : n ≤ 9223372036854775807) (hy : Ints w B2 A2 (n2 * 2) ys) (hB2 : B2 ≤ w.heap.size) (hn2 : n2 ≤ 9223372036854775807) :
    Calls Try.prog 17 #[.int .i64 m, .slice A n c, .slice A2 n2 c2] w fun e w' => Gave 50 3 K w w' e L co := by
  rw [← hL.out, ← hc.out, ← hK.out]
  exact correctFinishes_any m A n c B xs A2 n2 c2 B2 ys w hx hB hn hy hB2 hn2

theorem sCorrectFinishes_val (m : Int) (A : Option Addr) (n c B : Nat) (xs : Nat → Int) (A2 : Option Addr) (n2 c2 B2 : Nat) (ys : Nat → Int) (w : World) (K : Nat) (L : List Int) (co : Int) (hL : Hid (cfL m n xs n2 ys = L)) (hc : Hid (codF m n xs n2 ys = co)) (hK : Hid (cfK m n xs n2 ys = K)) (hx : Ints w B A (n * 3) xs) (hB : B ≤ w.heap.size) (hn : n ≤ 9223372036854775807) (hy : Ints w B2 A2 (n2 * 2) ys) (hB2 : B2 ≤ w.heap.size) (hn2 : n2 ≤ 9223372036854775807) :
    Calls Try.prog 15 #[.int .i64 m, .slice A n c, .slice A2 n2 c2] w fun e w' => Gave 50 3 K w w' e L co := by
  rw [← hL.out, ← hc.out, ← hK.out]
  exact sCorrectFinishes_any m A n c B xs A2 n2 c2 B2 ys w hx hB hn hy hB2 hn2

end Go.Proofs.Ytbmclcajgplpnaa
