/- CorrectByDistance: the program's and the reference's. -/
import Derived.Test.YtbmclcajgplpnaaFin2
set_option linter.unusedSimpArgs false
set_option linter.unusedVariables false
namespace Go.Proofs.Ytbmclcajgplpnaa
open Go.RowKit

def alwB (ys : Nat → Int) (k : Nat) : Bool := inB (ys k) 0 1000000
def cdF (xs ys : Nat → Int) (d : Int) (k : Nat) : Int := if xs (k * 3 + 1) = 0 then dcV (xs (k * 3 + 2)) (ys k) d else xs (k * 3 + 2)
def cdTo (xs ys : Nat → Int) (d : Int) : Nat → List Int
  | 0 => []
  | k + 1 => cdTo xs ys d k ++ [xs (k * 3), xs (k * 3 + 1), cdF xs ys d k]
def cdC (m : Int) (n : Nat) (xs : Nat → Int) (n2 : Nat) (ys : Nat → Int) (d : Int) : Int :=
  if racB m n xs = true then (if (((n2 : Int) == m) && inB d 1 10000000) = true then (if (List.range n).all (alwB ys) = true then 0 else 2) else 2) else 1
def cdL (m : Int) (n : Nat) (xs : Nat → Int) (n2 : Nat) (ys : Nat → Int) (d : Int) : List Int := if cdC m n xs n2 ys d = 0 then cdTo xs ys d n else []
def cdK (m : Int) (n : Nat) (xs : Nat → Int) (n2 : Nat) (ys : Nat → Int) (d : Int) : Nat := if cdC m n xs n2 ys d = 0 then n else 0
theorem alw_all {n : Nat} {ys : Nat → Int} (h : ∀ i, i < n → alwB ys i = true) : (List.range n).all (alwB ys) = true := by
  rw [List.all_eq_true]; intro i hi; exact h i (List.mem_range.1 hi)
theorem alw_no {n : Nat} {ys : Nat → Int} {i : Nat} (hi : i < n) (h : alwB ys i = false) : (List.range n).all (alwB ys) = false := by
  rw [List.all_eq_false]; exact ⟨i, List.mem_range.2 hi, by rw [h]; simp⟩

set_option maxRecDepth 100000 in
set_option maxHeartbeats 8000000 in
theorem correctByDistance_any (m : Int) (A : Option Addr) (n c B : Nat) (xs : Nat → Int) (A2 : Option Addr) (n2 c2 B2 : Nat) (ys : Nat → Int) (d : Int) (w : World) (hx : Ints w B A (n * 3) xs) (hB : B ≤ w.heap.size) (hn : n ≤ 9223372036854775807) (hy : Ints w B2 A2 n2 ys) (hB2 : B2 ≤ w.heap.size) (hn2 : n2 ≤ 9223372036854775807) :
    Calls Try.prog 24 #[.int .i64 m, .slice A n c, .slice A2 n2 c2, .int .i64 d] w fun e w' => Gave 50 3 (cdK m n xs n2 ys d) w w' e (cdL m n xs n2 ys d) (cdC m n xs n2 ys d) := by
  replace hx := Lib.hid hx
  replace hy := Lib.hid hy
  generalize hC : cdC m n xs n2 ys d = co
  have hL : cdL m n xs n2 ys d = if co = 0 then cdTo xs ys d n else [] := by rw [← hC]; rfl
  have hK : cdK m n xs n2 ys d = if co = 0 then n else 0 := by rw [← hC]; rfl
  generalize cdL m n xs n2 ys d = L0 at hL ⊢
  generalize cdK m n xs n2 ys d = K0 at hK ⊢
  unfold cdC at hC
  cases h1 : racB m n xs with
  | false =>
    rw [h1, if_neg (by simp)] at hC
    subst hC
    rw [if_neg (by omega)] at hL hK
    subst hL
    subst hK
    go_enter Try.func24, Try.ntmps24
    go_wp2_with fail
    refine (areFinishes_any _ _ _ _ _ _ _ hx.out hB hn).mono ?_
    rintro e w' ⟨rfl, hb⟩
    have hz := hb.size
    rw [h1]
    go_wp2
    go_ret2
    exact gave_nil hb
  | true =>
  rw [h1, if_pos rfl] at hC
  cases h2 : ((n2 : Int) != m) with
  | true =>
    have e2 : ((n2 : Int) == m) = false := by simpa using h2
    rw [e2, Bool.false_and, if_neg (by simp)] at hC
    subst hC
    rw [if_neg (by omega)] at hL hK
    subst hL
    subst hK
    go_enter Try.func24, Try.ntmps24
    go_wp2_with fail
    refine (areFinishes_any _ _ _ _ _ _ _ hx.out hB hn).mono ?_
    rintro e w' ⟨rfl, hb⟩
    have hz := hb.size
    rw [h1]
    go_wp2_with (go_at_call 55; refine (isDistance_any _ _).mono ?_; rintro e w' ⟨rfl, rfl⟩)
    go_ret2
    exact gave_nil hb
  | false =>
  have e2 : ((n2 : Int) == m) = true := by simpa using h2
  cases h3 : inB d 1 10000000 with
  | false =>
    rw [e2, h3, if_neg (by simp)] at hC
    subst hC
    rw [if_neg (by omega)] at hL hK
    subst hL
    subst hK
    go_enter Try.func24, Try.ntmps24
    go_wp2_with fail
    refine (areFinishes_any _ _ _ _ _ _ _ hx.out hB hn).mono ?_
    rintro e w' ⟨rfl, hb⟩
    have hz := hb.size
    rw [h1]
    go_wp2_with (go_at_call 55; refine (isDistance_any _ _).mono ?_; rintro e w' ⟨rfl, rfl⟩)
    go_ret2
    exact gave_nil hb
  | true =>
  rw [e2, h3, if_pos (by simp)] at hC
  have hd := inB_t h3
  have hrc := racB_t h1
  obtain ⟨hm1, hm16, hnm, hfin⟩ := hrc
  have hmm : (n2 : Int) = m := by simpa using e2
  obtain rfl : n2 = n := by omega
  replace hC := Lib.hid hC
  replace hL := Lib.hid hL
  replace hK := Lib.hid hK
  replace hfin := Lib.hid hfin
  clear e2
  obtain ⟨i0, hi, hz0', hz1', hz2'⟩ := info_parts infoFinish
  replace hi := Lib.hid hi
  replace hz0' := Lib.hid hz0'
  replace hz1' := Lib.hid hz1'
  replace hz2' := Lib.hid hz2'
  go_enter Try.func24, Try.ntmps24
  go_wp2_with fail
  refine (areFinishes_any _ _ _ _ _ _ _ hx.out hB hn).mono ?_
  rintro e w' ⟨rfl, hb⟩
  have hz := hb.size
  rw [h1]
  go_wp2_with (go_at_call 55; refine (isDistance_any _ _).mono ?_; rintro e w' ⟨rfl, rfl⟩)
  have hown0 : (w'.alloc (.cells #[] 50)).ownsRow w.heap.size 50 3 (.slice (some ⟨w'.heap.size, 0, none⟩) 0 0) 0 ((cdTo xs ys d 0).map (Value.int .i64)) := own_empty (Whole.new w' 50 #[]) hz
  have hA0 := hb.alloc hz (.cells #[] 50)
  go_loopw [10, 29] (fun vo vi wr => ∃ k : Nat, k ≤ n2 ∧ vi = .int .i64 k ∧ Hid (∀ i, i < k → alwB ys i = true) ∧ wr.ownsRow w.heap.size 50 3 vo k ((cdTo xs ys d k).map (Value.int .i64)) ∧ Below w.heap.size w wr) (fun vo vi _ => (n2 - intOf vi).toNat)
  case atStart => exact ⟨0, by omega, rfl, Lib.hid (fun i hi => by omega), hown0, hA0⟩
  case round =>
    obtain ⟨k, hk1, rfl, hok, hown, hbel⟩ := hrel
    clear hown0 hA0
    have hsz := hbel.size
    by_cases h4 : k < n2
    · obtain ⟨b, o, rfl, hadB, hcode⟩ := hx.out (by omega)
      obtain ⟨b2, o2, rfl, hadB2, hcode2⟩ := hy.out (by omega)
      have g0 : wr.cell? ⟨b, o + k * 3, none⟩ = some (.int .i64 (xs (k * 3))) := by rw [hbel.cell (by simp; omega)]; exact hcode (k * 3) (by omega)
      have g1 : wr.cell? ⟨b, o + k * 3 + 1, none⟩ = some (.int .i64 (xs (k * 3 + 1))) := by rw [hbel.cell (by simp; omega)]; exact hcode (k * 3 + 1) (by omega)
      have g2 : wr.cell? ⟨b, o + k * 3 + 2, none⟩ = some (.int .i64 (xs (k * 3 + 2))) := by rw [hbel.cell (by simp; omega)]; exact hcode (k * 3 + 2) (by omega)
      have e1 : wr.cell? ⟨b2, o2 + k, none⟩ = some (.int .i64 (ys k)) := by rw [hbel.cell (by simp; omega)]; exact hcode2 k (by omega)
      have hb2l : b2 < wr.heap.size := by omega
      have hbl : b < wr.heap.size := by omega
      clear hcode hcode2
      have hf := finB_t (hfin.out k h4)
      obtain ⟨A', c', rfl, hnc, hcm⟩ := own_form hown
      cases h5 : alwB ys k with
      | false =>
        have hr : co = 2 := by rw [← hC.out, alw_no h4 h5]; simp
        subst hr
        have hL2 := hL.out
        have hK2 := hK.out
        rw [if_neg (by omega)] at hL2 hK2
        subst hL2
        subst hK2
        unfold alwB at h5
        clear hf
        go_wp2_with (go_at_call 56; refine (isAllowance_any _ _).mono ?_; rintro e w' ⟨rfl, rfl⟩)
        go_ret2
        exact gave_nil (hbel.alloc hsz _)
      | true =>
        have hal := inB_t (show inB (ys k) 0 1000000 = true from h5)
        have h6 : inB (ys k) 0 1000000 = true := h5
        replace h5 := Lib.hid h5
        have hstp : cdTo xs ys d (k + 1) = cdTo xs ys d k ++ [xs (k * 3), xs (k * 3 + 1), cdF xs ys d k] := rfl
        generalize cdTo xs ys d k = L at hown hstp
        cases hc0 : (xs (k * 3 + 1) == 0) with
        | true =>
            have hc : cdF xs ys d k = dcV (xs (k * 3 + 2)) (ys k) d := by unfold cdF; rw [if_pos (by simpa using hc0)]
            have hf2 := hf.2.2.2.2 (by simpa using hc0)
            rw [hc] at hstp
            replace hstp := Lib.hid hstp
            have hcall := fun W => correctedBy_any (xs (k * 3 + 2)) (ys k) d W hf2.1 hf2.2 hal.1 hal.2 hd.1 hd.2
            generalize dcV (xs (k * 3 + 2)) (ys k) d = tt at hcall hstp
            clear hc hf hf2 hal
            replace hcall := Lib.hid hcall
            go_upto_region 12 with (go_at_call 56; refine (isAllowance_any _ _).mono ?_; rintro e w' ⟨rfl, rfl⟩)
            go_cut [] from 30 to 56 (fun wx => Whole wx wr.heap.size 50 #[.int .i64 (xs (k * 3)), .int .i64 (xs (k * 3 + 1)), .int .i64 tt] ∧ wx.ownsRow w.heap.size 50 3 (.slice A' k c') k (L.map (Value.int .i64)) ∧ Below w.heap.size w wx ∧ wr.heap.size < wx.heap.size)
            case first =>
              go_region_with (go_at_call 57; refine (hcall.out _).mono ?_; rintro e w2 ⟨rfl, rfl⟩)
              all_goals (go_wp2_with fail; go_meet)
              all_goals
                first
                  | exact ⟨Whole.new wr 50 _, hown.alloc _, (hbel.alloc hsz _).drew, by simp⟩
                  | exact ⟨Whole.new wr 50 _, hown.alloc _, below_dN (hbel.alloc hsz _) _, by simp⟩
                  | exact ⟨Whole.new wr 50 _, hown.alloc _, hbel.alloc hsz _, by simp⟩
            case rest =>
            obtain ⟨hW, hownx, hbx, hlx⟩ := hcut
            have y0 := hW.cell 0
            have y1 := hW.cell 1
            have y2 := hW.cell 2
            simp at y0 y1 y2
            have hzx := hbx.size
            clear hown
            have hown := hownx
            go_wp2_with (first | (go_at_call 56; refine (isAllowance_any _ _).mono ?_; rintro e w' ⟨rfl, rfl⟩) | (at_builtin; refine wpList_append_own _ rfl _ _ 31 rfl w.heap.size 50 i0 _ 3 24 Try.underlying31 hi.out hz0'.out hz1'.out hz2'.out rfl (by decide) _ _ _ rfl (hown.alloc _) ⟨wc.heap.size, 0, none⟩ 1 1 [.int .i64 (xs (k * 3)), .int .i64 (xs (k * 3 + 1)), .int .i64 tt] rfl rfl ?c1 ?c2 ?c3 ?c4 ?c5 ?_))
            case c1 =>
              intro j u hu
              rw [add_zero_off]
              have hN := Whole.new wc 50 #[.int .i64 (xs (k * 3)), .int .i64 (xs (k * 3 + 1)), .int .i64 tt]
              rw [hN.cell j]
              simpa using hu
            case c2 => simp [Value.oneCell']
            case c3 => simp only [maxLen]; omega
            case c4 => omega
            case c5 => simp; omega
            intro v' w3 hown3 hgrow _
            have hb3 : Below w.heap.size w w3 := (hbx.alloc hzx _).trans (below_only hgrow (by simp; omega) (fun k hk => (hown.lt k hk).1))
            have hown4 : w3.ownsRow w.heap.size 50 3 v' (k + 1) ((cdTo xs ys d (k + 1)).map (Value.int .i64)) := by
              rw [hstp.out]; simpa using hown3
            go_wp2
            go_roundw
            case rel =>
              refine ⟨k + 1, by omega, by go_num, Lib.hid (fun i hi => ?_), hown4, hb3⟩
              by_cases e : i = k
              · subst e; exact h5.out
              · exact hok.out i (by omega)
            case measure => simp [intOf]; omega
        | false =>
            have hc : cdF xs ys d k = xs (k * 3 + 2) := by unfold cdF; rw [if_neg (by simpa using hc0)]
            rw [hc] at hstp
            replace hstp := Lib.hid hstp
            clear hc hf hal
            go_wp2_with (first | (go_at_call 56; refine (isAllowance_any _ _).mono ?_; rintro e w' ⟨rfl, rfl⟩) | (at_builtin; refine wpList_append_own _ rfl _ _ 31 rfl w.heap.size 50 i0 _ 3 24 Try.underlying31 hi.out hz0'.out hz1'.out hz2'.out rfl (by decide) _ _ _ rfl ((hown.alloc _).alloc _) ⟨wr.heap.size + 1, 0, none⟩ 1 1 [.int .i64 (xs (k * 3)), .int .i64 (xs (k * 3 + 1)), .int .i64 (xs (k * 3 + 2))] rfl rfl ?c1 ?c2 ?c3 ?c4 ?c5 ?_))
            case c1 =>
              intro j u hu
              rw [add_zero_off]
              have hN := Whole.new (wr.alloc (.cells #[.int .i64 (xs (k * 3)), .int .i64 (xs (k * 3 + 1)), .int .i64 (xs (k * 3 + 2))] 50)) 50 #[.int .i64 (xs (k * 3)), .int .i64 (xs (k * 3 + 1)), .int .i64 (xs (k * 3 + 2))]
              simp only [World.size_alloc] at hN
              rw [hN.cell j]
              simpa using hu
            case c2 => simp [Value.oneCell']
            case c3 => simp only [maxLen]; omega
            case c4 => omega
            case c5 => simp; omega
            intro v' w3 hown3 hgrow _
            have hb3 : Below w.heap.size w w3 := ((hbel.alloc hsz _).alloc (by simp; omega) _).trans (below_only hgrow (by simp; omega) (fun k hk => (hown.lt k hk).1))
            have hown4 : w3.ownsRow w.heap.size 50 3 v' (k + 1) ((cdTo xs ys d (k + 1)).map (Value.int .i64)) := by
              rw [hstp.out]; simpa using hown3
            go_wp2
            go_roundw
            case rel =>
              refine ⟨k + 1, by omega, by go_num, Lib.hid (fun i hi => ?_), hown4, hb3⟩
              by_cases e : i = k
              · subst e; exact h5.out
              · exact hok.out i (by omega)
            case measure => simp [intOf]; omega
    · obtain rfl : k = n2 := by omega
      have hr : co = 0 := by rw [← hC.out, alw_all hok.out]; simp
      subst hr
      have hL2 := hL.out
      have hK2 := hK.out
      rw [if_pos rfl] at hL2 hK2
      subst hL2
      subst hK2
      obtain ⟨A', c', rfl, hnc, hcm⟩ := own_form hown
      go_wp2
      go_ret2
      exact ⟨A', c', rfl, by omega, hown, hbel⟩

theorem correctByDistance_val (m : Int) (A : Option Addr) (n c B : Nat) (xs : Nat → Int) (A2 : Option Addr) (n2 c2 B2 : Nat) (ys : Nat → Int) (d : Int) (w : World) (K : Nat) (L : List Int) (co : Int) (hL : Hid (cdL m n xs n2 ys d = L)) (hc : Hid (cdC m n xs n2 ys d = co)) (hK : Hid (cdK m n xs n2 ys d = K)) (hx : Ints w B A (n * 3) xs) (hB : B ≤ w.heap.size) (hn : n ≤ 9223372036854775807) (hy : Ints w B2 A2 n2 ys) (hB2 : B2 ≤ w.heap.size) (hn2 : n2 ≤ 9223372036854775807) :
    Calls Try.prog 24 #[.int .i64 m, .slice A n c, .slice A2 n2 c2, .int .i64 d] w fun e w' => Gave 50 3 K w w' e L co := by
  rw [← hL.out, ← hc.out, ← hK.out]
  exact correctByDistance_any m A n c B xs A2 n2 c2 B2 ys d w hx hB hn hy hB2 hn2

set_option maxRecDepth 100000 in
set_option maxHeartbeats 8000000 in
theorem sCorrectByDistance_any (m : Int) (A : Option Addr) (n c B : Nat) (xs : Nat → Int) (A2 : Option Addr) (n2 c2 B2 : Nat) (ys : Nat → Int) (d : Int) (w : World) (hx : Ints w B A (n * 3) xs) (hB : B ≤ w.heap.size) (hn : n ≤ 9223372036854775807) (hy : Ints w B2 A2 n2 ys) (hB2 : B2 ≤ w.heap.size) (hn2 : n2 ≤ 9223372036854775807) :
    Calls Try.prog 22 #[.int .i64 m, .slice A n c, .slice A2 n2 c2, .int .i64 d] w fun e w' => Gave 50 3 (cdK m n xs n2 ys d) w w' e (cdL m n xs n2 ys d) (cdC m n xs n2 ys d) := by
  replace hx := Lib.hid hx
  replace hy := Lib.hid hy
  generalize hC : cdC m n xs n2 ys d = co
  have hL : cdL m n xs n2 ys d = if co = 0 then cdTo xs ys d n else [] := by rw [← hC]; rfl
  have hK : cdK m n xs n2 ys d = if co = 0 then n else 0 := by rw [← hC]; rfl
  generalize cdL m n xs n2 ys d = L0 at hL ⊢
  generalize cdK m n xs n2 ys d = K0 at hK ⊢
  unfold cdC at hC
  cases h1 : racB m n xs with
  | false =>
    rw [h1, if_neg (by simp)] at hC
    subst hC
    rw [if_neg (by omega)] at hL hK
    subst hL
    subst hK
    go_enter Try.func22, Try.ntmps22
    go_wp2_with fail
    refine (l22Race_any _ _ _ _ _ _ _ hx.out hB hn).mono ?_
    rintro e w' ⟨rfl, hb⟩
    have hz := hb.size
    rw [h1]
    go_wp2
    go_ret2
    exact gave_nil hb
  | true =>
  rw [h1, if_pos rfl] at hC
  cases h2 : ((n2 : Int) != m) with
  | true =>
    have e2 : ((n2 : Int) == m) = false := by simpa using h2
    rw [e2, Bool.false_and, if_neg (by simp)] at hC
    subst hC
    rw [if_neg (by omega)] at hL hK
    subst hL
    subst hK
    go_enter Try.func22, Try.ntmps22
    go_wp2_with fail
    refine (l22Race_any _ _ _ _ _ _ _ hx.out hB hn).mono ?_
    rintro e w' ⟨rfl, hb⟩
    have hz := hb.size
    rw [h1]
    go_wp2_with (go_at_call 51; refine (l23Distance_any _ _).mono ?_; rintro e w' ⟨rfl, rfl⟩)
    go_ret2
    exact gave_nil hb
  | false =>
  have e2 : ((n2 : Int) == m) = true := by simpa using h2
  cases h3 : inB d 1 10000000 with
  | false =>
    rw [e2, h3, if_neg (by simp)] at hC
    subst hC
    rw [if_neg (by omega)] at hL hK
    subst hL
    subst hK
    go_enter Try.func22, Try.ntmps22
    go_wp2_with fail
    refine (l22Race_any _ _ _ _ _ _ _ hx.out hB hn).mono ?_
    rintro e w' ⟨rfl, hb⟩
    have hz := hb.size
    rw [h1]
    go_wp2_with (go_at_call 51; refine (l23Distance_any _ _).mono ?_; rintro e w' ⟨rfl, rfl⟩)
    go_ret2
    exact gave_nil hb
  | true =>
  rw [e2, h3, if_pos (by simp)] at hC
  have hd := inB_t h3
  have hrc := racB_t h1
  obtain ⟨hm1, hm16, hnm, hfin⟩ := hrc
  have hmm : (n2 : Int) = m := by simpa using e2
  obtain rfl : n2 = n := by omega
  replace hC := Lib.hid hC
  replace hL := Lib.hid hL
  replace hK := Lib.hid hK
  replace hfin := Lib.hid hfin
  clear e2
  obtain ⟨i0, hi, hz0', hz1', hz2'⟩ := info_parts infoFinish
  replace hi := Lib.hid hi
  replace hz0' := Lib.hid hz0'
  replace hz1' := Lib.hid hz1'
  replace hz2' := Lib.hid hz2'
  go_enter Try.func22, Try.ntmps22
  go_wp2_with fail
  refine (l22Race_any _ _ _ _ _ _ _ hx.out hB hn).mono ?_
  rintro e w' ⟨rfl, hb⟩
  have hz := hb.size
  rw [h1]
  go_wp2_with (go_at_call 51; refine (l23Distance_any _ _).mono ?_; rintro e w' ⟨rfl, rfl⟩)
  have hown0 : (w'.alloc (.cells #[] 50)).ownsRow w.heap.size 50 3 (.slice (some ⟨w'.heap.size, 0, none⟩) 0 0) 0 ((cdTo xs ys d 0).map (Value.int .i64)) := own_empty (Whole.new w' 50 #[]) hz
  have hA0 := hb.alloc hz (.cells #[] 50)
  go_loopw [10, 11] (fun vo vi wr => ∃ k : Nat, k ≤ n2 ∧ vi = .int .i64 k ∧ Hid (∀ i, i < k → alwB ys i = true) ∧ wr.ownsRow w.heap.size 50 3 vo k ((cdTo xs ys d k).map (Value.int .i64)) ∧ Below w.heap.size w wr) (fun vo vi _ => (n2 - intOf vi).toNat)
  case atStart => exact ⟨0, by omega, rfl, Lib.hid (fun i hi => by omega), hown0, hA0⟩
  case round =>
    obtain ⟨k, hk1, rfl, hok, hown, hbel⟩ := hrel
    clear hown0 hA0
    have hsz := hbel.size
    by_cases h4 : k < n2
    · obtain ⟨b, o, rfl, hadB, hcode⟩ := hx.out (by omega)
      obtain ⟨b2, o2, rfl, hadB2, hcode2⟩ := hy.out (by omega)
      have g0 : wr.cell? ⟨b, o + k * 3, none⟩ = some (.int .i64 (xs (k * 3))) := by rw [hbel.cell (by simp; omega)]; exact hcode (k * 3) (by omega)
      have g1 : wr.cell? ⟨b, o + k * 3 + 1, none⟩ = some (.int .i64 (xs (k * 3 + 1))) := by rw [hbel.cell (by simp; omega)]; exact hcode (k * 3 + 1) (by omega)
      have g2 : wr.cell? ⟨b, o + k * 3 + 2, none⟩ = some (.int .i64 (xs (k * 3 + 2))) := by rw [hbel.cell (by simp; omega)]; exact hcode (k * 3 + 2) (by omega)
      have e1 : wr.cell? ⟨b2, o2 + k, none⟩ = some (.int .i64 (ys k)) := by rw [hbel.cell (by simp; omega)]; exact hcode2 k (by omega)
      have hb2l : b2 < wr.heap.size := by omega
      have hbl : b < wr.heap.size := by omega
      clear hcode hcode2
      have hf := finB_t (hfin.out k h4)
      obtain ⟨A', c', rfl, hnc, hcm⟩ := own_form hown
      cases h5 : alwB ys k with
      | false =>
        have hr : co = 2 := by rw [← hC.out, alw_no h4 h5]; simp
        subst hr
        have hL2 := hL.out
        have hK2 := hK.out
        rw [if_neg (by omega)] at hL2 hK2
        subst hL2
        subst hK2
        unfold alwB at h5
        clear hf
        go_wp2_with (go_at_call 52; refine (l23Allowance_any _ _).mono ?_; rintro e w' ⟨rfl, rfl⟩)
        go_ret2
        exact gave_nil hbel
      | true =>
        have hal := inB_t (show inB (ys k) 0 1000000 = true from h5)
        have h6 : inB (ys k) 0 1000000 = true := h5
        replace h5 := Lib.hid h5
        have hstp : cdTo xs ys d (k + 1) = cdTo xs ys d k ++ [xs (k * 3), xs (k * 3 + 1), cdF xs ys d k] := rfl
        generalize cdTo xs ys d k = L at hown hstp
        cases hc0 : (xs (k * 3 + 1) == 0) with
        | true =>
            have hc : cdF xs ys d k = dcV (xs (k * 3 + 2)) (ys k) d := by unfold cdF; rw [if_pos (by simpa using hc0)]
            have hf2 := hf.2.2.2.2 (by simpa using hc0)
            rw [hc] at hstp
            replace hstp := Lib.hid hstp
            have hcall := fun W => l23Corrected_any (xs (k * 3 + 2)) (ys k) d W hf2.1 hf2.2 hal.1 hal.2 hd.1 hd.2
            generalize dcV (xs (k * 3 + 2)) (ys k) d = tt at hcall hstp
            clear hc hf hf2 hal
            replace hcall := Lib.hid hcall
            go_upto_region 13 with (go_at_call 52; refine (l23Allowance_any _ _).mono ?_; rintro e w' ⟨rfl, rfl⟩)
            go_cut [] from 27 to 58 (fun wx => Whole wx wr.heap.size 50 #[.int .i64 (xs (k * 3)), .int .i64 (xs (k * 3 + 1)), .int .i64 tt] ∧ wx.ownsRow w.heap.size 50 3 (.slice A' k c') k (L.map (Value.int .i64)) ∧ Below w.heap.size w wx ∧ wr.heap.size < wx.heap.size)
            case first =>
              go_region_with (go_at_call 53; refine (hcall.out _).mono ?_; rintro e w2 ⟨rfl, rfl⟩)
              all_goals (go_wp2_with fail; go_meet)
              all_goals
                first
                  | exact ⟨Whole.new wr 50 _, hown.alloc _, (hbel.alloc hsz _).drew, by simp⟩
                  | exact ⟨Whole.new wr 50 _, hown.alloc _, below_dN (hbel.alloc hsz _) _, by simp⟩
                  | exact ⟨Whole.new wr 50 _, hown.alloc _, hbel.alloc hsz _, by simp⟩
            case rest =>
            obtain ⟨hW, hownx, hbx, hlx⟩ := hcut
            have y0 := hW.cell 0
            have y1 := hW.cell 1
            have y2 := hW.cell 2
            simp at y0 y1 y2
            have hzx := hbx.size
            clear hown
            have hown := hownx
            go_wp2_with (first | (go_at_call 52; refine (l23Allowance_any _ _).mono ?_; rintro e w' ⟨rfl, rfl⟩) | (at_builtin; refine wpList_append_own _ rfl _ _ 31 rfl w.heap.size 50 i0 _ 3 24 Try.underlying31 hi.out hz0'.out hz1'.out hz2'.out rfl (by decide) _ _ _ rfl (hown.alloc _) ⟨wc.heap.size, 0, none⟩ 1 1 [.int .i64 (xs (k * 3)), .int .i64 (xs (k * 3 + 1)), .int .i64 tt] rfl rfl ?c1 ?c2 ?c3 ?c4 ?c5 ?_))
            case c1 =>
              intro j u hu
              rw [add_zero_off]
              have hN := Whole.new wc 50 #[.int .i64 (xs (k * 3)), .int .i64 (xs (k * 3 + 1)), .int .i64 tt]
              rw [hN.cell j]
              simpa using hu
            case c2 => simp [Value.oneCell']
            case c3 => simp only [maxLen]; omega
            case c4 => omega
            case c5 => simp; omega
            intro v' w3 hown3 hgrow _
            have hb3 : Below w.heap.size w w3 := (hbx.alloc hzx _).trans (below_only hgrow (by simp; omega) (fun k hk => (hown.lt k hk).1))
            have hown4 : w3.ownsRow w.heap.size 50 3 v' (k + 1) ((cdTo xs ys d (k + 1)).map (Value.int .i64)) := by
              rw [hstp.out]; simpa using hown3
            go_wp2
            go_roundw
            case rel =>
              refine ⟨k + 1, by omega, by go_num, Lib.hid (fun i hi => ?_), hown4, hb3⟩
              by_cases e : i = k
              · subst e; exact h5.out
              · exact hok.out i (by omega)
            case measure => simp [intOf]; omega
        | false =>
            have hc : cdF xs ys d k = xs (k * 3 + 2) := by unfold cdF; rw [if_neg (by simpa using hc0)]
            rw [hc] at hstp
            replace hstp := Lib.hid hstp
            clear hc hf hal
            go_wp2_with (first | (go_at_call 52; refine (l23Allowance_any _ _).mono ?_; rintro e w' ⟨rfl, rfl⟩) | (at_builtin; refine wpList_append_own _ rfl _ _ 31 rfl w.heap.size 50 i0 _ 3 24 Try.underlying31 hi.out hz0'.out hz1'.out hz2'.out rfl (by decide) _ _ _ rfl ((hown.alloc _).alloc _) ⟨wr.heap.size + 1, 0, none⟩ 1 1 [.int .i64 (xs (k * 3)), .int .i64 (xs (k * 3 + 1)), .int .i64 (xs (k * 3 + 2))] rfl rfl ?c1 ?c2 ?c3 ?c4 ?c5 ?_))
            case c1 =>
              intro j u hu
              rw [add_zero_off]
              have hN := Whole.new (wr.alloc (.cells #[.int .i64 (xs (k * 3)), .int .i64 (xs (k * 3 + 1)), .int .i64 (xs (k * 3 + 2))] 50)) 50 #[.int .i64 (xs (k * 3)), .int .i64 (xs (k * 3 + 1)), .int .i64 (xs (k * 3 + 2))]
              simp only [World.size_alloc] at hN
              rw [hN.cell j]
              simpa using hu
            case c2 => simp [Value.oneCell']
            case c3 => simp only [maxLen]; omega
            case c4 => omega
            case c5 => simp; omega
            intro v' w3 hown3 hgrow _
            have hb3 : Below w.heap.size w w3 := ((hbel.alloc hsz _).alloc (by simp; omega) _).trans (below_only hgrow (by simp; omega) (fun k hk => (hown.lt k hk).1))
            have hown4 : w3.ownsRow w.heap.size 50 3 v' (k + 1) ((cdTo xs ys d (k + 1)).map (Value.int .i64)) := by
              rw [hstp.out]; simpa using hown3
            go_wp2
            go_roundw
            case rel =>
              refine ⟨k + 1, by omega, by go_num, Lib.hid (fun i hi => ?_), hown4, hb3⟩
              by_cases e : i = k
              · subst e; exact h5.out
              · exact hok.out i (by omega)
            case measure => simp [intOf]; omega
    · obtain rfl : k = n2 := by omega
      have hr : co = 0 := by rw [← hC.out, alw_all hok.out]; simp
      subst hr
      have hL2 := hL.out
      have hK2 := hK.out
      rw [if_pos rfl] at hL2 hK2
      subst hL2
      subst hK2
      obtain ⟨A', c', rfl, hnc, hcm⟩ := own_form hown
      go_wp2
      go_ret2
      exact ⟨A', c', rfl, by omega, hown, hbel⟩

theorem sCorrectByDistance_val (m : Int) (A : Option Addr) (n c B : Nat) (xs : Nat → Int) (A2 : Option Addr) (n2 c2 B2 : Nat) (ys : Nat → Int) (d : Int) (w : World) (K : Nat) (L : List Int) (co : Int) (hL : Hid (cdL m n xs n2 ys d = L)) (hc : Hid (cdC m n xs n2 ys d = co)) (hK : Hid (cdK m n xs n2 ys d = K)) (hx : Ints w B A (n * 3) xs) (hB : B ≤ w.heap.size) (hn : n ≤ 9223372036854775807) (hy : Ints w B2 A2 n2 ys) (hB2 : B2 ≤ w.heap.size) (hn2 : n2 ≤ 9223372036854775807) :
    Calls Try.prog 22 #[.int .i64 m, .slice A n c, .slice A2 n2 c2, .int .i64 d] w fun e w' => Gave 50 3 K w w' e L co := by
  rw [← hL.out, ← hc.out, ← hK.out]
  exact sCorrectByDistance_any m A n c B xs A2 n2 c2 B2 ys d w hx hB hn hy hB2 hn2

end Go.Proofs.Ytbmclcajgplpnaa
