/- CourseDistance: the program's and the reference's. -/
import Derived.Test.YtfllbhgngolfnaaDoorLeg
set_option linter.unusedSimpArgs false
set_option linter.unusedVariables false
namespace Go.Proofs.YtfllbhgngolfnaaDoor
open Go.RowKit

def sumF (ys : Nat → Int) : Nat → Int
  | 0 => 0
  | k + 1 => sumF ys k + ys k
theorem sumF_bd {ys : Nat → Int} : ∀ k, k ≤ 9 → (∀ j, j < k → 0 ≤ ys j ∧ ys j ≤ 3000000) → 0 ≤ sumF ys k ∧ sumF ys k ≤ 3000000 * k
  | 0, _, _ => ⟨Int.le_refl _, Int.le_refl _⟩
  | k + 1, hk, h => by
    have h1 := sumF_bd k (by omega) (fun j hj => h j (by omega))
    have h2 := h k (by omega)
    unfold sumF
    omega
theorem lgL_get (xs : Nat → Int) : ∀ n j, j < n → (lgL xs n).getD j 0 = legF xs j
  | 0, j, h => by omega
  | n + 1, j, h => by
    have hl := lgL_len xs n
    unfold lgL
    by_cases e : j = n
    · subst e
      rw [List.getD_eq_getElem?_getD, List.getElem?_append_right (by omega), hl, Nat.sub_self]; rfl
    · rw [List.getD_eq_getElem?_getD, List.getElem?_append_left (by omega), ← List.getD_eq_getElem?_getD]
      exact lgL_get xs n j (by omega)
/-- The sum of a course's legs. -/
def sumV (a b c d e f g h : Int) (n : Nat) (M : Nat → MkV) : Int := sumF (fun j => (lgL (stF a b c d e f g h n M) (n + 1)).getD j 0) (n + 1)
/-- What CourseDistance returns. -/
def cdR (a b c d e f g h : Int) (n : Nat) (M : Nat → MkV) : Int := if crsB a b c d e f g h n M = true then (if 10000000 < sumV a b c d e f g h n M then 0 else sumV a b c d e f g h n M) else 0
def cdC (a b c d e f g h : Int) (n : Nat) (M : Nat → MkV) : Int := if crsB a b c d e f g h n M = true then (if 10000000 < sumV a b c d e f g h n M then 3 else if sumV a b c d e f g h n M = 0 then 5 else 0) else 1
theorem leg_bd {a b c d e f g h : Int} {n : Nat} {M : Nat → MkV} (hc : crsB a b c d e f g h n M = true) {j : Nat} (hj : j < n + 1) : 0 ≤ (lgL (stF a b c d e f g h n M) (n + 1)).getD j 0 ∧ (lgL (stF a b c d e f g h n M) (n + 1)).getD j 0 ≤ 3000000 := by
  rw [lgL_get _ _ _ hj]
  obtain ⟨s0, s1, _⟩ := sqD_bd (sta_pt hc (j := j) (by omega)) (sta_pt hc (j := j + 1) (by omega))
  have := rtN_le (n := (sqD (stF a b c d e f g h n M (j * 2)) (stF a b c d e f g h n M (j * 2 + 1)) (stF a b c d e f g h n M ((j + 1) * 2)) (stF a b c d e f g h n M ((j + 1) * 2 + 1))).toNat) (by omega)
  unfold legF
  omega

set_option maxRecDepth 100000 in
set_option maxHeartbeats 8000000 in
theorem courseDistance_any (a b c d e f g h : Int) (A : Option Addr) (n cp B : Nat) (M : Nat → MkV) (w : World) (hx : Mks w B A n M) (hB : B ≤ w.heap.size) (hn : n ≤ 1048576) (hcp : n ≤ cp) :
    Calls Tryd.prog 7 #[.agg #[.int .i64 a, .int .i64 b, .int .i64 c, .int .i64 d, .int .i64 e, .int .i64 f, .int .i64 g, .int .i64 h, .slice A n cp]] w fun e' w' => e' = .returned (.tuple #[.int .i64 (cdR a b c d e f g h n M), .int .i64 (cdC a b c d e f g h n M)]) ∧ Below w.heap.size w w' := by
  have hb0 := (Below.refl w.heap.size w).alloc (Nat.le_refl _) (.cells #[.int .i64 a, .int .i64 b, .int .i64 c, .int .i64 d, .int .i64 e, .int .i64 f, .int .i64 g, .int .i64 h, .slice A n cp] 37)
  have hxn := hx.below (hb0.mono hB)
  have hleg := legLengths_any a b c d e f g h A n cp B M _ hxn (by simp; omega) hn hcp
  replace hb0 := Lib.hid hb0
  obtain ⟨v, hv⟩ : ∃ v, crsB a b c d e f g h n M = v := ⟨_, rfl⟩
  cases v with
  | false =>
    have hL : legL a b c d e f g h n M = [] := by unfold legL; rw [hv]; rfl
    have hK : legK a b c d e f g h n M = 0 := by unfold legK; rw [hv]; rfl
    have hC : legC a b c d e f g h n M = 1 := by unfold legC; rw [hv]; rfl
    have hR : cdR a b c d e f g h n M = 0 := by unfold cdR; rw [hv]; rfl
    have hD : cdC a b c d e f g h n M = 1 := by unfold cdC; rw [hv]; rfl
    rw [hL, hK, hC] at hleg
    rw [hR, hD]
    replace hleg := Lib.hid hleg
    clear hL hK hC hv hx hxn hR hD
    go_enter Tryd.func7, Tryd.ntmps7
    go_wp2_with fail
    refine hleg.out.mono ?_
    rintro e1 w1 ⟨A1, c1, rfl, hm, hown, hb1⟩
    clear hown
    go_wp2
    go_ret2
    exact ⟨rfl, hb0.out.trans (hb1.mono (by simp))⟩
  | true =>
    have hL : legL a b c d e f g h n M = lgL (stF a b c d e f g h n M) (n + 1) := by unfold legL; rw [hv]; rfl
    have hK : legK a b c d e f g h n M = n + 1 := by unfold legK; rw [hv]; rfl
    have hC : legC a b c d e f g h n M = 0 := by unfold legC; rw [hv]; rfl
    rw [hL, hK, hC] at hleg
    have hbd := fun j hj => leg_bd hv (j := j) hj
    obtain ⟨n1, n8⟩ : 1 ≤ n ∧ n ≤ 8 := by have := crsB_t hv; omega
    have hR : cdR a b c d e f g h n M = if 10000000 < sumV a b c d e f g h n M then 0 else sumV a b c d e f g h n M := by unfold cdR; rw [hv]; rfl
    have hD : cdC a b c d e f g h n M = if 10000000 < sumV a b c d e f g h n M then 3 else if sumV a b c d e f g h n M = 0 then 5 else 0 := by unfold cdC; rw [hv]; rfl
    rw [hR, hD]
    obtain ⟨R, hR2⟩ : ∃ R : Int, (if 10000000 < sumV a b c d e f g h n M then 0 else sumV a b c d e f g h n M) = R := ⟨_, rfl⟩
    obtain ⟨D, hD2⟩ : ∃ D : Int, (if 10000000 < sumV a b c d e f g h n M then 3 else if sumV a b c d e f g h n M = 0 then 5 else 0) = D := ⟨_, rfl⟩
    rw [hR2, hD2]
    clear hR hD
    have hS : sumV a b c d e f g h n M = sumF (fun j => (lgL (stF a b c d e f g h n M) (n + 1)).getD j 0) (n + 1) := rfl
    generalize sumV a b c d e f g h n M = S at *
    generalize lgL (stF a b c d e f g h n M) (n + 1) = L at *
    obtain ⟨ys, hys⟩ : ∃ ys : Nat → Int, (fun j => L.getD j 0) = ys := ⟨_, rfl⟩
    have hbd : ∀ j, j < n + 1 → 0 ≤ ys j ∧ ys j ≤ 3000000 := fun j hj => by rw [← hys]; exact hbd j hj
    rw [hys] at hS
    replace hleg := Lib.hid hleg
    replace hbd := Lib.hid hbd
    replace hS := Lib.hid hS
    replace hys := Lib.hid hys
    replace hR2 := Lib.hid hR2
    replace hD2 := Lib.hid hD2
    clear hL hK hC hv hx hxn
    go_enter Tryd.func7, Tryd.ntmps7
    go_wp2_with fail
    refine hleg.out.mono ?_
    rintro e1 w1 ⟨A1, c1, rfl, hm, hown, hb1⟩
    obtain ⟨g1, hg1, hg2, hRow⟩ := Row.of_own hown (N := n + 1) (by omega)
    rw [hys.out] at hRow
    obtain ⟨o1, rfl, hl1, hcode, _⟩ := hRow.open_ (by omega)
    have hB1 := hb0.out.trans (hb1.mono (by simp))
    replace hcode := Lib.hid hcode
    replace hB1 := Lib.hid hB1
    clear hown hRow hb1 hg2
    go_wp2_with fail
    go_loopw [6, 8, 19] (fun v6 v8 vi wr => ∃ k : Nat, k ≤ n + 1 ∧ vi = .int .i64 k ∧ v6 = .int .i64 (sumF ys k) ∧ w1 = wr) (fun v6 v8 vi _ => (n + 1 - intOf vi).toNat)
    case atStart => exact ⟨0, by omega, rfl, rfl, rfl⟩
    case round =>
      obtain ⟨k, hk, rfl, rfl, rfl⟩ := hrel
      by_cases hlt : k < n + 1
      · have g0 : w1.cell? ⟨g1, o1 + k, none⟩ = some (.int .i64 (ys k)) := hcode.out k hlt
        have b1 := sumF_bd k (by omega) (fun j hj => hbd.out j (by omega))
        have b2 := hbd.out k hlt
        have hstp : sumF ys (k + 1) = sumF ys k + ys k := rfl
        generalize ys k = y at *
        generalize sumF ys k = s at *
        have hwr : IntKind.i64.wrap (s + y) = s + y := by rw [IntKind.wrap_i64]; omega
        replace hstp := Lib.hid hstp
        go_wp2
        go_roundw
        case rel => exact ⟨k + 1, by omega, by go_num, by rw [hstp.out], trivial⟩
        case measure => simp [intOf]; omega
      · obtain rfl : k = n + 1 := by omega
        rw [← hS.out]
        by_cases h1 : 10000000 < S
        · obtain rfl : R = 0 := by rw [← hR2.out, if_pos h1]
          obtain rfl : D = 3 := by rw [← hD2.out, if_pos h1]
          clear hR2 hD2
          go_wp2
          go_ret2
          exact ⟨rfl, hB1.out⟩
        · obtain rfl : R = S := by rw [← hR2.out, if_neg h1]
          by_cases h2 : R = 0
          · obtain rfl : D = 5 := by rw [← hD2.out, if_neg h1, if_pos h2]
            subst h2
            clear hR2 hD2
            go_wp2
            go_ret2
            exact ⟨rfl, hB1.out⟩
          · obtain rfl : D = 0 := by rw [← hD2.out, if_neg h1, if_neg h2]
            clear hR2 hD2
            go_wp2
            go_ret2
            exact ⟨rfl, hB1.out⟩
set_option maxRecDepth 100000 in
set_option maxHeartbeats 8000000 in
theorem sCourseDistance_any (a b c d e f g h : Int) (A : Option Addr) (n cp B : Nat) (M : Nat → MkV) (w : World) (hx : Mks w B A n M) (hB : B ≤ w.heap.size) (hn : n ≤ 1048576) (hcp : n ≤ cp) :
    Calls Tryd.prog 5 #[.agg #[.int .i64 a, .int .i64 b, .int .i64 c, .int .i64 d, .int .i64 e, .int .i64 f, .int .i64 g, .int .i64 h, .slice A n cp]] w fun e' w' => e' = .returned (.tuple #[.int .i64 (cdR a b c d e f g h n M), .int .i64 (cdC a b c d e f g h n M)]) ∧ Below w.heap.size w w' := by
  have hb0 := (Below.refl w.heap.size w).alloc (Nat.le_refl _) (.cells #[.int .i64 a, .int .i64 b, .int .i64 c, .int .i64 d, .int .i64 e, .int .i64 f, .int .i64 g, .int .i64 h, .slice A n cp] 37)
  have hxn := hx.below (hb0.mono hB)
  have hleg := sLegLengths_any a b c d e f g h A n cp B M _ hxn (by simp; omega) hn hcp
  replace hb0 := Lib.hid hb0
  obtain ⟨v, hv⟩ : ∃ v, crsB a b c d e f g h n M = v := ⟨_, rfl⟩
  cases v with
  | false =>
    have hL : legL a b c d e f g h n M = [] := by unfold legL; rw [hv]; rfl
    have hK : legK a b c d e f g h n M = 0 := by unfold legK; rw [hv]; rfl
    have hC : legC a b c d e f g h n M = 1 := by unfold legC; rw [hv]; rfl
    have hR : cdR a b c d e f g h n M = 0 := by unfold cdR; rw [hv]; rfl
    have hD : cdC a b c d e f g h n M = 1 := by unfold cdC; rw [hv]; rfl
    rw [hL, hK, hC] at hleg
    rw [hR, hD]
    replace hleg := Lib.hid hleg
    clear hL hK hC hv hx hxn hR hD
    go_enter Tryd.func5, Tryd.ntmps5
    go_wp2_with fail
    refine hleg.out.mono ?_
    rintro e1 w1 ⟨A1, c1, rfl, hm, hown, hb1⟩
    clear hown
    go_wp2
    go_ret2
    exact ⟨rfl, hb0.out.trans (hb1.mono (by simp))⟩
  | true =>
    have hL : legL a b c d e f g h n M = lgL (stF a b c d e f g h n M) (n + 1) := by unfold legL; rw [hv]; rfl
    have hK : legK a b c d e f g h n M = n + 1 := by unfold legK; rw [hv]; rfl
    have hC : legC a b c d e f g h n M = 0 := by unfold legC; rw [hv]; rfl
    rw [hL, hK, hC] at hleg
    have hbd := fun j hj => leg_bd hv (j := j) hj
    obtain ⟨n1, n8⟩ : 1 ≤ n ∧ n ≤ 8 := by have := crsB_t hv; omega
    have hR : cdR a b c d e f g h n M = if 10000000 < sumV a b c d e f g h n M then 0 else sumV a b c d e f g h n M := by unfold cdR; rw [hv]; rfl
    have hD : cdC a b c d e f g h n M = if 10000000 < sumV a b c d e f g h n M then 3 else if sumV a b c d e f g h n M = 0 then 5 else 0 := by unfold cdC; rw [hv]; rfl
    rw [hR, hD]
    obtain ⟨R, hR2⟩ : ∃ R : Int, (if 10000000 < sumV a b c d e f g h n M then 0 else sumV a b c d e f g h n M) = R := ⟨_, rfl⟩
    obtain ⟨D, hD2⟩ : ∃ D : Int, (if 10000000 < sumV a b c d e f g h n M then 3 else if sumV a b c d e f g h n M = 0 then 5 else 0) = D := ⟨_, rfl⟩
    rw [hR2, hD2]
    clear hR hD
    have hS : sumV a b c d e f g h n M = sumF (fun j => (lgL (stF a b c d e f g h n M) (n + 1)).getD j 0) (n + 1) := rfl
    generalize sumV a b c d e f g h n M = S at *
    generalize lgL (stF a b c d e f g h n M) (n + 1) = L at *
    obtain ⟨ys, hys⟩ : ∃ ys : Nat → Int, (fun j => L.getD j 0) = ys := ⟨_, rfl⟩
    have hbd : ∀ j, j < n + 1 → 0 ≤ ys j ∧ ys j ≤ 3000000 := fun j hj => by rw [← hys]; exact hbd j hj
    rw [hys] at hS
    replace hleg := Lib.hid hleg
    replace hbd := Lib.hid hbd
    replace hS := Lib.hid hS
    replace hys := Lib.hid hys
    replace hR2 := Lib.hid hR2
    replace hD2 := Lib.hid hD2
    clear hL hK hC hv hx hxn
    go_enter Tryd.func5, Tryd.ntmps5
    go_wp2_with fail
    refine hleg.out.mono ?_
    rintro e1 w1 ⟨A1, c1, rfl, hm, hown, hb1⟩
    obtain ⟨g1, hg1, hg2, hRow⟩ := Row.of_own hown (N := n + 1) (by omega)
    rw [hys.out] at hRow
    obtain ⟨o1, rfl, hl1, hcode, _⟩ := hRow.open_ (by omega)
    have hB1 := hb0.out.trans (hb1.mono (by simp))
    replace hcode := Lib.hid hcode
    replace hB1 := Lib.hid hB1
    clear hown hRow hb1 hg2
    go_wp2_with fail
    go_loopw [6, 7] (fun v6 vi wr => ∃ k : Nat, k ≤ n + 1 ∧ vi = .int .i64 k ∧ v6 = .int .i64 (sumF ys k) ∧ w1 = wr) (fun v6 vi _ => (n + 1 - intOf vi).toNat)
    case atStart => exact ⟨0, by omega, rfl, rfl, rfl⟩
    case round =>
      obtain ⟨k, hk, rfl, rfl, rfl⟩ := hrel
      by_cases hlt : k < n + 1
      · have g0 : w1.cell? ⟨g1, o1 + k, none⟩ = some (.int .i64 (ys k)) := hcode.out k hlt
        have b1 := sumF_bd k (by omega) (fun j hj => hbd.out j (by omega))
        have b2 := hbd.out k hlt
        have hstp : sumF ys (k + 1) = sumF ys k + ys k := rfl
        generalize ys k = y at *
        generalize sumF ys k = s at *
        have hwr : IntKind.i64.wrap (s + y) = s + y := by rw [IntKind.wrap_i64]; omega
        replace hstp := Lib.hid hstp
        go_wp2
        go_roundw
        case rel => exact ⟨k + 1, by omega, by go_num, by rw [hstp.out], trivial⟩
        case measure => simp [intOf]; omega
      · obtain rfl : k = n + 1 := by omega
        rw [← hS.out]
        by_cases h1 : 10000000 < S
        · obtain rfl : R = 0 := by rw [← hR2.out, if_pos h1]
          obtain rfl : D = 3 := by rw [← hD2.out, if_pos h1]
          clear hR2 hD2
          go_wp2
          go_ret2
          exact ⟨rfl, hB1.out⟩
        · obtain rfl : R = S := by rw [← hR2.out, if_neg h1]
          by_cases h2 : R = 0
          · obtain rfl : D = 5 := by rw [← hD2.out, if_neg h1, if_pos h2]
            subst h2
            clear hR2 hD2
            go_wp2
            go_ret2
            exact ⟨rfl, hB1.out⟩
          · obtain rfl : D = 0 := by rw [← hD2.out, if_neg h1, if_neg h2]
            clear hR2 hD2
            go_wp2
            go_ret2
            exact ⟨rfl, hB1.out⟩
end Go.Proofs.YtfllbhgngolfnaaDoor
