/- LawfulKinds: the program's and the reference's. -/
import Derived.Test.YtfckoeoohlgmiaaSig10
import Derived.Test.YtfckoeoohlgmiaaMInt64
set_option linter.unusedSimpArgs false
set_option linter.unusedVariables false
namespace Go.Proofs.Ytfckoeoohlgmiaa
open Go.RowKit

/-- The kinds from 1 to m that are lawful at a time. -/
def kindsTo (S : Int × Int) (t : Int) : Nat → List Int
  | 0 => []
  | m + 1 => if (stepV S.1 S.2 ((m : Int) + 1) t).2 = true then kindsTo S t m ++ [(m : Int) + 1] else kindsTo S t m
theorem kindsTo_len (S : Int × Int) (t : Int) (m : Nat) : (kindsTo S t m).length ≤ m := by
  induction m with
  | zero => simp [kindsTo]
  | succ m ih => unfold kindsTo; split <;> (try simp) <;> omega
/-- What LawfulKinds gives. -/
def kindL (n : Nat) (xs : Nat → Int) (t : Int) : List Int := if forC n xs t = 0 then kindsTo (stA xs n) t 8 else []
theorem kindL_len (n : Nat) (xs : Nat → Int) (t : Int) : (kindL n xs t).length ≤ 8 := by
  unfold kindL; split
  · exact kindsTo_len _ _ _
  · simp

theorem own_base {w : World} {base b : Nat} {e : TypeId} {size : Nat} {v : Value} {n : Nat} {xs : List Value} (h : w.ownsRow base e size v n xs) (hb : b ≤ base) : w.ownsRow b e size v n xs :=
  ⟨h.1, h.2.imp id fun ⟨g, cap, cur, a, c, d⟩ => ⟨g, cap, cur, a, Nat.le_trans hb c, d⟩⟩

set_option maxHeartbeats 4000000 in
theorem lawfulKinds_any (A : Option Addr) (n c B : Nat) (xs : Nat → Int) (t : Int) (w : World) (hx : Ints w B A (n * 2) xs) (hB : B ≤ w.heap.size) (hn : n ≤ 9223372036854775807) :
    Calls Try.prog 20 #[.slice A n c, .int .i64 t] w fun e w' => Gave 2 1 (kindL n xs t).length w w' e (kindL n xs t) (forC n xs t) := by
  replace hx := Lib.hid hx
  by_cases h0 : forC n xs t = 0
  · obtain ⟨i1, i2, i3, i4⟩ := forC_0 h0
    obtain ⟨j1, j2⟩ := codeV_0 i1
    have hin := stA_in (isS_t j1).2 n (Nat.le_refl _)
    have hL : forS n xs t = stA xs n := by unfold forS; rw [if_pos h0]
    have hcv : kindL n xs t = kindsTo (stA xs n) t 8 := by unfold kindL; rw [if_pos h0]
    rw [hcv, h0]
    generalize stA xs n = S at hL hin
    obtain ⟨s1, s2⟩ := S
    dsimp only at hin
    clear hcv i1 i2 j1 j2
    replace h0 := Lib.hid h0
    replace hL := Lib.hid hL
    obtain ⟨i0, hi, hz0', hz1', hz2'⟩ := info_parts infoInt64
    replace hi := Lib.hid hi
    replace hz0' := Lib.hid hz0'
    replace hz1' := Lib.hid hz1'
    replace hz2' := Lib.hid hz2'
    go_enter Try.func20, Try.ntmps20
    go_wp2_with fail
    refine (stateFor_val _ _ _ _ _ _ _ 0 (s1, s2) h0.out hL.out hx.out hB hn).mono ?_
    rintro e w' ⟨rfl, hb⟩
    go_wp2_with fail
    have hz := hb.size
    have hA0 : Below w.heap.size w (w'.alloc (.cells #[.int .i64 s1, .int .i64 s2] 62)) := hb.alloc hb.size _
    have hA1 := hA0.alloc hA0.size (.cells #[] 2)
    have hown0 : ((w'.alloc (.cells #[.int .i64 s1, .int .i64 s2] 62)).alloc (.cells #[] 2)).ownsRow (w'.heap.size + 1) 2 1 (.slice (some ⟨w'.heap.size + 1, 0, none⟩) 0 0) (kindsTo (s1, s2) t 0).length ((kindsTo (s1, s2) t 0).map (Value.int .i64)) := by
      have hW := Whole.new (w'.alloc (.cells #[.int .i64 s1, .int .i64 s2] 62)) 2 #[]
      simp only [World.size_alloc] at hW
      exact own_empty hW (Nat.le_refl _)
    go_loopw [8, 9] (fun v8 v9 wr => ∃ m : Nat, m ≤ 8 ∧ v9 = .int .i64 ((m : Int) + 1) ∧ wr.ownsRow (w'.heap.size + 1) 2 1 v8 (kindsTo (s1, s2) t m).length ((kindsTo (s1, s2) t m).map (Value.int .i64)) ∧ wr.cell? ⟨w'.heap.size, 0, none⟩ = some (.int .i64 s1) ∧ wr.cell? ⟨w'.heap.size, 1, none⟩ = some (.int .i64 s2) ∧ w'.heap.size < wr.heap.size ∧ Below w.heap.size w wr) (fun v8 v9 _ => (9 - intOf v9).toNat)
    case atStart => exact ⟨0, by omega, by simp, hown0, by simp, by simp, by simp; omega, hA1⟩
    case round =>
      obtain ⟨m, hm, rfl, hown, x0, x1, hs0, hbel⟩ := hrel
      clear hown0 hA0 hA1
      have hlen := kindsTo_len (s1, s2) t m
      by_cases hm8 : m < 8
      · have hstp : kindsTo (s1, s2) t (m + 1) = if (stepV s1 s2 ((m : Int) + 1) t).2 = true then kindsTo (s1, s2) t m ++ [(m : Int) + 1] else kindsTo (s1, s2) t m := rfl
        generalize kindsTo (s1, s2) t m = L at hown hstp hlen
        obtain ⟨A', c', rfl, hnc, hcm⟩ := own_form hown
        have hcall := fun w0 => after_any s1 s2 ((m : Int) + 1) t w0 (by omega) (by omega) i3 i4 hin.1 hin.2
        generalize stepV s1 s2 ((m : Int) + 1) t = V at hstp hcall
        obtain ⟨⟨t1, t2⟩, vb⟩ := V
        replace hcall := Lib.hid hcall
        replace hstp := Lib.hid hstp
        cases vb with
        | false =>
          go_wp2_with fail
          refine (hcall.out _).mono ?_
          rintro e w2 ⟨rfl, hb2⟩
          have hz2 := hb2.size
          have hz0 : w'.heap.size < w2.heap.size := by omega
          have hb' : Below w.heap.size w w2 := hbel.trans (hb2.mono hbel.size)
          have hown2 := own_below hown hb2
          have y0 := (hb2.cell (p := ⟨w'.heap.size, 0, none⟩) hs0).trans x0
          have y1 := (hb2.cell (p := ⟨w'.heap.size, 1, none⟩) hs0).trans x1
          go_wp2
          go_roundw
          case rel =>
            refine ⟨m + 1, by omega, by go_num, ?_, (past hz0).trans y0, (past hz0).trans y1, by simp; omega, hb'.alloc hb'.size _⟩
            rw [show kindsTo (s1, s2) t (m + 1) = L by simpa using hstp.out]
            exact hown2.alloc _
          case measure => simp [intOf]; omega
        | true =>
          go_wp2_with fail
          refine (hcall.out _).mono ?_
          rintro e w2 ⟨rfl, hb2⟩
          have hz2 := hb2.size
          have hz0 : w'.heap.size < w2.heap.size := by omega
          have hb' : Below w.heap.size w w2 := hbel.trans (hb2.mono hbel.size)
          have hown2 := own_below hown hb2
          have y0 := (hb2.cell (p := ⟨w'.heap.size, 0, none⟩) hs0).trans x0
          have y1 := (hb2.cell (p := ⟨w'.heap.size, 1, none⟩) hs0).trans x1
          go_wp2_with (at_builtin; refine wpList_append_own _ rfl _ _ 32 rfl (w'.heap.size + 1) 2 i0 _ 1 8 Try.underlying32 hi.out hz0'.out hz1'.out hz2'.out rfl (by decide) _ _ _ rfl ((hown2.alloc _).alloc _) ⟨w2.heap.size + 1, 0, none⟩ 1 1 [.int .i64 ((m : Int) + 1)] rfl rfl ?c1 ?c2 ?c3 ?c4 ?c5 ?_)
          case c1 =>
            intro j u hu
            have hW := (Whole.new (w2.alloc (.cells #[.int .i64 t1, .int .i64 t2] 62)) 2 #[.int .i64 ((m : Int) + 1)]).cell j
            simp only [World.size_alloc] at hW
            rw [add_zero_off, hW]
            simpa using hu
          case c2 => simp [Value.oneCell']
          case c3 => simp only [maxLen]; omega
          case c4 => omega
          case c5 => simp; omega
          intro v' w3 hown3 hgrow _
          have hb3' := below_only hgrow (B := w.heap.size) (by simp; omega) (fun k hk => by have := (hown2.lt k hk).1; omega)
          have hb3 : Below w.heap.size w w3 := ((hb'.alloc hb'.size _).alloc (by simp; omega) _).trans hb3'
          have hown4 : w3.ownsRow (w'.heap.size + 1) 2 1 v' (kindsTo (s1, s2) t (m + 1)).length ((kindsTo (s1, s2) t (m + 1)).map (Value.int .i64)) := by
            rw [show kindsTo (s1, s2) t (m + 1) = L ++ [(m : Int) + 1] by simpa using hstp.out]; simpa using hown3
          have hne : ∀ i, w3.cell? ⟨w'.heap.size, i, none⟩ = w2.cell? ⟨w'.heap.size, i, none⟩ := fun i => by
            rw [World.cell?_of_block (hgrow.block w'.heap.size (by simp; omega) (fun e => by have := (hown2.lt _ e.symm).1; omega)), past (by simp; omega), past hz0]
          have hzz := hgrow.size
          simp at hzz
          go_wp2
          go_roundw
          case rel => exact ⟨m + 1, by omega, by go_num, hown4, (hne 0).trans y0, (hne 1).trans y1, by omega, hb3⟩
          case measure => simp [intOf]; omega
      · obtain rfl : m = 8 := by omega
        obtain ⟨A', c', rfl, hnc, hcm⟩ := own_form hown
        go_wp2
        go_ret2
        exact ⟨A', c', rfl, by omega, own_base hown (by omega), hbel⟩
  · have hr : kindL n xs t = [] := by unfold kindL; rw [if_neg h0]
    have hL : forS n xs t = (0, 0) := by unfold forS; rw [if_neg h0]
    rw [hr]
    generalize hc : forC n xs t = co at h0 ⊢
    have hne : (co != 0) = true := by simpa using h0
    replace hc := Lib.hid hc
    replace hL := Lib.hid hL
    clear hr h0
    go_enter Try.func20, Try.ntmps20
    go_wp2_with fail
    refine (stateFor_val _ _ _ _ _ _ _ co (0, 0) hc.out hL.out hx.out hB hn).mono ?_
    rintro e w' ⟨rfl, hb⟩
    go_wp2
    go_ret2
    exact gave_nil (hb.alloc hb.size _)

set_option maxHeartbeats 4000000 in
theorem sLawfulKinds_any (A : Option Addr) (n c B : Nat) (xs : Nat → Int) (t : Int) (w : World) (hx : Ints w B A (n * 2) xs) (hB : B ≤ w.heap.size) (hn : n ≤ 9223372036854775807) :
    Calls Try.prog 19 #[.slice A n c, .int .i64 t] w fun e w' => Gave 2 1 (kindL n xs t).length w w' e (kindL n xs t) (forC n xs t) := by
  replace hx := Lib.hid hx
  by_cases h0 : codeV n xs = 0
  · have hsm := same_end h0
    have hL : lawR n xs = stR xs n := by unfold lawR; rw [if_pos h0]
    obtain ⟨j1, j2⟩ := codeV_0 h0
    have hR := stR_in (isS_t j1).2 n (Nat.le_refl _)
    have hn40 := (isS_t j1).1
    cases hla : laterB n xs t with
    | false =>
      have hf : forC n xs t = 2 := by unfold forC; rw [if_pos h0, hla]; simp
      have hr : kindL n xs t = [] := by unfold kindL; rw [if_neg (by omega)]
      rw [hr, hf]
      generalize hS : stR xs n = S at hL hsm
      obtain ⟨s1, s2, s3⟩ := S
      replace h0 := Lib.hid h0
      replace hL := Lib.hid hL
      clear hr hR hsm hS j1 j2 hf
      go_enter Try.func19, Try.ntmps19
      go_wp2_with fail
      refine (l13Code_val _ _ _ _ _ _ 0 (s1, s2, s3) h0.out hL.out hx.out hB hn).mono ?_
      rintro e w' ⟨rfl, hb⟩
      go_wp2_with fail
      refine (l13Later_any _ _ _ _ _ _ _ (((hx.out.more hB).below hb).below ((Below.refl _ _).alloc hb.size _)) hn40).mono ?_
      rintro e w2 ⟨rfl, rfl⟩
      rw [hla]
      go_wp2
      go_ret2
      exact gave_nil (hb.alloc hb.size _)
    | true =>
      have hf : forC n xs t = 0 := by unfold forC; rw [if_pos h0, hla]; simp
      obtain ⟨-, -, i3, i4⟩ := forC_0 hf
      have hcv : kindL n xs t = kindsTo (stA xs n) t 8 := by unfold kindL; rw [if_pos hf]
      rw [hcv, hf]
      generalize hS : stR xs n = S at hL hsm hR
      obtain ⟨r1, r2, r3⟩ := S
      generalize stA xs n = T at hsm
      obtain ⟨s1, s2⟩ := T
      dsimp only at hR
      replace h0 := Lib.hid h0
      replace hL := Lib.hid hL
      clear hcv hS j1 j2 hf
      obtain ⟨i0, hi, hz0', hz1', hz2'⟩ := info_parts infoInt64
      replace hi := Lib.hid hi
      replace hz0' := Lib.hid hz0'
      replace hz1' := Lib.hid hz1'
      replace hz2' := Lib.hid hz2'
      go_enter Try.func19, Try.ntmps19
      go_wp2_with fail
      refine (l13Code_val _ _ _ _ _ _ 0 (r1, r2, r3) h0.out hL.out hx.out hB hn).mono ?_
      rintro e w' ⟨rfl, hb⟩
      go_wp2_with fail
      refine (l13Later_any _ _ _ _ _ _ _ (((hx.out.more hB).below hb).below ((Below.refl _ _).alloc hb.size _)) hn40).mono ?_
      rintro e w2 ⟨rfl, rfl⟩
      rw [hla]
      go_wp2_with fail
      have hz := hb.size
      have hA0 : Below w.heap.size w (w'.alloc (.cells #[.int .i64 r1, .int .i64 r2, .int .i64 r3] 56)) := hb.alloc hb.size _
      have hA1 := hA0.alloc hA0.size (.cells #[] 2)
      have hown0 : ((w'.alloc (.cells #[.int .i64 r1, .int .i64 r2, .int .i64 r3] 56)).alloc (.cells #[] 2)).ownsRow (w'.heap.size + 1) 2 1 (.slice (some ⟨w'.heap.size + 1, 0, none⟩) 0 0) (kindsTo (s1, s2) t 0).length ((kindsTo (s1, s2) t 0).map (Value.int .i64)) := by
        have hW := Whole.new (w'.alloc (.cells #[.int .i64 r1, .int .i64 r2, .int .i64 r3] 56)) 2 #[]
        simp only [World.size_alloc] at hW
        exact own_empty hW (Nat.le_refl _)
      go_loopw [8, 9] (fun v8 v9 wr => ∃ m : Nat, m ≤ 8 ∧ v9 = .int .i64 ((m : Int) + 1) ∧ wr.ownsRow (w'.heap.size + 1) 2 1 v8 (kindsTo (s1, s2) t m).length ((kindsTo (s1, s2) t m).map (Value.int .i64)) ∧ wr.cell? ⟨w'.heap.size, 0, none⟩ = some (.int .i64 r1) ∧ wr.cell? ⟨w'.heap.size, 1, none⟩ = some (.int .i64 r2) ∧ wr.cell? ⟨w'.heap.size, 2, none⟩ = some (.int .i64 r3) ∧ w'.heap.size < wr.heap.size ∧ Below w.heap.size w wr) (fun v8 v9 _ => (9 - intOf v9).toNat)
      case atStart => exact ⟨0, by omega, by simp, hown0, by simp, by simp, by simp, by simp; omega, hA1⟩
      case round =>
        obtain ⟨m, hm, rfl, hown, x0, x1, x2, hs0, hbel⟩ := hrel
        clear hown0 hA0 hA1
        have hlen := kindsTo_len (s1, s2) t m
        by_cases hm8 : m < 8
        · have hstp : kindsTo (s1, s2) t (m + 1) = if (stepV s1 s2 ((m : Int) + 1) t).2 = true then kindsTo (s1, s2) t m ++ [(m : Int) + 1] else kindsTo (s1, s2) t m := rfl
          generalize kindsTo (s1, s2) t m = L at hown hstp hlen
          obtain ⟨A', c', rfl, hnc, hcm⟩ := own_form hown
          have hcall := fun w0 => step_any r1 r2 r3 ((m : Int) + 1) t w0 (by omega) (by omega) i3 i4 hR.1 hR.2.1 hR.2.2.1 hR.2.2.2
          rw [← (same_step hsm (k := (m : Int) + 1) (t := t) (by omega) (by omega)).1] at hstp
          dsimp only at hstp
          generalize refV r1 r2 r3 ((m : Int) + 1) t = V at hstp hcall
          obtain ⟨⟨t1, t2, t3⟩, vb⟩ := V
          replace hcall := Lib.hid hcall
          replace hstp := Lib.hid hstp
          cases vb with
          | false =>
            go_wp2_with fail
            refine (hcall.out _).mono ?_
            rintro e w2 ⟨rfl, hb2⟩
            have hz2 := hb2.size
            have hz0 : w'.heap.size < w2.heap.size := by omega
            have hb' : Below w.heap.size w w2 := hbel.trans (hb2.mono hbel.size)
            have hown2 := own_below hown hb2
            have y0 := (hb2.cell (p := ⟨w'.heap.size, 0, none⟩) hs0).trans x0
            have y1 := (hb2.cell (p := ⟨w'.heap.size, 1, none⟩) hs0).trans x1
            have y2 := (hb2.cell (p := ⟨w'.heap.size, 2, none⟩) hs0).trans x2
            go_wp2
            go_roundw
            case rel =>
              refine ⟨m + 1, by omega, by go_num, ?_, (past hz0).trans y0, (past hz0).trans y1, (past hz0).trans y2, by simp; omega, hb'.alloc hb'.size _⟩
              rw [show kindsTo (s1, s2) t (m + 1) = L by simpa using hstp.out]
              exact hown2.alloc _
            case measure => simp [intOf]; omega
          | true =>
            go_wp2_with fail
            refine (hcall.out _).mono ?_
            rintro e w2 ⟨rfl, hb2⟩
            have hz2 := hb2.size
            have hz0 : w'.heap.size < w2.heap.size := by omega
            have hb' : Below w.heap.size w w2 := hbel.trans (hb2.mono hbel.size)
            have hown2 := own_below hown hb2
            have y0 := (hb2.cell (p := ⟨w'.heap.size, 0, none⟩) hs0).trans x0
            have y1 := (hb2.cell (p := ⟨w'.heap.size, 1, none⟩) hs0).trans x1
            have y2 := (hb2.cell (p := ⟨w'.heap.size, 2, none⟩) hs0).trans x2
            go_wp2_with (at_builtin; refine wpList_append_own _ rfl _ _ 32 rfl (w'.heap.size + 1) 2 i0 _ 1 8 Try.underlying32 hi.out hz0'.out hz1'.out hz2'.out rfl (by decide) _ _ _ rfl ((hown2.alloc _).alloc _) ⟨w2.heap.size + 1, 0, none⟩ 1 1 [.int .i64 ((m : Int) + 1)] rfl rfl ?c1 ?c2 ?c3 ?c4 ?c5 ?_)
            case c1 =>
              intro j u hu
              have hW := (Whole.new (w2.alloc (.cells #[.int .i64 t1, .int .i64 t2, .int .i64 t3] 56)) 2 #[.int .i64 ((m : Int) + 1)]).cell j
              simp only [World.size_alloc] at hW
              rw [add_zero_off, hW]
              simpa using hu
            case c2 => simp [Value.oneCell']
            case c3 => simp only [maxLen]; omega
            case c4 => omega
            case c5 => simp; omega
            intro v' w3 hown3 hgrow _
            have hb3' := below_only hgrow (B := w.heap.size) (by simp; omega) (fun k hk => by have := (hown2.lt k hk).1; omega)
            have hb3 : Below w.heap.size w w3 := ((hb'.alloc hb'.size _).alloc (by simp; omega) _).trans hb3'
            have hown4 : w3.ownsRow (w'.heap.size + 1) 2 1 v' (kindsTo (s1, s2) t (m + 1)).length ((kindsTo (s1, s2) t (m + 1)).map (Value.int .i64)) := by
              rw [show kindsTo (s1, s2) t (m + 1) = L ++ [(m : Int) + 1] by simpa using hstp.out]; simpa using hown3
            have hne : ∀ i, w3.cell? ⟨w'.heap.size, i, none⟩ = w2.cell? ⟨w'.heap.size, i, none⟩ := fun i => by
              rw [World.cell?_of_block (hgrow.block w'.heap.size (by simp; omega) (fun e => by have := (hown2.lt _ e.symm).1; omega)), past (by simp; omega), past hz0]
            have hzz := hgrow.size
            simp at hzz
            go_wp2
            go_roundw
            case rel => exact ⟨m + 1, by omega, by go_num, hown4, (hne 0).trans y0, (hne 1).trans y1, (hne 2).trans y2, by omega, hb3⟩
            case measure => simp [intOf]; omega
        · obtain rfl : m = 8 := by omega
          obtain ⟨A', c', rfl, hnc, hcm⟩ := own_form hown
          go_wp2
          go_ret2
          exact ⟨A', c', rfl, by omega, own_base hown (by omega), hbel⟩
  · have hf : forC n xs t = codeV n xs := by unfold forC; rw [if_neg h0]
    have hr : kindL n xs t = [] := by unfold kindL; rw [hf, if_neg h0]
    have hL : lawR n xs = (0, 0, 0) := by unfold lawR; rw [if_neg h0]
    rw [hr, hf]
    generalize hc : codeV n xs = co at h0 ⊢
    have hne : (co != 0) = true := by simpa using h0
    replace hc := Lib.hid hc
    replace hL := Lib.hid hL
    clear hr h0 hf
    go_enter Try.func19, Try.ntmps19
    go_wp2_with fail
    refine (l13Code_val _ _ _ _ _ _ co (0, 0, 0) hc.out hL.out hx.out hB hn).mono ?_
    rintro e w' ⟨rfl, hb⟩
    go_wp2
    go_ret2
    exact gave_nil (hb.alloc hb.size _)
end Go.Proofs.Ytfckoeoohlgmiaa
