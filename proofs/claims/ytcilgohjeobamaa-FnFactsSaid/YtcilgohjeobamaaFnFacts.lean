/- The law FnFacts: for every input the call returns true, and each argument reads afterwards as it read before. No condition. -/
import Derived.Test.YtcilgohjeobamaaTurn2
import Derived.Test.YtcilgohjeobamaaRows
import Derived.WalkKit
import Derived.ProofKit
import Derived.OpenShut
import Derived.ShutString
import Derived.ChangeOld
import Derived.Below
namespace Go.Proofs.Ytcilgohjeobamaa.fnFacts
open Go.ChangeShapes Go.WideShapes Go.ChangeAt Go.RowKit
open Go.ChangeMaps (open_string shut_string)
set_option linter.unusedVariables false

theorem own : ownKnob Try.prog.godebug = none := by kernel_rfl
theorem laidOut : laidOutB Try.prog = true := by kernel_rfl

/-- WHAT THE WALK IS TOLD OF A SLICE OF INTEGERS THAT CAME IN: it is nil; or it leads to a row of 'cap' cells, the numbers 'zs' (the first 'len' are its elements, the rest its spare room), each fitting its kind. -/
def IsRow (k : IntKind) (w : World) (a : Option Addr) (len cap : Nat) (zs : List Int) : Prop :=
  (a = none ∧ len = 0 ∧ cap = 0 ∧ zs = []) ∨
  ∃ x, a = some x ∧ len ≤ cap ∧ cap ≤ maxLen ∧ zs.length = cap ∧ (∀ i, i < zs.length → w.cell? (x.add i) = some (.int k (zs.getD i 0))) ∧ ∀ n ∈ zs, (Lit.int k n).wf = true

/-! ### STEP 1: THE WALK: the Go text returns true, AND WRITES NOTHING THAT WAS THERE: 'Below w.heap.size w w'' (Derived/Below.lean: '.refl', '.alloc', '.drew', '.setCell' at a new block, '.trans'). Open each 'IsRow' by 'rcases' AHEAD of 'go_enter'; part every test ahead of the walk. -/
set_option maxRecDepth 100000 in
set_option maxHeartbeats 8000000 in
theorem walk (a0 : Option Addr) (len0 cap0 : Nat) (z0 : List Int) (w : World) (w0 : IsRow .u8 w a0 len0 cap0 z0) :
    Calls Try.prog 6 #[.slice a0 len0 cap0] w fun e w' => e = .returned (.bool true) ∧ Below w.heap.size w w' := by
  obtain ⟨hc, hb⟩ := code_of w0
  by_cases hbig : 4096 < len0
  · go_enter Try.func6, Try.ntmps6
    go_wp2
    go_ret
    exact ⟨rfl, Below.refl _ _⟩
  obtain ⟨pb, pa, n, xs, hD⟩ := drawFindFacts_ex len0 _ (by omega) hb
  replace hD := Lib.hid hD
  replace hb := Lib.hid hb
  clear w0
  obtain ⟨L, hL⟩ : ∃ z, facL pb pa n xs = z := ⟨_, rfl⟩
  replace hL := Lib.hid hL
  obtain ⟨co, hco⟩ : ∃ z, codF pb pa n xs = z := ⟨_, rfl⟩
  replace hco := Lib.hid hco
  obtain ⟨K, hK⟩ : ∃ z, facK pb pa n xs = z := ⟨_, rfl⟩
  replace hK := Lib.hid hK
  go_enter Try.func6, Try.ntmps6
  go_wp2_with (first | (go_at_call 16; go_in) | fail)
  refine (hD.out _ _ _ hc).mono ?_
  rintro e w1 ⟨A1, c1, rfl, n13, hnc1, hcm1, hI1, hb1⟩
  have hc1 := Lib.hid ((hc.below hb1).more hb1.size)
  replace hI1 := Lib.hid hI1
  clear hc
  go_wp2_with fail
  refine (findFacts_val _ _ _ _ _ _ _ _ K L co hL hco hK hI1.out (Nat.le_refl _) (by omega) hnc1).mono ?_
  rintro e w2 ⟨A2, c2, rfl, gn2, ho2, hb2⟩
  have hc2 := Lib.hid ((hc1.out.below hb2).more hb2.size)
  have hL2 := Lib.hid (cells_of ho2)
  replace ho2 := Lib.hid ho2
  clear hc1 hI1
  go_wp2_with fail
  refine (hD.out _ _ _ hc2.out).mono ?_
  rintro e w3 ⟨A3, c3, rfl, -, hnc3, hcm3, hI3, hb3⟩
  have hc3 := Lib.hid ((hc2.out.below hb3).more hb3.size)
  have ho3 := Lib.hid (own_below ho2.out hb3)
  replace hI3 := Lib.hid hI3
  clear hc2 ho2 hD
  go_wp2_with fail
  refine (sFindFacts_val _ _ _ _ _ _ _ _ K L co hL hco hK hI3.out (Nat.le_refl _) (by omega)).mono ?_
  rintro e w4 ⟨A4, c4, rfl, gn4, ho4', hb4⟩
  have hc4 := Lib.hid ((hc3.out.below hb4).more hb4.size)
  have ho4 := Lib.hid (own_below ho3.out hb4)
  have hI4 := Lib.hid ((hI3.out.below hb4).more hb4.size)
  replace ho4' := Lib.hid ho4'
  clear hc3 ho3 hI3
  have hl2 : Ints w4 w4.heap.size A2 K (fun j => L.getD j 0) := Ints.of_own ho4.out (Nat.le_refl _) (by have := hL2.out.1; simp; omega) (fun j hj => hL2.out.2 j (by omega))
  have hl4 : Ints w4 w4.heap.size A4 K (fun j => L.getD j 0) := Ints.of_own ho4'.out (Nat.le_refl _) (by have := hL2.out.1; simp; omega) (fun j hj => hL2.out.2 j (by omega))
  have hLK : L.length = K := by have := hL2.out.1; omega
  have hlike := Lib.hid (likeInts_any A2 A4 K c2 K c4 w4.heap.size L L w4 hl2 hl4 hLK hLK (Nat.le_refl _) (by omega) (by omega) rfl)
  have z1 := hb1.size
  have z2 := hb2.size
  have z3 := hb3.size
  have z4 := hb4.size
  have hbb4 : Below w.heap.size w w4 := hb1.trans ((hb2.mono (by omega)).trans ((hb3.mono (by omega)).trans (hb4.mono (by omega))))
  clear hb1 hb2 hb3 hb4 hl2 hl4 ho4'
  have hzz := hbb4.size
  have hnn : n ≤ c3 := hnc3
  go_wp2_with fail
  refine hlike.out.mono ?_
  rintro e w5 ⟨rfl, hb5⟩
  have hc5 := Lib.hid ((hc4.out.below hb5).more hb5.size)
  have ho5 := Lib.hid (own_below ho4.out hb5)
  have hI5 := Lib.hid ((hI4.out.below hb5).more hb5.size)
  have z5 := hb5.size
  have hbb5 : Below w.heap.size w w5 := hbb4.trans (hb5.mono (by omega))
  clear hc4 ho4 hI4 hlike hb5 hbb4
  go_wp2_with fail
  refine (isHearing_any _ _ _ _ _ _ _ _ hI5.out (Nat.le_refl _) (by omega) hnn).mono ?_
  rw [hco.out]
  rintro e w6 ⟨rfl, hb6⟩
  have hc6 := Lib.hid ((hc5.out.below hb6).more hb6.size)
  have ho6 := Lib.hid (own_below ho5.out hb6)
  have hI6 := Lib.hid ((hI5.out.below hb6).more hb6.size)
  have z6 := hb6.size
  have hbb6 : Below w.heap.size w w6 := hbb5.trans (hb6.mono (by omega))
  clear hc5 ho5 hI5 hb6 hbb5
  by_cases h0 : co = 0
  · subst h0
    have hF6 := Lib.hid (Ints.of_own (xs := fun j => L.getD j 0) (n := K) ho6.out (Nat.le_refl _) (by have := hL2.out.1; simp; omega) (fun j hj => hL2.out.2 j (by omega)))
    clear ho6 hL2
    go_wp2_with fail
    refine (roll_any _ _ _ _ _ _ _ ((hc6.out.below ((Below.refl _ _).alloc (Nat.le_refl _) (.cells #[] 59))).more (by simp)) (Nat.le_refl _) (by omega)).mono ?_
    rintro e w7 ⟨rfl, hX7, hb7⟩
    have hT7 := (Whole.new w6 59 #[]).below hb7 (by simp)
    have z7 := hb7.size
    simp only [World.size_alloc] at z7 hX7
    have hb67 : Below w6.heap.size w6 w7 := ((Below.refl _ _).alloc (Nat.le_refl _) (.cells #[] 59)).trans (hb7.mono (by simp))
    have hc7 := Lib.hid (hc6.out.below hb67)
    clear hc6 hb7
    simp only [World.size_alloc]
    go_wp2_with fail
    refine (below_any _ _ _ _ _ _ ((n : Int) + 1) w7 hc7.out (by omega) (by omega) hb.out hX7 (by omega) (by omega)).mono ?_
    rintro e w8 ⟨r, rfl, r0, r1, hX8, hg8⟩
    obtain ⟨b, rfl⟩ : ∃ k : Nat, r = k := ⟨r.toNat, by omega⟩
    have hT8 := hT7.grown hg8 (fun e => by injection e with e; omega)
    have hb68 : Below w6.heap.size w6 w8 := hb67.trans (below_only hg8 (by omega) (fun k e => by injection e with e; omega))
    have z8 := hg8.size
    clear hc7 hX7 hX8 hg8 hT7 hb67
    have hlaw := turn_law (b := b) hco.out
    rw [hL.out] at hlaw
    obtain ⟨hco', hl8, hl8', hlaw⟩ := hlaw
    have hget := turnL_get n b
    generalize hO : turnL n b n = O at hget
    go_wp2_with fail
    refine (w6Turned_any n b w8 (by omega) (by omega) (by omega)).mono ?_
    rw [hO]
    rintro e w9 ⟨v9, rfl, ho9, hb9⟩
    obtain ⟨A9, c9, rfl, hnc9, hcm9⟩ := own_form ho9
    have hT9 := hT8.below hb9 (by omega)
    have z9 := hb9.size
    have hb69 : Below w6.heap.size w6 w9 := hb68.trans (hb9.mono (by omega))
    have hO9 := fun k hk => ho9.lt k hk
    replace hget := Lib.hid hget
    replace hlaw := Lib.hid hlaw
    clear hb9 hb68 hO hT8
    have ho0 : w9.ownsRow w6.heap.size 59 3 (.slice (some ⟨w6.heap.size, 0, none⟩) 0 0) 0 ((tnL xs (pT n b) 0).map (Value.int .i64)) := own_empty hT9 (Nat.le_refl _)
    clear hT9
    go_wp2_with fail
    go_loopw [10, 12] (fun v10 v12 wr => ∃ k : Nat, k ≤ n ∧ v12 = .int .i64 k ∧ wr.ownsRow w6.heap.size 59 3 v10 k ((tnL xs (pT n b) k).map (Value.int .i64)) ∧ (∀ q, v10.ownBlock = some q → q = w6.heap.size ∨ w9.heap.size ≤ q) ∧ wr.ownsRow w8.heap.size 3 1 (.slice A9 n c9) n (O.map (Value.int .i64)) ∧ w9.heap.size ≤ wr.heap.size ∧ Below w6.heap.size w6 wr) (fun _ vi _ => (n - intOf vi).toNat)
    case atStart => exact ⟨0, by omega, rfl, ho0, fun q hq => .inl (by injection hq with hq; exact hq.symm), ho9, Nat.le_refl _, hb69⟩
    case round =>
      obtain ⟨k, hk, rfl, ho, hq, hor, hz, hbel⟩ := hrel
      clear ho0 ho9 hb69
      by_cases hlt : k < n
      · obtain ⟨hgO, hp⟩ := hget.out k hlt
        have hy := turn_says hco.out hp
        obtain ⟨g9, cap9, cur9, hv9, hg9b, -⟩ := own_open hor (by omega)
        injection hv9 with hv1 _ hv3
        subst hv1
        subst hv3
        have y9 := hor.cellAt k (by omega)
        rw [List.getElem?_map, List.getElem?_eq_getElem (by have := (cells_of hor).1; omega)] at y9
        have hgO' : O[k]'(by have := (cells_of hor).1; omega) = (pT n b k : Int) := by
          rw [← hgO, List.getD_eq_getElem?_getD, List.getElem?_eq_getElem (by have := (cells_of hor).1; omega)]
          rfl
        rw [hgO'] at y9
        have hst : tnL xs (pT n b) (k + 1) = tnL xs (pT n b) k ++ [xs (pT n b k * 3), xs (pT n b k * 3 + 1), -xs (pT n b k * 3 + 2)] := rfl
        obtain ⟨b3, o3, rfl, had3, hcode⟩ := (hI6.out.below hbel) (by omega)
        have hz6 := hbel.size
        have g0 : wr.cell? ⟨b3, o3 + pT n b k * 3, none⟩ = some (.int .i64 (xs (pT n b k * 3))) := hcode (pT n b k * 3) (by omega)
        have g1 : wr.cell? ⟨b3, o3 + pT n b k * 3 + 1, none⟩ = some (.int .i64 (xs (pT n b k * 3 + 1))) := hcode (pT n b k * 3 + 1) (by omega)
        have g2 : wr.cell? ⟨b3, o3 + pT n b k * 3 + 2, none⟩ = some (.int .i64 (xs (pT n b k * 3 + 2))) := hcode (pT n b k * 3 + 2) (by omega)
        clear hcode hgO hgO'
        obtain ⟨zs2, hz2⟩ : ∃ z, tnL xs (pT n b) (k + 1) = z := ⟨_, rfl⟩
        rw [hz2] at hst
        replace hst := Lib.hid hst
        replace hz2 := Lib.hid hz2
        have hy' := hy
        generalize xs (pT n b k * 3) = sp at hst g0
        generalize xs (pT n b k * 3 + 1) = f at hst g1
        generalize xs (pT n b k * 3 + 2) = sy at hst g2 hy
        clear hy'
        generalize pT n b k = p at *
        have hyb : -1 ≤ sy ∧ sy ≤ 1 := by omega
        have hwn : IntKind.i64.wrap (-sy) = -sy := by rw [IntKind.wrap_i64]; omega
        clear hy
        obtain ⟨i0, hi, hz0', hz1', hz2'⟩ := info_parts infoStatement
        replace hi := Lib.hid hi
        replace hz0' := Lib.hid hz0'
        replace hz1' := Lib.hid hz1'
        replace hz2' := Lib.hid hz2'
        have hnew := Whole.new (wr.alloc (.cells #[.int .i64 sp, .int .i64 f, .int .i64 sy] 59)) 59 #[.int .i64 sp, .int .i64 f, .int .i64 (-sy)]
        simp only [World.size_alloc] at hnew
        go_wp2_with (at_builtin; refine wpList_append_own_at _ rfl _ _ 46 rfl w6.heap.size 59 i0 _ 3 24 Try.underlying46 hi.out hz0'.out hz1'.out hz2'.out rfl (by decide) _ _ _ rfl ((ho.alloc _).alloc _) ⟨wr.heap.size + 1, 0, none⟩ 1 1 [.int .i64 sp, .int .i64 f, .int .i64 (-sy)] rfl rfl ?c1 ?c2 ?c3 ?c4 ?c5 ?_)
        case c2 => simp [Value.oneCell']
        case c3 => simp only [maxLen]; omega
        case c4 => omega
        case c5 => omega
        intro v' wy hown' hgrow _ hat
        have hlt' := fun q hq => (ho.lt q hq).1
        have hbel2 : Below w6.heap.size w6 ((wr.alloc (.cells #[.int .i64 sp, .int .i64 f, .int .i64 sy] 59)).alloc (.cells #[.int .i64 sp, .int .i64 f, .int .i64 (-sy)] 59)) := (hbel.alloc hz6 _).alloc (by simp; omega) _
        have hby : Below w6.heap.size w6 wy := hbel2.trans (below_only hgrow (by simp; omega) hlt')
        have hory := ((hor.alloc (.cells #[.int .i64 sp, .int .i64 f, .int .i64 sy] 59)).alloc (.cells #[.int .i64 sp, .int .i64 f, .int .i64 (-sy)] 59)).kept hgrow (.inr (fun e => by
          have e1 := hq g9 (by rw [← e]; rfl)
          have e2 := hO9 g9 rfl
          omega))
        have hgz := hgrow.size
        simp only [World.size_alloc] at hgz hat
        have hoy : wy.ownsRow w6.heap.size 59 3 v' (k + 1) (zs2.map (Value.int .i64)) := by rw [hst.out]; simpa using hown'
        have hqy : ∀ q, v'.ownBlock = some q → q = w6.heap.size ∨ w9.heap.size ≤ q := by
          intro q e
          rcases hat with h | h
          · exact hq q (h ▸ e)
          · rw [h] at e; injection e with e; omega
        clear hown' hgrow hat ho hor hq hbel2 hbel
        go_wp2
        go_roundw
        case rel => exact ⟨k + 1, by omega, by go_num, by rw [hz2.out]; exact hoy, hqy, hory, by omega, hby⟩
        case measure => simp [intOf]; omega
      · obtain rfl : k = n := by omega
        obtain ⟨A10, c10, rfl, hnc10, hcm10⟩ := own_form ho
        have hIy : Ints wr wr.heap.size A10 (k * 3) (xsOf (tnL xs (pT k b) k)) := Ints.of_own ho (Nat.le_refl _) (by rw [List.length_map, tnL_len]; omega) (fun j hj => (cells_of ho).2 j (by omega))
        obtain ⟨L', hL'⟩ : ∃ z, facL pb pa k (xsOf (tnL xs (pT k b) k)) = z := ⟨_, rfl⟩
        rw [hL'] at hl8' hlaw
        replace hL' := Lib.hid hL'
        have hK8 : K = 8 := by rw [← hK.out]; unfold facK; rw [if_pos hco.out]
        subst hK8
        have hK' : Hid (facK pb pa k (xsOf (tnL xs (pT k b) k)) = 8) := Lib.hid (by unfold facK; rw [if_pos hco'])
        replace hco' := Lib.hid hco'
        have hFr := Lib.hid (hF6.out.below hbel)
        have hz6 := hbel.size
        have hbbr : Below w.heap.size w wr := hbb6.trans (hbel.mono (by omega))
        clear ho hor hq hbel hF6 hO9 hget hI6 hco hK hL
        go_wp2_with fail
        refine (findFacts_val _ _ _ _ _ _ _ _ 8 L' 0 hL' hco' hK' hIy (Nat.le_refl _) (by omega) hnc10).mono ?_
        rintro e w10 ⟨A11, c11, rfl, -, ho10, hb10⟩
        have z10 := hb10.size
        have hFx := Lib.hid (hFr.out.below (hb10.mono (by omega)))
        have hbbx : Below w.heap.size w w10 := hbbr.trans (hb10.mono (by omega))
        obtain ⟨g11, cap11, cur11, hv11, hg11b, hW11, -, -, -, hcur⟩ := own_open ho10 (by omega)
        injection hv11 with hv1 _ hv3
        subst hv1
        subst hv3
        have hcL := Lib.hid (cells_of ho10)
        replace hcur := Lib.hid hcur
        replace hl8 := Lib.hid hl8
        replace hl8' := Lib.hid hl8'
        clear hFr hIy ho10 hb10 hbbr hL' hK' hco'
        go_wp2_with fail
        go_loopw [16] (fun v16 wx => ∃ i : Nat, i ≤ 8 ∧ v16 = .int .i64 i ∧ Below w10.heap.size w10 wx) (fun vi _ => (8 - intOf vi).toNat)
        case atStart => exact ⟨0, by omega, rfl, Below.refl _ _⟩
        case round =>
          obtain ⟨i, hi, rfl, hbx⟩ := hrel
          by_cases hlt : i < 8
          · obtain ⟨e1, e2, e3⟩ := hlaw.out i hlt
            obtain ⟨b2, o2, rfl, had2, hcode2⟩ := (hFx.out.below (hbx.mono (by omega))) (by omega)
            have y0 := hcode2 i hlt
            have y1 := ((hW11.below hbx hW11.lt).cell i).trans (hcur.out _ _ (hcL.out.2 i (by omega)))
            rw [e1] at y1
            clear hcode2 e1
            dsimp only at y0
            generalize L.getD i 0 = v at *
            have hwn : IntKind.i64.wrap (-v) = -v := by rw [IntKind.wrap_i64]; omega
            have hzx := hbx.size
            go_wp2_with fail
            go_region
            all_goals go_wp2
            all_goals go_roundw
            all_goals first
              | exact ⟨i + 1, by omega, by go_num, hbx.drew⟩
              | (simp [intOf]; omega)
              | fail
          · obtain rfl : i = 8 := by omega
            go_wp2
            go_ret
            exact ⟨rfl, hbbx.trans (hbx.mono (by omega))⟩
  · have hd0 : decide (co = 0) = false := decide_eq_false h0
    have hd1 : (co == 0) = false := by rw [beq_eq_false_iff_ne]; exact h0
    have hd2 : (co != 0) = true := by simpa using h0
    rw [hd0]
    go_wp2
    go_ret
    exact ⟨rfl, hbb6⟩

/-! ### THE ROW's STEP: WRITTEN OUT: LEAVE IT -/
set_option maxRecDepth 100000 in
theorem lifted (os : Os) (started : os.Started) (H : Type) (enc : TypeId × Value → H) :
    ReturnsInHanded {} Try.checked os 6 .any (Rows.fnFactsSpec.pre6 enc Try.prog Try.f6 Rows.fnFactsRow.domain false) (Rows.fnFactsSpec.post enc Try.prog Try.f6 false true false false) := by
  refine returnsInHanded_of_change (C := Try.checked) own started (by kernel_rfl) Try.func6
    (ChangeSpec.witness6 (enc := enc) (C := Try.checked) false ⟨#[], #[.slice none 0 0], []⟩ 8 (by kernel_rfl) (by kernel_rfl) (by kernel_rfl) (by kernel_rfl)) ?_
  intro W base args ds gs before hval0 hW hcnd _
  have hval : ∀ (j : Nat) t v, Try.f6.params[j]? = some t → args[j]? = some v → Value.okWide Try.prog W .any base t v := hval0
  have hW' := hW
  obtain ⟨p, q, hA0, hV, rfl, hfz, hnd⟩ := hW
  have hA : DataW.TrodAll enc Try.prog W 0 (fun _ => true) true Try.f6.params.toList args.toList ds p := hA0
  rw [Try.params6] at hA hval
  obtain ⟨v0, vs0, d0, ds0, p0, q0, hargs, rfl, rfl, h0, r0⟩ := trodAll_cons hA
  obtain ⟨rfl, rfl, rfl⟩ := trodAll_nil r0
  obtain rfl : args = #[v0] := by cases args; simp_all
  obtain ⟨rfl, rfl⟩ := trodVars_none hV
  obtain ⟨a0, len0, cap0, rfl⟩ := okWide_slice Try.underlying29 (hval 0 29 v0 rfl rfl)
  have k0 := h0
  have lt0 : ∀ x ∈ p0, x.block < W.heap.size := by obtain ⟨m, hm⟩ := k0; exact DataW.trod_lt m _ _ _ hm
  obtain ⟨z0, w0⟩ : ∃ zs, IsRow .u8 W a0 len0 cap0 zs := by
    obtain ⟨fuel, hf⟩ := h0
    rcases open_ints Try.underlying29 Try.underlying5 (by kernel_rfl) hf with ⟨hcs, _⟩ | ⟨x, l, c, zs, hcs, _, hl, hm, hz, _, hcell, hwz⟩
    · simp [Value.cells] at hcs
      obtain ⟨rfl, rfl, rfl⟩ := hcs
      exact ⟨[], .inl ⟨rfl, rfl, rfl, rfl⟩⟩
    · simp [Value.cells] at hcs
      obtain ⟨rfl, rfl, rfl⟩ := hcs
      exact ⟨zs, .inr ⟨_, rfl, hl, hm, by simpa using hz, hcell, hwz⟩⟩
  clear hA0 hval0
  refine (walk a0 len0 cap0 z0 W w0).mono fun e W' ⟨he, bel⟩ => ?_
  subst he
  exact ⟨_, rfl, _, _, _, [], _, [], hW', trodAll_mk1 (shut_bool Try.underlying4 _), (trodAll_cons_mk (Below.trod laidOut (by kernel_rfl) (of_decide_eq_true (by kernel_rfl)) k0 bel lt0) trodAll_mk0), rfl, bel.frame _, fun h => by cases h⟩

theorem over : Rows.fnFactsRow.holds Try.pinned (OpenSpec.ofChange Rows.fnFactsSpec) :=
  OpenClaim.holds_of_wide 6 Try.f6 rfl rfl rfl rfl rfl rfl rfl ⟨rfl, rfl, rfl, rfl, rfl⟩ rfl rfl rfl rfl rfl (by kernel_rfl) Try.func6 (by kernel_rfl)
    (of_decide_eq_true (by kernel_rfl)) (by unfold Func.isWrapper; first | (rw [if_pos (by decide +kernel)]; kernel_rfl) | (rw [if_neg (by decide +kernel)]; exact ⟨rfl, rfl⟩))
    (fun os started H enc _ => lifted os started H enc)

/-- THE STATEMENT -/
theorem proved : Rows.FnFactsSaid := over
#print axioms proved
end Go.Proofs.Ytcilgohjeobamaa.fnFacts
