/- The law FnRulings: for every input the call returns true, and each argument reads afterwards as it read before. No condition. -/
import Derived.Test.YteacjoemlobmoaaDoorRulD
import Derived.Test.YteacjoemlobmoaaDoorCards
import Derived.Test.YteacjoemlobmoaaDoorTie
import Derived.Test.YteacjoemlobmoaaDoorRows
import Derived.Deep.DeepHandedRow
import Derived.Lib.LaidTab
import Derived.WalkKit
import Derived.ProofKit
import Derived.OpenShut
import Derived.ShutString
import Derived.ChangeOld
import Derived.Below
namespace Go.Proofs.YteacjoemlobmoaaDoor.fnRulings
open Go.ChangeShapes Go.WideShapes Go.ChangeAt Go.RowKit
open Go.ChangeMaps (open_string shut_string)
set_option linter.unusedVariables false

theorem own : ownKnob Tryd.prog.godebug = none := by kernel_rfl
theorem laidOut : laidOutB Tryd.prog = true := by kernel_rfl
theorem gTab : Tryd.prog.globalNamed "internal/strconv.uint64pow10" = some 0 := by kernel_rfl
theorem gTabType : (Tryd.prog.globals[0]?).map (·.type) = some 80 := by kernel_rfl
theorem cellsT : Tryd.prog.cellsOf 80 = 20 := by kernel_rfl
theorem cellsE : Tryd.prog.cellsOf 73 = 1 := by kernel_rfl
/-- What the row's list gives: the table of the powers of ten. -/
theorem table {W : World} (h : laidMetH Tryd.prog Rows.fnRulingsRow.laid W) : Lib.TabIs Tryd.prog W "internal/strconv.uint64pow10" .u64 Lib.pow10Tab := by
  obtain ⟨ps, h0, _, _⟩ := (show laidMet Tryd.prog Rows.fnRulingsRow.laid W from h)
  obtain ⟨_, _, _, _, _, _, _, _, _, _, h1, _⟩ := h0
  obtain ⟨_, _, _, _, _, _, _, _, _, _, h2, _⟩ := h1
  obtain ⟨g', t', cs, fuel, p, q, hg', ht', hvar, hd, _, _⟩ := h2
  obtain rfl := Option.some.inj (gTab.symm.trans hg')
  obtain rfl := Option.some.inj (gTabType.symm.trans ht')
  unfold Lib.TabIs
  rw [hvar, ← Lib.cells_of_tab (k := .u64) (zs := Lib.pow10Tab) Tryd.underlying80 Tryd.underlying73 cellsE cellsT hd]

/-- WHAT THE WALK IS TOLD OF A SLICE OF INTEGERS THAT CAME IN: it is nil; or it leads to a row of 'cap' cells, the numbers 'zs' (the first 'len' are its elements, the rest its spare room), each fitting its kind. -/
def IsRow (k : IntKind) (w : World) (a : Option Addr) (len cap : Nat) (zs : List Int) : Prop :=
  (a = none ∧ len = 0 ∧ cap = 0 ∧ zs = []) ∨
  ∃ x, a = some x ∧ len ≤ cap ∧ cap ≤ maxLen ∧ zs.length = cap ∧ (∀ i, i < zs.length → w.cell? (x.add i) = some (.int k (zs.getD i 0))) ∧ ∀ n ∈ zs, (Lit.int k n).wf = true

/-! ### STEP 1: THE WALK: the Go text returns true, AND WRITES NOTHING THAT WAS THERE: 'Below w.heap.size w w'' (Derived/Below.lean: '.refl', '.alloc', '.drew', '.setCell' at a new block, '.trans'). Open each 'IsRow' by 'rcases' AHEAD of 'go_enter'; part every test ahead of the walk. -/
set_option maxRecDepth 100000 in
set_option maxHeartbeats 8000000 in
theorem walk (a0 : Option Addr) (len0 cap0 : Nat) (z0 : List Int) (w : World) (w0 : IsRow .u8 w a0 len0 cap0 z0) (htab : Lib.TabIs Tryd.prog w "internal/strconv.uint64pow10" .u64 Lib.pow10Tab) :
    Calls Tryd.prog 4 #[.slice a0 len0 cap0] w fun e w' => e = .returned (.bool true) ∧ Below w.heap.size w w' := by
  have hT := Lib.tabBelow_of_tabIs htab
  obtain ⟨hc, hb⟩ := code_of w0
  by_cases hbig : 4096 < len0
  · go_enter Tryd.func4, Tryd.ntmps4
    go_wp2
    go_ret
    exact ⟨rfl, Below.refl _ _⟩
  replace hT := Lib.hid hT
  obtain ⟨n, xs, t, k, u, hD⟩ := drawAddRuling_ex len0 _ (by omega) hb
  replace hD := Lib.hid hD
  clear w0 htab hb
  have hform := addC_form (n := n) (xs := xs) (t := t) (k := k) (u := u)
  have hrform := rulC_form (n := n) (xs := xs) (t := t)
  have hne : decide ((apT t k u).toList = []) = !rulB t k u := by
    rw [← apT_ne t k u]
    have h : ∀ S : ByteArray, decide (S.toList = []) = !(S != ByteArray.mk #[]) := fun S => by
      obtain ⟨⟨l⟩⟩ := S
      rw [ByteArray.toList_eq]
      cases l <;> rfl
    exact h _
  have hlaw := rul_law (n := n) (xs := xs) (t := t) (k := k) (u := u)
  have hfin := fun f => fin_law (n := n) (xs := xs) (t := t) (f := f)
  have hLK := addL_len (n := n) (xs := xs) (t := t) (k := k) (u := u)
  have hisI := fun A c B w h hB => isHistory_any A n c B xs w h hB
  have hisS := fun A c B w h hB => sIsHistory_any A n c B xs w h hB
  have hff := fun A c B w h hB => finalFrom_any A n c B xs w h hB
  obtain ⟨co, hco⟩ : ∃ z, addC n xs t k u = z := ⟨_, rfl⟩
  obtain ⟨L, hL⟩ : ∃ z, addL n xs t k u = z := ⟨_, rfl⟩
  obtain ⟨K, hK⟩ : ∃ z, addK n xs t k u = z := ⟨_, rfl⟩
  obtain ⟨hv, hhv⟩ : ∃ z, hisB n xs = z := ⟨_, rfl⟩
  obtain ⟨co2, hco2⟩ : ∃ z, rulC n xs t = z := ⟨_, rfl⟩
  obtain ⟨L2, hL2⟩ : ∃ z, rulL n xs t = z := ⟨_, rfl⟩
  obtain ⟨K2, hK2⟩ : ∃ z, L2.length = z := ⟨_, rfl⟩
  obtain ⟨S, hS⟩ : ∃ z, apT t k u = z := ⟨_, rfl⟩
  obtain ⟨rb, hrb⟩ : ∃ z, rulB t k u = z := ⟨_, rfl⟩
  obtain ⟨⟨fr, fc⟩, hfv⟩ : ∃ z, finV n xs = z := ⟨_, rfl⟩
  rw [hhv, hco] at hform
  rw [hhv, hco2] at hrform
  rw [hS, hrb] at hne
  rw [hhv, hco2, hrb, hL2, hco] at hlaw
  simp only [hco2, hL2, hfv] at hfin
  replace hfin : co2 = 0 → fc = 0 → t < fr ∨ L2 = [] := fun h0 h1 => hfin fr h0 (by rw [h1])
  rw [hL, hK] at hLK
  simp only [hhv] at hisI hisS
  simp only [hfv] at hff
  clear hhv hrb hfv
  replace hform := Lib.hid hform
  replace hrform := Lib.hid hrform
  replace hne := Lib.hid hne
  replace hlaw := Lib.hid hlaw
  replace hfin := Lib.hid hfin
  replace hLK := Lib.hid hLK
  replace hisI := Lib.hid hisI
  replace hisS := Lib.hid hisS
  replace hff := Lib.hid hff
  replace hco := Lib.hid hco
  replace hL := Lib.hid hL
  replace hK := Lib.hid hK
  replace hco2 := Lib.hid hco2
  replace hL2 := Lib.hid hL2
  replace hK2 := Lib.hid hK2
  replace hS := Lib.hid hS
  go_enter Tryd.func4, Tryd.ntmps4
  go_wp2_with (first | (go_at_call 8; go_in) | fail)
  refine (hD.out _ _ _ hc).mono ?_
  rintro e w1 ⟨b1, c1, rfl, hn20, hnc1, hcm1, hI1, hb1, hbw1⟩
  have hc1 := (hc.below hb1).more hb1.size
  have z1 := hb1.size
  have hX := Whole.new w1 25 #[.int .i64 t, .int .i64 k, .int .i64 u]
  have hbX : Below w1.heap.size w1 (w1.alloc (.cells #[.int .i64 t, .int .i64 k, .int .i64 u] 25)) := (Below.refl _ _).alloc (Nat.le_refl _) _
  have hI1 := (hI1.below hbX).more hbX.size
  have hc1 := (hc1.below hbX).more hbX.size
  have hbb2 := hb1.trans (hbX.mono hb1.size)
  clear hc hb1 hbX
  replace hX := Lib.hid hX
  replace hI1 := Lib.hid hI1
  replace hc1 := Lib.hid hc1
  replace hbb2 := Lib.hid hbb2
  go_wp2_with fail
  obtain ⟨X, hXe⟩ : ∃ X, w1.heap.size = X := ⟨_, rfl⟩
  have hXX := hX.out
  have hI2 := hI1.out
  have hc2 := hc1.out
  have hbb2 := hbb2.out
  obtain ⟨w2, hw2⟩ : ∃ W, w1.alloc (.cells #[.int .i64 t, .int .i64 k, .int .i64 u] 25) = W := ⟨_, rfl⟩
  have z2 : X < w2.heap.size := by rw [← hw2, ← hXe]; simp
  rw [hw2] at hXX hI2 hc2 hbb2 ⊢
  rw [hXe] at hXX ⊢
  rw [hXe] at z1
  clear hX hI1 hc1 hw2 hXe
  refine (addRuling_val b1 0 n c1 _ xs t k u w2 K L co hL hco hK hI2 (Nat.le_refl _) (by omega)).mono ?_
  rintro e w3 ⟨A2, c2, rfl, gk, ho2, hb3⟩
  have hc3 := (hc2.below hb3).more hb3.size
  have hX3 := Lib.hid (hXX.below hb3 z2)
  have hbb3 := Lib.hid (hbb2.trans (hb3.mono (B' := w.heap.size) (by omega)))
  have z3 := hb3.size
  replace ho2 := Lib.hid ho2
  clear hI2 hc2 hXX hbb2 hb3
  go_wp2_with fail
  refine (hD.out _ _ _ hc3).mono ?_
  rintro e w4 ⟨b4, c4, rfl, -, hnc4, hcm4, hI4, hb4, hbw4⟩
  have z4 := hb4.size
  have hX4 := hX3.out.below hb4 (by omega)
  have ho4 := own_below ho2.out hb4
  have hbb4 := hbb3.out.trans (hb4.mono (B' := w.heap.size) (by omega))
  have z0 : w4.cell? ⟨X, 0, none⟩ = some (.int .i64 t) := by simpa using hX4.cell 0
  have z0' : w4.cell? ⟨X, 1, none⟩ = some (.int .i64 k) := by simpa using hX4.cell 1
  have z0'' : w4.cell? ⟨X, 2, none⟩ = some (.int .i64 u) := by simpa using hX4.cell 2
  have f0 := hX4.frz 0
  have f1 := hX4.frz 1
  have f2 := hX4.frz 2
  have hX5 := ((hX4.put 0 (.int .i64 t)).put 1 (.int .i64 k)).put 2 (.int .i64 u)
  have ho5 := ownsRow_setCell_below (ownsRow_setCell_below (ownsRow_setCell_below ho4 (a := ⟨X, 0, none⟩) z2 (.int .i64 t)) (a := ⟨X, 1, none⟩) z2 (.int .i64 k)) (a := ⟨X, 2, none⟩) z2 (.int .i64 u)
  have hI5 := ints_put3 hI4 (g := X) (by omega) (.int .i64 t) (.int .i64 k) (.int .i64 u)
  have hbb5 := ((hbb4.setCell (p := ⟨X, 0, none⟩) z1 (.int .i64 t)).setCell (p := ⟨X, 1, none⟩) z1 (.int .i64 k)).setCell (p := ⟨X, 2, none⟩) z1 (.int .i64 u)
  have e0 := hX5.cell 0
  have e1 := hX5.cell 1
  have e2 := hX5.cell 2
  simp at e0 e1 e2
  replace hX5 := Lib.hid hX5
  replace ho5 := Lib.hid ho5
  replace hI5 := Lib.hid hI5
  replace hbb5 := Lib.hid hbb5
  clear hc3 hD hX3 hbb3 ho2 hX4 ho4 hI4 hbb4 hb4
  go_wp2_with fail
  have hX5 := hX5.out
  have ho5 := ho5.out
  have hI5 := hI5.out
  have hbb5 := hbb5.out
  clear z0 z0' z0'' f0 f1 f2
  obtain ⟨w5, hw5⟩ : ∃ W, ((w4.setCell ⟨X, 0, none⟩ (.int .i64 t)).setCell ⟨X, 1, none⟩ (.int .i64 k)).setCell ⟨X, 2, none⟩ (.int .i64 u) = W := ⟨_, rfl⟩
  have hz5 : w5.heap.size = w4.heap.size := by rw [← hw5]; simp
  rw [hw5] at hX5 ho5 hI5 hbb5 e0 e1 e2 ⊢
  rw [← hz5] at hI5
  have hX5 : Whole w5 X 25 #[.int .i64 t, .int .i64 k, .int .i64 u] := by simpa using hX5
  clear hw5
  refine (sAddRuling_val b4 0 n c4 _ xs t k u w5 K L co hL hco hK hI5 (Nat.le_refl _) (by omega)).mono ?_
  rintro e w6 ⟨A6, c6, rfl, -, ho6, hb6⟩
  have z6 := hb6.size
  have hI6 := (hI5.below hb6).more hb6.size
  have hX6 := hX5.below hb6 (by omega)
  have hbb6 := hbb5.trans (hb6.mono (B' := w.heap.size) (by omega))
  have ho2 := own_below ho5 hb6
  have hl2 : Ints w6 w6.heap.size A2 (K * 3) (fun j => L.getD j 0) := Ints.of_own ho2 (Nat.le_refl _) (by have := hLK.out; simp; omega) (fun j hj => (cells_of ho2).2 j (by omega))
  have hl6 : Ints w6 w6.heap.size A6 (K * 3) (fun j => L.getD j 0) := Ints.of_own ho6 (Nat.le_refl _) (by have := hLK.out; simp; omega) (fun j hj => (cells_of ho6).2 j (by omega))
  have hcall := Lib.hid (w6Rulings_any A2 A6 K c2 c6 w6.heap.size (fun j => L.getD j 0) w6 hl2 hl6 (Nat.le_refl _) (by omega))
  clear hX5 ho5 hI5 hbb5 hb6 ho2 ho6 hl2 hl6 e0 e1 e2
  go_wp2_with fail
  refine hcall.out.mono ?_
  rintro e w7 ⟨rfl, hb7⟩
  have z7 := hb7.size
  have hI7 := (hI6.below hb7).more hb7.size
  have hX7 := hX6.below hb7 (by omega)
  have hbb7 := hbb6.trans (hb7.mono (B' := w.heap.size) (by omega))
  clear hcall hI6 hX6 hbb6 hb7
  go_wp2_with fail
  refine (hisI.out _ _ _ _ hI7 (Nat.le_refl _) (by omega)).mono ?_
  rintro e w8 ⟨rfl, hb8⟩
  have z8 := hb8.size
  have hI8 := (hI7.below hb8).more hb8.size
  have hX8 := hX7.below hb8 (by omega)
  have hbb8 := hbb7.trans (hb8.mono (B' := w.heap.size) (by omega))
  clear hisI hI7 hX7 hbb7 hb8
  go_wp2_with fail
  refine (hisS.out _ _ _ _ hI8 (Nat.le_refl _) (by omega)).mono ?_
  rintro e w9 ⟨rfl, hb9⟩
  have z9 := hb9.size
  have hI9 := (hI8.below hb9).more hb9.size
  have hX9 := hX8.below hb9 (by omega)
  have hbb9 := hbb8.trans (hb9.mono (B' := w.heap.size) (by omega))
  clear hisS hI8 hX8 hbb8 hb9
  have hvv : (hv != hv) = false := by cases hv <;> rfl
  rcases hform.out with ⟨hh, hc1⟩ | ⟨hh, hc1⟩
  · subst hc1
    go_wp2
    go_ret
    exact ⟨rfl, hbb9⟩
  · have hn1 : (co == 1) = false := by rw [beq_eq_false_iff_ne]; omega
    have y0 : w9.cell? ⟨X, 0, none⟩ = some (.int .i64 t) := by simpa using hX9.cell 0
    go_wp2_with fail
    refine (rulingsAfter_val _ n c4 _ xs t w9 K2 L2 co2 hL2 hco2 hK2 hI9 (Nat.le_refl _) (by omega)).mono ?_
    rintro e wa ⟨Aa, ca, rfl, gka, hoa, hba⟩
    have za := hba.size
    have hIa := (hI9.below hba).more hba.size
    have hXa := hX9.below hba (by omega)
    have hbba := hbb9.trans (hba.mono (B' := w.heap.size) (by omega))
    clear hI9 hX9 hbb9 hba y0
    replace hoa := Lib.hid hoa
    have y0 : wa.cell? ⟨X, 0, none⟩ = some (.int .i64 t) := by simpa using hXa.cell 0
    go_wp2_with fail
    refine (sRulingsAfter_val _ n c4 _ xs t wa K2 L2 co2 hL2 hco2 hK2 hIa (Nat.le_refl _) (by omega)).mono ?_
    rintro e wb ⟨Ab, cb, rfl, -, hob, hbb⟩
    have zb := hbb.size
    have hIb := (hIa.below hbb).more hbb.size
    have hXb := hXa.below hbb (by omega)
    have hbbb := hbba.trans (hbb.mono (B' := w.heap.size) (by omega))
    have hoa2 := own_below hoa.out hbb
    have hla : Ints wb wb.heap.size Aa K2 (fun j => L2.getD j 0) := Ints.of_own hoa2 (Nat.le_refl _) (by have := hK2.out; simp; omega) (fun j hj => (cells_of hoa2).2 j (by omega))
    have hlb : Ints wb wb.heap.size Ab K2 (fun j => L2.getD j 0) := Ints.of_own hob (Nat.le_refl _) (by have := hK2.out; simp; omega) (fun j hj => (cells_of hob).2 j (by omega))
    have hcall := Lib.hid (likeInts_any Aa Ab K2 ca K2 cb wb.heap.size L2 L2 wb hla hlb hK2.out hK2.out (Nat.le_refl _) (by omega) (by omega) rfl)
    clear hIa hXa hbba hbb hoa hob hoa2 hlb y0
    replace hla := Lib.hid hla
    go_wp2_with fail
    refine hcall.out.mono ?_
    rintro e wc ⟨rfl, hbc⟩
    have zc := hbc.size
    have hIc := (hIb.below hbc).more hbc.size
    have hXc := hXb.below hbc (by omega)
    have hlc := (hla.out.below hbc).more hbc.size
    have hbbc := hbbb.trans (hbc.mono (B' := w.heap.size) (by omega))
    clear hcall hIb hXb hla hbbb hbc
    replace hlc := Lib.hid hlc
    rcases hrform.out hh with h0 | h2
    · subst h0
      have y0 : wc.cell? ⟨X, 0, none⟩ = some (.int .i64 t) := by simpa using hXc.cell 0
      have y1 : wc.cell? ⟨X, 1, none⟩ = some (.int .i64 k) := by simpa using hXc.cell 1
      have y2 : wc.cell? ⟨X, 2, none⟩ = some (.int .i64 u) := by simpa using hXc.cell 2
      have hTc : Pow wc wc.heap.size := fun W hb => hT.out W (hbbc.trans (hb.mono hbbc.size))
      go_wp2_with fail
      refine (appealText_val t k u S hS wc hTc).mono ?_
      rintro e wd ⟨rfl, hbd⟩
      have zd := hbd.size
      have hId := (hIc.below hbd).more hbd.size
      have hXd := hXc.below hbd (by omega)
      have hld := (hlc.out.below hbd).more hbd.size
      have hbbd := hbbc.trans (hbd.mono (B' := w.heap.size) (by omega))
      clear hIc hXc hlc hbbc hbd y0 y1 y2 hTc hT hS
      have y0 : wd.cell? ⟨X, 0, none⟩ = some (.int .i64 t) := by simpa using hXd.cell 0
      have y1 : wd.cell? ⟨X, 1, none⟩ = some (.int .i64 k) := by simpa using hXd.cell 1
      have hne := hne.out
      have key : ∀ we : World, Below wd.heap.size wd we → (Ints we we.heap.size (some ⟨b4, 0, none⟩) (n * 3) xs ∧ we.cell? ⟨X, 0, none⟩ = some (.int .i64 t) ∧ Below w.heap.size w we ∧ wd.heap.size ≤ we.heap.size) := fun we hbe => ⟨(hId.below hbe).more hbe.size, by rw [hbe.cell (by simp; omega)]; exact y0, hbbd.trans (hbe.mono (by omega)), hbe.size⟩
      replace key := Lib.hid key
      cases hrb : rb with
      | false =>
        rw [hrb] at hne
        have hne : S.toList = [] := of_decide_eq_true hne
        obtain ⟨hIe, y0, hbbe, ze⟩ := key.out wd (Below.refl _ _)
        go_wp2_with fail
        refine (hff.out _ _ _ _ hIe (Nat.le_refl _) (by omega)).mono ?_
        rintro e wf ⟨rfl, hbf⟩
        have hbbf := hbbe.trans (hbf.mono (B' := w.heap.size) (by omega))
        have y0 : wf.cell? ⟨X, 0, none⟩ = some (.int .i64 t) := by rw [hbf.cell (by simp; omega)]; exact y0
        clear hbbe hbf hIe
        by_cases hfc : fc = 0
        · subst hfc
          by_cases htf : t < fr
          · go_wp2
            go_ret
            exact ⟨rfl, hbbf⟩
          · have hK0 : K2 = 0 := by
              have h := (hfin.out (by trivial) (by trivial)).resolve_left htf
              rw [← hK2.out, h]; rfl
            subst hK0
            go_wp2
            go_ret
            exact ⟨rfl, hbbf⟩
        · have hfc0 : (fc != 0) = true := by rw [bne, beq_eq_false_iff_ne.2 hfc]; rfl
          go_wp2
          go_ret
          exact ⟨rfl, hbbf⟩
      | true =>
        rw [hrb] at hne
        have hne : ¬ S.toList = [] := of_decide_eq_false hne
        have hlaw := hlaw.out hh (by trivial) hrb
        have hhas := hasInt_any Aa K2 ca wd.heap.size L2 k wd hld hK2.out (Nat.le_refl _) (by omega)
        rw [hlaw] at hhas
        replace hhas := Lib.hid hhas
        by_cases hz : co = 0
        · subst hz
          rw [decide_eq_true rfl] at hhas
          go_wp2_with fail
          refine hhas.out.mono ?_
          rintro e we ⟨rfl, hbe⟩
          obtain ⟨hIe, y0, hbbe, ze⟩ := key.out we hbe
          clear hhas hbe
          go_wp2_with fail
          refine (hff.out _ _ _ _ hIe (Nat.le_refl _) (by omega)).mono ?_
          rintro e wf ⟨rfl, hbf⟩
          have hbbf := hbbe.trans (hbf.mono (B' := w.heap.size) (by omega))
          have y0 : wf.cell? ⟨X, 0, none⟩ = some (.int .i64 t) := by rw [hbf.cell (by simp; omega)]; exact y0
          clear hbbe hbf hIe
          by_cases hfc : fc = 0
          · subst hfc
            by_cases htf : t < fr
            · go_wp2
              go_ret
              exact ⟨rfl, hbbf⟩
            · have hK0 : K2 = 0 := by
                have h := (hfin.out (by trivial) (by trivial)).resolve_left htf
                rw [← hK2.out, h]; rfl
              subst hK0
              go_wp2
              go_ret
              exact ⟨rfl, hbbf⟩
          · have hfc0 : (fc != 0) = true := by rw [bne, beq_eq_false_iff_ne.2 hfc]; rfl
            go_wp2
            go_ret
            exact ⟨rfl, hbbf⟩
        · have hz0 : (co == 0) = false := by rw [beq_eq_false_iff_ne]; exact hz
          rw [decide_eq_false hz] at hhas
          go_wp2_with fail
          refine hhas.out.mono ?_
          rintro e we ⟨rfl, hbe⟩
          obtain ⟨hIe, y0, hbbe, ze⟩ := key.out we hbe
          clear hhas hbe
          go_wp2_with fail
          refine (hff.out _ _ _ _ hIe (Nat.le_refl _) (by omega)).mono ?_
          rintro e wf ⟨rfl, hbf⟩
          have hbbf := hbbe.trans (hbf.mono (B' := w.heap.size) (by omega))
          have y0 : wf.cell? ⟨X, 0, none⟩ = some (.int .i64 t) := by rw [hbf.cell (by simp; omega)]; exact y0
          clear hbbe hbf hIe
          by_cases hfc : fc = 0
          · subst hfc
            by_cases htf : t < fr
            · go_wp2
              go_ret
              exact ⟨rfl, hbbf⟩
            · have hK0 : K2 = 0 := by
                have h := (hfin.out (by trivial) (by trivial)).resolve_left htf
                rw [← hK2.out, h]; rfl
              subst hK0
              go_wp2
              go_ret
              exact ⟨rfl, hbbf⟩
          · have hfc0 : (fc != 0) = true := by rw [bne, beq_eq_false_iff_ne.2 hfc]; rfl
            go_wp2
            go_ret
            exact ⟨rfl, hbbf⟩
    · subst h2
      go_wp2_with fail
      refine (hff.out _ _ _ _ hIc (Nat.le_refl _) (by omega)).mono ?_
      rintro e wd ⟨rfl, hbd⟩
      go_wp2
      go_ret
      exact ⟨rfl, hbbc.trans (hbd.mono (B' := w.heap.size) (by omega))⟩

/-! ### THE ROW's STEP -/
/-- A world for the witness: the settled one, the tables holding what their initialisers lay. -/
noncomputable def laidWorld (os : Os) : World :=
  { World.holding Tryd.prog os ⟨#[], #[], []⟩ with heap := ((((World.holding Tryd.prog os ⟨#[], #[], []⟩).heap.modify 1 (fun
      | .cells _ t frozen => .cells #[.int .u8 0, .int .u8 1, .int .u8 28, .int .u8 2, .int .u8 29, .int .u8 14, .int .u8 24, .int .u8 3, .int .u8 30, .int .u8 22, .int .u8 20, .int .u8 15, .int .u8 25, .int .u8 17, .int .u8 4, .int .u8 8, .int .u8 31, .int .u8 27, .int .u8 13, .int .u8 23, .int .u8 21, .int .u8 19, .int .u8 16, .int .u8 7, .int .u8 26, .int .u8 12, .int .u8 18, .int .u8 6, .int .u8 11, .int .u8 5, .int .u8 10, .int .u8 9] t frozen
      | o => o)).modify 2 (fun
      | .cells _ t frozen => .cells #[.int .u8 0, .int .u8 1, .int .u8 56, .int .u8 2, .int .u8 57, .int .u8 49, .int .u8 28, .int .u8 3, .int .u8 61, .int .u8 58, .int .u8 42, .int .u8 50, .int .u8 38, .int .u8 29, .int .u8 17, .int .u8 4, .int .u8 62, .int .u8 47, .int .u8 59, .int .u8 36, .int .u8 45, .int .u8 43, .int .u8 51, .int .u8 22, .int .u8 53, .int .u8 39, .int .u8 33, .int .u8 30, .int .u8 24, .int .u8 18, .int .u8 12, .int .u8 5, .int .u8 63, .int .u8 55, .int .u8 48, .int .u8 27, .int .u8 60, .int .u8 41, .int .u8 37, .int .u8 16, .int .u8 46, .int .u8 35, .int .u8 44, .int .u8 21, .int .u8 52, .int .u8 32, .int .u8 23, .int .u8 11, .int .u8 54, .int .u8 26, .int .u8 40, .int .u8 15, .int .u8 34, .int .u8 20, .int .u8 31, .int .u8 10, .int .u8 25, .int .u8 14, .int .u8 19, .int .u8 9, .int .u8 13, .int .u8 8, .int .u8 7, .int .u8 6] t frozen
      | o => o)).modify 0 (fun
      | .cells _ t frozen => .cells #[.int .u64 1, .int .u64 10, .int .u64 100, .int .u64 1000, .int .u64 10000, .int .u64 100000, .int .u64 1000000, .int .u64 10000000, .int .u64 100000000, .int .u64 1000000000, .int .u64 10000000000, .int .u64 100000000000, .int .u64 1000000000000, .int .u64 10000000000000, .int .u64 100000000000000, .int .u64 1000000000000000, .int .u64 10000000000000000, .int .u64 100000000000000000, .int .u64 1000000000000000000, .int .u64 10000000000000000000] t frozen
      | o => o))}
theorem laid_met (os : Os) : laidMet Tryd.prog Rows.fnRulingsRow.laid ((laidWorld os).forCall (fun _ _ => 0) ⟨#[], #[.slice none 0 0], []⟩).memory :=
  laidMet_of_run' 8 (by kernel_rfl) (by kernel_rfl)
theorem reads (os : Os) {H : Type} (enc : TypeId × Value → H) : ∃ places, DataW.whole enc Tryd.prog ((laidWorld os).forCall (fun _ _ => 0) ⟨#[], #[.slice none 0 0], []⟩).memory Tryd.f4.params.toList Rows.fnRulingsSpec.vars false (#[.slice none 0 0] : Array Value).toList 8 = some ([.nil], [], places) :=
  ⟨[], by kernel_rfl⟩

set_option maxRecDepth 100000 in
theorem lifted (os : Os) (started : os.Started) (H : Type) (enc : TypeId × Value → H) (F : Stop.Interp) :
    ReturnsInHanded {} Tryd.checked os 4 .any ((OpenSpec.ofChange Rows.fnRulingsSpec).preRow enc Tryd.prog Tryd.f4 Rows.fnRulingsRow.domain false Rows.fnRulingsRow.laid) (((OpenSpec.ofChange Rows.fnRulingsSpec).at F).post enc Tryd.prog Tryd.f4 false true false false) := by
  obtain ⟨places, hx⟩ := reads os enc
  refine returnsInHanded_of_row (C := Tryd.checked) (s := OpenSpec.ofChange Rows.fnRulingsSpec) own started (by kernel_rfl) Tryd.func4
    (witness_row_at (enc := enc) (C := Tryd.checked) false (laidWorld os) #[.slice none 0 0] rfl (by kernel_rfl) (by kernel_rfl) (by kernel_rfl)
      (OpenSpec.preRow_of_cond 8 hx (by kernel_rfl) (fun k hk => by cases hk) (by kernel_rfl) (laid_met os))) ?_
  intro W base args ds gs before hval0 hW _ _ _ hL _ _
  have hval : ∀ (j : Nat) t v, Tryd.f4.params[j]? = some t → args[j]? = some v → Value.okWide Tryd.prog W .any base t v := hval0
  have hW' := hW
  obtain ⟨p, q, hA0, hV, rfl, hfz, hnd⟩ := hW
  have hA : DataW.TrodAll enc Tryd.prog W 0 (fun _ => true) true Tryd.f4.params.toList args.toList ds p := hA0
  rw [Tryd.params4] at hA hval
  obtain ⟨v0, vs0, d0, ds0, p0, q0, hargs, rfl, rfl, h0, r0⟩ := trodAll_cons hA
  obtain ⟨rfl, rfl, rfl⟩ := trodAll_nil r0
  obtain rfl : args = #[v0] := by cases args; simp_all
  obtain ⟨rfl, rfl⟩ := trodVars_none hV
  obtain ⟨a0, len0, cap0, rfl⟩ := okWide_slice Tryd.underlying28 (hval 0 28 v0 rfl rfl)
  have k0 := h0
  have lt0 : ∀ x ∈ p0, x.block < W.heap.size := by obtain ⟨m, hm⟩ := k0; exact DataW.trod_lt m _ _ _ hm
  obtain ⟨z0, w0⟩ : ∃ zs, IsRow .u8 W a0 len0 cap0 zs := by
    obtain ⟨fuel, hf⟩ := h0
    rcases open_ints Tryd.underlying28 Tryd.underlying5 (by kernel_rfl) hf with ⟨hcs, _⟩ | ⟨x, l, c, zs, hcs, _, hl, hm, hz, _, hcell, hwz⟩
    · simp [Value.cells] at hcs
      obtain ⟨rfl, rfl, rfl⟩ := hcs
      exact ⟨[], .inl ⟨rfl, rfl, rfl, rfl⟩⟩
    · simp [Value.cells] at hcs
      obtain ⟨rfl, rfl, rfl⟩ := hcs
      exact ⟨zs, .inr ⟨_, rfl, hl, hm, by simpa using hz, hcell, hwz⟩⟩
  clear hA0 hval0
  refine (walk a0 len0 cap0 z0 W w0 (table hL)).mono fun e W' ⟨he, bel⟩ => ?_
  subst he
  exact ⟨_, rfl, _, _, _, [], _, [], hW', trodAll_mk1 (shut_bool Tryd.underlying4 _), (trodAll_cons_mk (Below.trod laidOut (by kernel_rfl) (of_decide_eq_true (by kernel_rfl)) k0 bel lt0) trodAll_mk0), rfl, bel.frame _, fun h => by cases h⟩

theorem over : Rows.FnRulingsSaid :=
  OpenClaim.holds_of_cond 4 Tryd.f4 rfl rfl rfl rfl rfl rfl rfl ⟨rfl, rfl, rfl, rfl, rfl⟩ rfl rfl rfl rfl rfl (by kernel_rfl) Tryd.func4 (by kernel_rfl)
    (of_decide_eq_true (by kernel_rfl)) (by unfold Func.isWrapper; first | (rw [if_pos (by decide +kernel)]; kernel_rfl) | (rw [if_neg (by decide +kernel)]; exact ⟨rfl, rfl⟩))
    (fun os started H enc _ F => by rw [OpenClaim.pre_eq_preRow]; exact lifted os started H enc F)

theorem plain (f : FuncId) (fn : Func) (hf : Tryd.pinned.checked.prog.funcNamed "loop.example/g00887/laws.FnRulings" = some f) (hfn : Tryd.pinned.checked.prog.funcs[f]? = some fn) :
    false = Tryd.pinned.checked.prog.looks [] ∧ ∀ (j : Nat) t, fn.params[j]? = some t → Tryd.pinned.checked.prog.wantsStandIn t = false := by
  obtain rfl : f = 4 := Option.some.inj ((show Tryd.prog.funcNamed "loop.example/g00887/laws.FnRulings" = some 4 by kernel_rfl).symm.trans hf) |>.symm
  obtain rfl : fn = Tryd.f4 := (Option.some.inj (Tryd.func4.symm.trans hfn)).symm
  refine ⟨by kernel_rfl, fun j t ht => ?_⟩
  rw [Tryd.params4] at ht
  have ht' := Array.mem_of_getElem? ht
  simp only [List.mem_toArray, List.mem_cons, List.not_mem_nil, or_false] at ht'
  subst ht'
  exact (show Tryd.prog.wantsStandIn 28 = false by kernel_rfl)

/-- THE CARD -/
theorem proved : Rows.FnRulingsCardSaid :=
  Claim7.holds_tied_plain_at .later [] _ _ _ _ over (fun _ h => by cases h) (by kernel_rfl) (fun _ h => by cases h) fnRulings_row_tie rfl ⟨rfl, rfl⟩ (by kernel_rfl) rfl plain (by kernel_rfl)
#print axioms proved
end Go.Proofs.YteacjoemlobmoaaDoor.fnRulings
