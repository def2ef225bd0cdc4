/- The law FnMet: for every input the call returns true, and each argument reads afterwards as it read before. No condition. -/
import Derived.Test.YtcilgohjeobamaaMet
import Derived.Test.YtcilgohjeobamaaRows
import Derived.WalkKit
import Derived.ProofKit
import Derived.OpenShut
import Derived.ShutString
import Derived.ChangeOld
import Derived.Below
namespace Go.Proofs.Ytcilgohjeobamaa.fnMet
open Go.ChangeShapes Go.WideShapes Go.ChangeAt Go.RowKit
open Go.ChangeMaps (open_string shut_string)
set_option linter.unusedVariables false

theorem own : ownKnob Try.prog.godebug = none := by kernel_rfl
theorem laidOut : laidOutB Try.prog = true := by kernel_rfl

/-- WHAT THE WALK IS TOLD OF A SLICE OF INTEGERS THAT CAME IN: it is nil; or it leads to a row of 'cap' cells, the numbers 'zs' (the first 'len' are its elements, the rest its spare room), each fitting its kind. -/
def IsRow (k : IntKind) (w : World) (a : Option Addr) (len cap : Nat) (zs : List Int) : Prop :=
  (a = none ∧ len = 0 ∧ cap = 0 ∧ zs = []) ∨
  ∃ x, a = some x ∧ len ≤ cap ∧ cap ≤ maxLen ∧ zs.length = cap ∧ (∀ i, i < zs.length → w.cell? (x.add i) = some (.int k (zs.getD i 0))) ∧ ∀ n ∈ zs, (Lit.int k n).wf = true

/-! ### STEP 1: THE WALK: the Go text returns true, AND WRITES NOTHING THAT WAS THERE: 'Below w.heap.size w w'' (Derived/Below.lean: '.refl', '.alloc', '.drew', '.setCell' at a new block, '.trans'). Open each 'IsRow' by 'rcases' AHEAD of 'go_enter'; part every test ahead of the walk. -/
set_option maxRecDepth 100000 in
set_option maxHeartbeats 8000000 in
theorem walk (a0 : Option Addr) (len0 cap0 : Nat) (z0 : List Int) (w : World) (w0 : IsRow .u8 w a0 len0 cap0 z0) :
    Calls Try.prog 4 #[.slice a0 len0 cap0] w fun e w' => e = .returned (.bool true) ∧ Below w.heap.size w w' := by
  obtain ⟨hc, hb⟩ := code_of w0
  by_cases hbig : 4096 < len0
  · go_enter Try.func4, Try.ntmps4
    go_wp2
    go_ret
    exact ⟨rfl, Below.refl _ _⟩
  obtain ⟨F, D, hD⟩ := drawIsMet_ex len0 _ (by omega) hb
  obtain ⟨D2, hD2⟩ := drawIsDemands_ex len0 _ (by omega) hb
  replace hD := Lib.hid hD
  replace hD2 := Lib.hid hD2
  replace hb := Lib.hid hb
  clear w0
  unfold DrewM at hD
  unfold DrewN at hD2
  obtain ⟨nF, hnF⟩ : ∃ z, F.length = z := ⟨_, rfl⟩
  rw [hnF] at hD
  obtain ⟨n, hn⟩ : ∃ z, lenD D 0 = z := ⟨_, rfl⟩
  rw [hn] at hD
  generalize facD D 0 = xs at hD
  generalize outD D 0 = o at hD
  obtain ⟨nd, hnd⟩ : ∃ z, D2.length = z := ⟨_, rfl⟩
  rw [hnd] at hD2
  generalize lenD D2 = fl at hD2
  generalize facD D2 = fx at hD2
  generalize outD D2 = o2 at hD2
  clear hnF hn hnd
  obtain ⟨q, hq⟩ : ∃ q, miV (fun j => F.getD j 0) nF o n xs = q := ⟨_, rfl⟩
  obtain ⟨dv, hdv⟩ : ∃ v, dmsB nd fl fx o2 = v := ⟨_, rfl⟩
  replace hq := Lib.hid hq
  replace hdv := Lib.hid hdv
  go_enter Try.func4, Try.ntmps4
  go_wp2_with (first | (go_at_call 16; go_in) | fail)
  refine (hD.out _ _ _ hc).mono ?_
  rintro e w1 ⟨A1, Ad1, c1, cd1, rfl, nF8, hI1, hn1, hnc1, hX1, -, -, hb1⟩
  unfold maxLen at hn1
  have hc0 := Lib.hid hc
  clear hc
  have hbA : Below w1.heap.size w1 (w1.alloc (.cells #[.slice Ad1 n cd1, .int .i64 o] 33)) := (Below.refl _ _).alloc (Nat.le_refl _) _
  have hG1 := Whole.new w1 33 #[.slice Ad1 n cd1, .int .i64 o]
  go_wp2_with fail
  refine (isMetF_any _ _ _ _ _ _ _ _ (fun j => F.getD j 0) xs o _ (hI1.below hbA) hbA.size (by omega) (hX1.below hbA) hbA.size (by omega) hnc1 q hq.out).mono ?_
  rintro e w2 ⟨rfl, hb2⟩
  have hG2 := hG1.below hb2 hG1.lt
  have z1 := hb1.size
  have z2 := hb2.size
  simp only [World.size_alloc] at z2
  have hbb2 : Below w.heap.size w w2 := hb1.trans ((hbA.mono z1).trans (hb2.mono (by simp; omega)))
  clear hI1 hX1 hb1 hb2 hbA hG1
  go_wp2_with fail
  refine (hD.out _ _ _ ((hc0.out.below hbb2).more hbb2.size)).mono ?_
  rintro e w3 ⟨A3, Ad3, c3, cd3, rfl, -, hI3, -, hnc3, hX3, hl3, hld3, hb3⟩
  have z3 := hb3.size
  have hG3 := hG2.below hb3 (by omega)
  have r0 := hG3.cell 0
  have r1 := hG3.cell 1
  have f0 := hG3.frz 0
  have f1 := hG3.frz 1
  simp at r0 r1
  have hGF := (hG3.put 0 (.slice Ad3 n cd3)).put 1 (.int .i64 o)
  simp only [List.setIfInBounds_toArray, List.set_cons_zero, List.set_cons_succ] at hGF
  have hIF := ints_put2 (g := w1.heap.size) hI3 (fun p e => by have := hl3 p e; omega) (.slice Ad3 n cd3) (.int .i64 o)
  have hXF := ints_put2 (g := w1.heap.size) hX3 (fun p e => by have := hld3 p e; omega) (.slice Ad3 n cd3) (.int .i64 o)
  have hbbF : Below w.heap.size w ((w3.setCell ⟨w1.heap.size, 0, none⟩ (.slice Ad3 n cd3)).setCell ⟨w1.heap.size, 1, none⟩ (.int .i64 o)) := ((hbb2.trans (hb3.mono hbb2.size)).setCell (by simp; omega) _).setCell (by simp; omega) _
  replace hGF := Lib.hid hGF
  replace hIF := Lib.hid hIF
  replace hXF := Lib.hid hXF
  clear hG3 hI3 hX3 hl3 hld3 hb3 hbb2 hG2 hD
  have hd2 := hD2.out a0 cap0 _ ((hc0.out.below hbbF).more hbbF.size)
  replace hbbF := Lib.hid hbbF
  go_wp2_with fail
  refine hd2.mono ?_
  rintro e w4 ⟨AD, cd, fa, fc, rfl, nd4, hM4, hb4⟩
  have z4 := hb4.size
  simp only [World.size_setCell] at z4
  have hG4 := hGF.out.below hb4 (by simp; omega)
  have hI4 := Lib.hid ((hIF.out.below (hb4.mono (by simp))).more z4)
  have hX4 := Lib.hid ((hXF.out.below (hb4.mono (by simp))).more z4)
  have hbb4 : Below w.heap.size w w4 := hbbF.out.trans (hb4.mono (by simp; omega))
  replace hM4 := Lib.hid hM4
  clear hGF hIF hXF hb4 hbbF hd2 hD2 r0 r1 f0 f1
  have d0 := hG4.cell 0
  have d1 := hG4.cell 1
  simp at d0 d1
  have hg1l := hG4.lt
  go_wp2_with fail
  refine (sIsMetF_any _ _ _ _ _ _ _ _ (fun j => F.getD j 0) xs o w4 hI4.out (Nat.le_refl _) (by omega) hX4.out (Nat.le_refl _) (by omega) q hq.out).mono ?_
  rintro e w5 ⟨rfl, hb5⟩
  have z5 := hb5.size
  have hG5 := hG4.below hb5 hg1l
  have hI5 := Lib.hid ((hI4.out.below hb5).more z5)
  have hX5 := Lib.hid ((hX4.out.below hb5).more z5)
  have hM5 := Lib.hid ((hM4.out.below hb5).more z5)
  have hbb5 : Below w.heap.size w w5 := hbb4.trans (hb5.mono (by omega))
  clear hI4 hX4 hM4 hb5 hbb4 hG4 d0 d1
  go_wp2_with fail
  refine (isDemands_val _ _ _ _ _ _ _ _ _ w5 dv hdv hM5.out (Nat.le_refl _) (by unfold maxLen; omega)).mono ?_
  rintro e w6 ⟨rfl, hb6⟩
  have z6 := hb6.size
  have hG6 := hG5.below hb6 (by omega)
  have hI6 := Lib.hid ((hI5.out.below hb6).more z6)
  have hX6 := Lib.hid ((hX5.out.below hb6).more z6)
  have hM6 := Lib.hid ((hM5.out.below hb6).more z6)
  have hbb6 : Below w.heap.size w w6 := hbb5.trans (hb6.mono (by omega))
  clear hI5 hX5 hM5 hb6 hbb5 hG5
  go_wp2_with fail
  refine (sIsDemands_val _ _ _ _ _ _ _ _ _ w6 dv hdv hM6.out (Nat.le_refl _) (by unfold maxLen; omega)).mono ?_
  rintro e w7 ⟨rfl, hb7⟩
  have z7 := hb7.size
  have hG7 := hG6.below hb7 (by omega)
  have hI7 := Lib.hid ((hI6.out.below hb7).more z7)
  have hX7 := Lib.hid ((hX6.out.below hb7).more z7)
  have hbb7 : Below w.heap.size w w7 := hbb6.trans (hb7.mono (by omega))
  clear hI6 hX6 hM6 hb7 hbb6 hG6
  have d0 := hG7.cell 0
  have d1 := hG7.cell 1
  simp at d0 d1
  have hzz := hbb7.size
  have hg7 := hG7.lt
  cases q with
  | false =>
    go_wp2
    go_ret
    exact ⟨rfl, hbb7⟩
  | true =>
  rcases Nat.eq_zero_or_pos n with hn0 | hn0
  · subst hn0
    go_wp2
    go_ret
    exact ⟨rfl, hbb7⟩
  have hn9 : ((n : Int) == 0) = false := by rw [beq_eq_false_iff_ne]; omega
  have hf8 : n ≤ 8 := fokB_le (by have h := hq.out; unfold miV at h; simp only [Bool.and_eq_true] at h; exact dmB_f h.1.2)
  obtain ⟨bx, ox, rfl, hbx, hcx⟩ := hX7.out hn0
  obtain ⟨j0, hj, hy0', hy1', hy2'⟩ := info_parts infoInt64
  replace hj := Lib.hid hj
  replace hy0' := Lib.hid hy0'
  replace hy1' := Lib.hid hy1'
  replace hy2' := Lib.hid hy2'
  have hE7 : (w7.alloc (.cells #[] 2)).ownsRow w7.heap.size 2 1 (.slice (some ⟨w7.heap.size, 0, none⟩) 0 0) 0 (([] : List Int).map (Value.int .i64)) := own_empty (Whole.new _ _ _) (Nat.le_refl _)
  have hnews : ∀ j u, ((zsN n xs).map (Value.int .i64))[j]? = some u → (w7.alloc (.cells #[] 2)).cell? ((⟨bx, ox, none⟩ : Addr).add j) = some u := by
    intro j u hu
    rw [List.getElem?_map] at hu
    have hj : j < n := by
      rcases Nat.lt_or_ge j n with h | h
      · exact h
      · rw [List.getElem?_eq_none (by rw [zsN_len]; exact h)] at hu
        cases hu
    rw [List.getElem?_eq_getElem (by rw [zsN_len]; exact hj)] at hu
    injection hu with hu
    have hg := zsN_get n xs j hj
    rw [List.getD_eq_getElem?_getD, List.getElem?_eq_getElem (by rw [zsN_len]; exact hj)] at hg
    have hg : (zsN n xs)[j]'(by rw [zsN_len]; exact hj) = xs j := hg
    rw [hg] at hu
    rw [show ((⟨bx, ox, none⟩ : Addr).add j) = ⟨bx, ox + j, none⟩ from Go.WideShapes.add_plain _ _ _]
    rw [World.cell?_of_block ((((Below.refl w7.heap.size w7).alloc (Nat.le_refl _) (.cells #[] 2))).block bx hbx), hcx j hj, hu]
  replace hnews := Lib.hid hnews
  go_wp2_with (at_builtin; refine wpList_append_own_at _ rfl _ _ 31 rfl w7.heap.size 2 j0 _ 1 8 Try.underlying31 hj.out hy0'.out hy1'.out hy2'.out rfl (by decide) _ _ _ rfl hE7 ⟨bx, ox, none⟩ n cd3 ((zsN n xs).map (Value.int .i64)) rfl ?c1 hnews.out ?c2 ?c3 ?c4 ?c5 ?_)
  case c1 => rw [List.length_map, zsN_len, Nat.mul_one]
  case c2 =>
    intro u hu
    rw [List.mem_map] at hu
    obtain ⟨z, _, rfl⟩ := hu
    rfl
  case c3 => simp only [maxLen]; omega
  case c4 => omega
  case c5 => simp
  intro v' w8 hown' hgrow _ hat
  have hown8 : w8.ownsRow w7.heap.size 2 1 v' n ((zsN n xs).map (Value.int .i64)) := by simpa using hown'
  have hrow : (Value.slice (some ⟨w7.heap.size, 0, none⟩) 0 0).ownBlock = some w7.heap.size := rfl
  rw [hrow] at hgrow
  have z8 := hgrow.size
  simp only [World.size_alloc] at z8
  have hG8 := (hG7.alloc (.cells #[] 2)).grown hgrow (fun e => by injection e with e; omega)
  have hI8 := (hI7.out.below ((Below.refl w7.heap.size w7).alloc (Nat.le_refl _) (.cells #[] 2))).only hgrow (by simp) (fun g e => by injection e with e; omega)
  have hbb8 : Below w.heap.size w w8 := (hbb7.alloc (by omega) (.cells #[] 2)).trans (below_only hgrow (by simp; omega) (fun k e => by injection e with e; omega))
  replace hI8 := Lib.hid hI8
  obtain ⟨go, co, cuo, rfl, hgob, hWo, hnco, hcmo, -, -⟩ := own_open hown8 hn0
  have hgol := hWo.lt
  clear hown' hgrow hat hG7 hI7 hX7 hbb7 hnews hE7 hcx d0 d1 hWo
  go_wp2_with fail
  refine (roll_any _ _ _ _ _ _ _ ((hc0.out.below hbb8).more hbb8.size) (Nat.le_refl _) (by omega)).mono ?_
  rintro e w9 ⟨rfl, hX9, hb9⟩
  have z9 := hb9.size
  have hzz9 := hX9
  have hown9 := own_below hown8 hb9
  have hG9 := hG8.below hb9 (by omega)
  have hI9 := Lib.hid (hI8.out.below (hb9.mono (by omega)))
  have hbb9 : Below w.heap.size w w9 := hbb8.trans (hb9.mono hbb8.size)
  have hgdl : w8.heap.size < w9.heap.size := by obtain ⟨_, _, _, h⟩ := hX9; exact h.lt
  have z8b := hbb8.size
  clear hown8 hG8 hI8 hb9 hzz9
  go_wp2_with fail
  refine (below_any _ _ _ _ _ _ (n : Int) w9 (hc0.out.below hbb9) z8b (by omega) hb.out hX9 (by omega) (by omega)).mono ?_
  rintro e w10 ⟨r, rfl, r0, r1, -, hg10⟩
  obtain ⟨k, rfl⟩ : ∃ k : Nat, r = k := ⟨r.toNat, by omega⟩
  have hkn : k < n := by omega
  have z10 := hg10.size
  have hown10 := hown9.kept hg10 (.inr (fun e => by have e : (some go : Option Nat) = some w8.heap.size := e; injection e with e; omega))
  have hG10 := hG9.grown hg10 (fun e => by injection e with e; omega)
  have hI10 := Lib.hid (hI9.out.only hg10 (by omega) (fun g e => by injection e with e; omega))
  have hbb10 : Below w.heap.size w w10 := hbb9.trans (below_only hg10 (by omega) (fun k e => by injection e with e; omega))
  clear hown9 hG9 hI9 hX9 hg10 hbb9 hc0
  obtain ⟨hfok, hmiF⟩ := met_law (k := k) (ys := fun j => ((zsN n xs).set k (-xs k)).getD j 0) hq.out hkn (by
    rw [List.getD_eq_getElem?_getD, List.getElem?_set_self (by rw [zsN_len]; exact hkn)]
    rfl)
  have hrk := fokB_rng hfok hkn
  have yk := hown10.cellAt k (by omega)
  rw [List.getElem?_map, List.getElem?_eq_getElem (by rw [zsN_len]; exact hkn)] at yk
  have hgk := zsN_get n xs k hkn
  rw [List.getD_eq_getElem?_getD, List.getElem?_eq_getElem (by rw [zsN_len]; exact hkn)] at hgk
  have hgk : (zsN n xs)[k]'(by rw [zsN_len]; exact hkn) = xs k := hgk
  rw [hgk] at yk
  have hownS := own_putI hown10 k (-xs k)
  have hIy := Lib.hid (Ints.of_own (xs := fun j => ((zsN n xs).set k (-xs k)).getD j 0) (n := n) hownS (Nat.le_refl _) (by simp [zsN_len]) (fun j hj => (cells_of hownS).2 j (by omega)))
  obtain ⟨go2, co2, cuo2, hvo, _, hWo10, _⟩ := own_open hown10 hn0
  injection hvo with hv1 _ hv3
  injection hv1 with hv1
  injection hv1 with hv1
  subst hv1
  subst hv3
  have fk := hWo10.frz k
  have hwn : IntKind.i64.wrap (-xs k) = -xs k := by rw [IntKind.wrap_i64]; omega
  have hGS := hG10.far (p := ⟨go, k, none⟩) (by simp; omega) (.int .i64 (-xs k))
  have hIS := Lib.hid (hI10.out.only (row := some go) (only_put (only_refl w10 (some go)) k (.int .i64 (-xs k))) (by omega) (fun g e => by injection e with e; omega))
  have hbbS := hbb10.setCell (p := ⟨go, k, none⟩) (by simp; omega) (.int .i64 (-xs k))
  replace hmiF := Lib.hid hmiF
  generalize hys : (fun j => ((zsN n xs).set k (-xs k)).getD j 0) = ys at hmiF hIy
  generalize xs k = x at *
  have s1 := hGS.cell 1
  simp at s1
  clear hown10 hG10 hI10 hbb10 hownS hWo10 hGS hys
  have hcall := isMetF_any A3 (some ⟨go, 0, none⟩) nF c3 n co _ _ (fun j => F.getD j 0) ys o (w10.setCell ⟨go, k, none⟩ (.int .i64 (-x))) hIS.out (by simp; omega) (by omega) hIy.out (by simp) (by omega) hnco false hmiF.out
  replace hcall := Lib.hid hcall
  have hsz : w.heap.size ≤ (w10.setCell ⟨go, k, none⟩ (.int .i64 (-x))).heap.size := by simp; omega
  clear hIS hIy hmiF hq hrk hfok hdv
  go_wp2_with fail
  refine hcall.out.mono ?_
  rintro e w11 ⟨rfl, hb11⟩
  clear hcall
  have hfin := hbbS.trans (hb11.mono hsz)
  clear hbbS hb11 hsz
  go_wp2
  go_ret
  exact ⟨rfl, hfin⟩

/-! ### THE ROW's STEP: WRITTEN OUT: LEAVE IT -/
set_option maxRecDepth 100000 in
theorem lifted (os : Os) (started : os.Started) (H : Type) (enc : TypeId × Value → H) :
    ReturnsInHanded {} Try.checked os 4 .any (Rows.fnMetSpec.pre6 enc Try.prog Try.f4 Rows.fnMetRow.domain false) (Rows.fnMetSpec.post enc Try.prog Try.f4 false true false false) := by
  refine returnsInHanded_of_change (C := Try.checked) own started (by kernel_rfl) Try.func4
    (ChangeSpec.witness6 (enc := enc) (C := Try.checked) false ⟨#[], #[.slice none 0 0], []⟩ 8 (by kernel_rfl) (by kernel_rfl) (by kernel_rfl) (by kernel_rfl)) ?_
  intro W base args ds gs before hval0 hW hcnd _
  have hval : ∀ (j : Nat) t v, Try.f4.params[j]? = some t → args[j]? = some v → Value.okWide Try.prog W .any base t v := hval0
  have hW' := hW
  obtain ⟨p, q, hA0, hV, rfl, hfz, hnd⟩ := hW
  have hA : DataW.TrodAll enc Try.prog W 0 (fun _ => true) true Try.f4.params.toList args.toList ds p := hA0
  rw [Try.params4] at hA hval
  obtain ⟨v0, vs0, d0, ds0, p0, q0, hargs, rfl, rfl, h0, r0⟩ := trodAll_cons hA
  obtain ⟨rfl, rfl, rfl⟩ := trodAll_nil r0
  obtain rfl : args = #[v0] := by cases args; simp_all
  obtain ⟨rfl, rfl⟩ := trodVars_none hV
  obtain ⟨a0, len0, cap0, rfl⟩ := okWide_slice Try.underlying29 (hval 0 29 v0 rfl rfl)
  have k0 := h0
  have lt0 : ∀ x ∈ p0, x.block < W.heap.size := by obtain ⟨m, hm⟩ := k0; exact DataW.trod_lt m _ _ _ hm
  obtain ⟨z0, w0⟩ : ∃ zs, IsRow .u8 W a0 len0 cap0 zs := by
    obtain ⟨fuel, hf⟩ := h0
    rcases open_ints Try.underlying29 Try.underlying5 (by kernel_rfl) hf with ⟨hcs, _⟩ | ⟨x, l, c, zs, hcs, _, hl, hm, hz, _, hcell, hwz⟩
    · simp [Value.cells] at hcs
      obtain ⟨rfl, rfl, rfl⟩ := hcs
      exact ⟨[], .inl ⟨rfl, rfl, rfl, rfl⟩⟩
    · simp [Value.cells] at hcs
      obtain ⟨rfl, rfl, rfl⟩ := hcs
      exact ⟨zs, .inr ⟨_, rfl, hl, hm, by simpa using hz, hcell, hwz⟩⟩
  clear hA0 hval0
  refine (walk a0 len0 cap0 z0 W w0).mono fun e W' ⟨he, bel⟩ => ?_
  subst he
  exact ⟨_, rfl, _, _, _, [], _, [], hW', trodAll_mk1 (shut_bool Try.underlying4 _), (trodAll_cons_mk (Below.trod laidOut (by kernel_rfl) (of_decide_eq_true (by kernel_rfl)) k0 bel lt0) trodAll_mk0), rfl, bel.frame _, fun h => by cases h⟩

theorem over : Rows.fnMetRow.holds Try.pinned (OpenSpec.ofChange Rows.fnMetSpec) :=
  OpenClaim.holds_of_wide 4 Try.f4 rfl rfl rfl rfl rfl rfl rfl ⟨rfl, rfl, rfl, rfl, rfl⟩ rfl rfl rfl rfl rfl (by kernel_rfl) Try.func4 (by kernel_rfl)
    (of_decide_eq_true (by kernel_rfl)) (by unfold Func.isWrapper; first | (rw [if_pos (by decide +kernel)]; kernel_rfl) | (rw [if_neg (by decide +kernel)]; exact ⟨rfl, rfl⟩))
    (fun os started H enc _ => lifted os started H enc)

/-- THE STATEMENT -/
theorem proved : Rows.FnMetSaid := over
#print axioms proved
end Go.Proofs.Ytcilgohjeobamaa.fnMet
