/- The law FnOpenTime: for every input the call returns true, and each argument reads afterwards as it read before. No condition. -/
import Derived.Test.YtghpaegabppeaaaOpen
import Derived.Test.YtghpaegabppeaaaDW2
import Derived.Test.YtghpaegabppeaaaDice
import Derived.Test.YtghpaegabppeaaaRows
import Derived.WalkKit
import Derived.ProofKit
import Derived.OpenShut
import Derived.ShutString
import Derived.ChangeOld
import Derived.Below
namespace Go.Proofs.Ytghpaegabppeaaa.fnOpenTime
open Go.ChangeShapes Go.WideShapes Go.ChangeAt Go.RowKit
open Go.ChangeMaps (open_string shut_string)
set_option linter.unusedVariables false

theorem own : ownKnob Try.prog.godebug = none := by kernel_rfl
theorem laidOut : laidOutB Try.prog = true := by kernel_rfl

/-- WHAT THE WALK IS TOLD OF A SLICE OF INTEGERS THAT CAME IN: it is nil; or it leads to a row of 'cap' cells, the numbers 'zs' (the first 'len' are its elements, the rest its spare room), each fitting its kind. -/
def IsRow (k : IntKind) (w : World) (a : Option Addr) (len cap : Nat) (zs : List Int) : Prop :=
  (a = none ∧ len = 0 ∧ cap = 0 ∧ zs = []) ∨
  ∃ x, a = some x ∧ len ≤ cap ∧ cap ≤ maxLen ∧ zs.length = cap ∧ (∀ i, i < zs.length → w.cell? (x.add i) = some (.int k (zs.getD i 0))) ∧ ∀ n ∈ zs, (Lit.int k n).wf = true

/-! ### STEP 1: THE WALK: the Go text returns true, AND WRITES NOTHING THAT WAS THERE: 'Below w.heap.size w w'' (Derived/Below.lean: '.refl', '.alloc', '.drew', '.setCell' at a new block, '.trans'). Open each 'IsRow' by 'rcases' AHEAD of 'go_enter'; part every test ahead of the walk. -/
set_option maxRecDepth 100000 in
set_option maxHeartbeats 8000000 in
theorem walk (a0 : Option Addr) (len0 cap0 : Nat) (z0 : List Int) (w : World) (w0 : IsRow .u8 w a0 len0 cap0 z0) :
    Calls Try.prog 10 #[.slice a0 len0 cap0] w fun e w' => e = .returned (.bool true) ∧ Below w.heap.size w w' := by
  obtain ⟨hc, hb⟩ := code_of w0
  by_cases hbig : 4096 < len0
  · go_enter Try.func10, Try.ntmps10
    go_wp2
    go_ret
    exact ⟨rfl, Below.refl _ _⟩
  obtain ⟨n, xs, f, t, n5, f0, f1, t0, t1, hD⟩ := drawOpenTime_ex len0 _ (by omega) hb
  replace hD := Lib.hid hD
  have hbc := Lib.hid hb
  clear hb w0
  go_enter Try.func10, Try.ntmps10
  go_wp2_with (first | (go_at_call 28; go_in) | fail)
  refine (hD.out _ _ _ hc).mono ?_
  rintro e w1 ⟨A1, c1, rfl, hI1, hb1⟩
  have hc1 := Lib.hid ((hc.below hb1).more hb1.size)
  replace hI1 := Lib.hid hI1
  clear hc
  go_wp2_with fail
  refine (openTime_any _ _ _ _ _ _ _ _ hI1.out (Nat.le_refl _) (by omega)).mono ?_
  rintro e w2 ⟨rfl, hb2⟩
  have hc2 := Lib.hid ((hc1.out.below hb2).more hb2.size)
  clear hc1 hI1
  go_wp2_with fail
  refine (hD.out _ _ _ hc2.out).mono ?_
  rintro e w3 ⟨A3, c3, rfl, hI3, hb3⟩
  have hc3 := Lib.hid ((hc2.out.below hb3).more hb3.size)
  replace hI3 := Lib.hid hI3
  clear hc2 hD
  go_wp2_with fail
  refine (sOpenTime_any _ _ _ _ _ _ _ _ hI3.out (Nat.le_refl _) (by omega)).mono ?_
  rintro e w4 ⟨rfl, hb4⟩
  have hI4 := Lib.hid ((hI3.out.below hb4).more hb4.size)
  have hc4 := Lib.hid ((hc3.out.below hb4).more hb4.size)
  have z1 := hb1.size
  have z2 := hb2.size
  have z3 := hb3.size
  have z4 := hb4.size
  have hbb : Below w.heap.size w w4 := hb1.trans ((hb2.mono (by omega)).trans ((hb3.mono (by omega)).trans (hb4.mono (by omega))))
  clear hb1 hb2 hb3 hb4 hI3 hc3
  have hzz := hbb.size
  go_wp2_with fail
  refine (isWindows_any _ _ _ _ _ _ hI4.out (Nat.le_refl _) (by omega)).mono ?_
  rintro e w5 ⟨rfl, hb5⟩
  have hI5 := Lib.hid ((hI4.out.below hb5).more hb5.size)
  have hc5 := Lib.hid ((hc4.out.below hb5).more hb5.size)
  have z5 := hb5.size
  clear hI4 hc4
  go_wp2_with fail
  refine (sIsWindows_any _ _ _ _ _ _ hI5.out (Nat.le_refl _) (by omega)).mono ?_
  rintro e w6 ⟨rfl, hb6⟩
  have hI6 := Lib.hid ((hI5.out.below hb6).more hb6.size)
  have hc6 := Lib.hid ((hc5.out.below hb6).more hb6.size)
  have z6 := hb6.size
  have hbb6 : Below w.heap.size w w6 := hbb.trans ((hb5.mono (by omega)).trans (hb6.mono (by omega)))
  clear hb5 hb6 hbb hI5 hc5
  by_cases hL : isL n xs = true
  · by_cases hft : 0 ≤ f ∧ f ≤ t ∧ t ≤ 1000000000
    · have e1 : otV n xs f t = (openV xs f t n, 0) := by unfold otV; rw [if_pos hL, if_pos hft]
      obtain ⟨q0, q1, q2⟩ := hft
      have hno := no_law (t := t) hL q0 (by omega)
      go_wp2_with fail
      refine (roll_any _ _ _ _ _ _ _ hc6.out (Nat.le_refl _) (by omega)).mono ?_
      rintro e w7 ⟨rfl, hd7, hb7⟩
      have z7 := hb7.size
      go_wp2_with fail
      refine (below_any _ _ _ _ _ _ _ _ (hc6.out.below hb7) (Nat.le_refl _) (by omega) hbc.out hd7 (by omega) (by omega)).mono ?_
      rintro e w8 ⟨r, rfl, r0, r1, _, hg8⟩
      have hb8 : Below w6.heap.size w6 w8 := hb7.trans (below_only hg8 z7 (fun k e => by injection e with e; omega))
      have z8 := hb8.size
      have hI8 := Lib.hid ((hI6.out.below hb8).more z8)
      have hbb8 : Below w.heap.size w w8 := hbb6.trans (hb8.mono (by omega))
      clear hb7 hd7 hg8 hb8 hbb6 hI6 hc6
      have hadd := openV_add hL (f := f) (m := f + r) (t := t) (by omega) (by omega) n (Nat.le_refl _)
      have o1 : otV n xs f (f + r) = (openV xs f (f + r) n, 0) := by unfold otV; rw [if_pos hL, if_pos (by omega)]
      have o2 : otV n xs (f + r) t = (openV xs (f + r) t n, 0) := by unfold otV; rw [if_pos hL, if_pos (by omega)]
      have b1 := openV_bd (f := f) (t := f + r) hL q0 (by omega) n (Nat.le_refl _)
      have b2 := openV_bd (f := f + r) (t := t) hL (by omega) (by omega) n (Nat.le_refl _)
      generalize openV xs f (f + r) n = a at hadd o1 b1
      generalize openV xs (f + r) t n = b at hadd o2 b2
      go_wp2_with fail
      refine (openTime_any _ _ _ _ _ _ _ _ hI8.out (Nat.le_refl _) (by omega)).mono ?_
      rintro e w9 ⟨rfl, hb9⟩
      have hI9 := Lib.hid ((hI8.out.below hb9).more hb9.size)
      have z9 := hb9.size
      clear hI8
      go_wp2_with fail
      refine (openTime_any _ _ _ _ _ _ _ _ hI9.out (Nat.le_refl _) (by omega)).mono ?_
      rintro e w10 ⟨rfl, hb10⟩
      have hI10 := Lib.hid ((hI9.out.below hb10).more hb10.size)
      have z10 := hb10.size
      clear hI9
      go_wp2_with fail
      refine (nextOpening_any _ _ _ _ _ _ _ hI10.out (Nat.le_refl _) (by omega)).mono ?_
      rintro e w11 ⟨rfl, hb11⟩
      have hI11 := Lib.hid ((hI10.out.below hb11).more hb11.size)
      have z11 := hb11.size
      have hbb11 : Below w.heap.size w w11 := hbb8.trans ((hb9.mono (by omega)).trans ((hb10.mono (by omega)).trans (hb11.mono (by omega))))
      clear hI10 hb9 hb10 hb11 hbb8
      rcases hno with ⟨e2, e3⟩ | ⟨s, e2, s0, s1, e3, e4⟩
      · rw [e3] at hadd
        replace hadd : a + b = 0 := hadd.symm
        go_wp2
        go_ret
        exact ⟨rfl, hbb11⟩
      · go_wp2_with fail
        refine (isOpenAt_any _ _ _ _ _ _ _ hI11.out (Nat.le_refl _) (by omega)).mono ?_
        rintro e w12 ⟨rfl, hb12⟩
        have hI12 := Lib.hid ((hI11.out.below hb12).more hb12.size)
        have z12 := hb12.size
        go_wp2_with fail
        refine (openTime_any _ _ _ _ _ _ _ _ hI12.out (Nat.le_refl _) (by omega)).mono ?_
        rintro e w13 ⟨rfl, hb13⟩
        have hbb13 : Below w.heap.size w w13 := hbb11.trans ((hb12.mono (by omega)).trans (hb13.mono (by omega)))
        clear hb12 hb13 hbb11 hI11 hI12
        go_wp2
        go_ret
        exact ⟨rfl, hbb13⟩
    · have e1 : otV n xs f t = (0, 2) := by unfold otV; rw [if_pos hL, if_neg hft]
      go_wp2
      go_ret
      exact ⟨rfl, hbb6⟩
  · have e1 : otV n xs f t = (0, 1) := by unfold otV; rw [if_neg hL]
    go_wp2
    go_ret
    exact ⟨rfl, hbb6⟩

/-! ### THE ROW's STEP: WRITTEN OUT: LEAVE IT -/
set_option maxRecDepth 100000 in
theorem lifted (os : Os) (started : os.Started) (H : Type) (enc : TypeId × Value → H) :
    ReturnsInHanded {} Try.checked os 10 .any (Rows.fnOpenTimeSpec.pre6 enc Try.prog Try.f10 Rows.fnOpenTimeRow.domain false) (Rows.fnOpenTimeSpec.post enc Try.prog Try.f10 false true false false) := by
  refine returnsInHanded_of_change (C := Try.checked) own started (by kernel_rfl) Try.func10
    (ChangeSpec.witness6 (enc := enc) (C := Try.checked) false ⟨#[], #[.slice none 0 0], []⟩ 8 (by kernel_rfl) (by kernel_rfl) (by kernel_rfl) (by kernel_rfl)) ?_
  intro W base args ds gs before hval0 hW hcnd _
  have hval : ∀ (j : Nat) t v, Try.f10.params[j]? = some t → args[j]? = some v → Value.okWide Try.prog W .any base t v := hval0
  have hW' := hW
  obtain ⟨p, q, hA0, hV, rfl, hfz, hnd⟩ := hW
  have hA : DataW.TrodAll enc Try.prog W 0 (fun _ => true) true Try.f10.params.toList args.toList ds p := hA0
  rw [Try.params10] at hA hval
  obtain ⟨v0, vs0, d0, ds0, p0, q0, hargs, rfl, rfl, h0, r0⟩ := trodAll_cons hA
  obtain ⟨rfl, rfl, rfl⟩ := trodAll_nil r0
  obtain rfl : args = #[v0] := by cases args; simp_all
  obtain ⟨rfl, rfl⟩ := trodVars_none hV
  obtain ⟨a0, len0, cap0, rfl⟩ := okWide_slice Try.underlying38 (hval 0 38 v0 rfl rfl)
  have k0 := h0
  have lt0 : ∀ x ∈ p0, x.block < W.heap.size := by obtain ⟨m, hm⟩ := k0; exact DataW.trod_lt m _ _ _ hm
  obtain ⟨z0, w0⟩ : ∃ zs, IsRow .u8 W a0 len0 cap0 zs := by
    obtain ⟨fuel, hf⟩ := h0
    rcases open_ints Try.underlying38 Try.underlying5 (by kernel_rfl) hf with ⟨hcs, _⟩ | ⟨x, l, c, zs, hcs, _, hl, hm, hz, _, hcell, hwz⟩
    · simp [Value.cells] at hcs
      obtain ⟨rfl, rfl, rfl⟩ := hcs
      exact ⟨[], .inl ⟨rfl, rfl, rfl, rfl⟩⟩
    · simp [Value.cells] at hcs
      obtain ⟨rfl, rfl, rfl⟩ := hcs
      exact ⟨zs, .inr ⟨_, rfl, hl, hm, by simpa using hz, hcell, hwz⟩⟩
  clear hA0 hval0
  refine (walk a0 len0 cap0 z0 W w0).mono fun e W' ⟨he, bel⟩ => ?_
  subst he
  exact ⟨_, rfl, _, _, _, [], _, [], hW', trodAll_mk1 (shut_bool Try.underlying4 _), (trodAll_cons_mk (Below.trod laidOut (by kernel_rfl) (of_decide_eq_true (by kernel_rfl)) k0 bel lt0) trodAll_mk0), rfl, bel.frame _, fun h => by cases h⟩

theorem over : Rows.fnOpenTimeRow.holds Try.pinned (OpenSpec.ofChange Rows.fnOpenTimeSpec) :=
  OpenClaim.holds_of_wide 10 Try.f10 rfl rfl rfl rfl rfl rfl rfl ⟨rfl, rfl, rfl, rfl, rfl⟩ rfl rfl rfl rfl rfl (by kernel_rfl) Try.func10 (by kernel_rfl)
    (of_decide_eq_true (by kernel_rfl)) (by unfold Func.isWrapper; first | (rw [if_pos (by decide +kernel)]; kernel_rfl) | (rw [if_neg (by decide +kernel)]; exact ⟨rfl, rfl⟩))
    (fun os started H enc _ => lifted os started H enc)

/-- THE STATEMENT -/
theorem proved : Rows.FnOpenTimeSaid := over
#print axioms proved
end Go.Proofs.Ytghpaegabppeaaa.fnOpenTime
