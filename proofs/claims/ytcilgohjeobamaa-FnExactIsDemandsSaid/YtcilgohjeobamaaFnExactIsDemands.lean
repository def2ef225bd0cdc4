/- The law FnExactIsDemands: for every input the call returns true, and each argument reads afterwards as it read before. No condition. -/
import Derived.Test.YtcilgohjeobamaaDem3
import Derived.Test.YtcilgohjeobamaaArgsD
import Derived.Test.YtcilgohjeobamaaArgs
import Derived.Test.YtcilgohjeobamaaRows
import Derived.WalkKit
import Derived.ProofKit
import Derived.OpenShut
import Derived.Carry
import Derived.Lib.SmallJoins
namespace Go.Proofs.Ytcilgohjeobamaa.fnExactIsDemands
open Go.ChangeShapes Go.WideShapes Go.ChangeAt Go.RowKit Go.Joins
set_option linter.unusedVariables false

theorem own : ownKnob Try.prog.godebug = none := by kernel_rfl
theorem laidOut : laidOutB Try.prog = true := by kernel_rfl

/-! The walk: the Go text returns true, and writes nothing that was there. -/
set_option maxHeartbeats 4000000 in
theorem walk (a0 : Option Addr) (len0 cap0 : Nat) (fa0 : Nat → Option Addr) (fl0 fc0 : Nat → Nat) (fx0 : Nat → Nat → Int) (o0 : Nat → Int) (w : World) (m0 : len0 ≤ maxLen) (w0 : Dems w w.heap.size a0 len0 fa0 fl0 fc0 fx0 o0) :
    Calls Try.prog 3 #[.slice a0 len0 cap0] w fun e w' => e = .returned (.bool true) ∧ Below w.heap.size w w' := by
  go_enter Try.func3, Try.ntmps3
  go_wp2_with fail
  refine (szDemandS_any _ _ _ _ _ _ _ _ _ _ _ w0 (Nat.le_refl _) (by omega) (by omega) m0).mono ?_
  rintro e u1 ⟨r, rfl, hr, hb1⟩
  by_cases hr0 : r < 0
  · go_wp2
    go_ret
    exact ⟨rfl, hb1⟩
  obtain ⟨r0, r1, hn, hfl⟩ : 0 ≤ r ∧ r ≤ 1048576 ∧ len0 ≤ 1048576 ∧ ∀ i, i < len0 → fl0 i ≤ 1048576 := by
    rcases hr with h | h
    · omega
    · exact h
  clear hr hr0
  obtain ⟨v, hv⟩ : ∃ v, dmsB len0 fl0 fx0 o0 = v := ⟨_, rfl⟩
  replace hv := Lib.hid hv
  replace hfl := Lib.hid hfl
  have a1 := Lib.hid (w0.below hb1)
  have z1 := hb1.size
  clear w0
  go_wp2_with fail
  refine (toDemandS_any _ _ _ _ _ _ _ _ _ (a1.out.more z1) hn hfl.out).mono ?_
  rintro e u2 ⟨rfl, ⟨fb2, hC2⟩, hb2⟩
  have z2 := hb2.size
  have a2 := Lib.hid (a1.out.below (hb2.mono z1))
  clear a1
  have d2 := Lib.hid (hC2.dems hfl.out)
  clear hC2
  go_wp2_with fail
  refine (sIsDemands_val _ _ _ _ _ _ _ _ _ _ v hv d2.out (Nat.le_refl _) m0).mono ?_
  rintro e u3 ⟨rfl, hb3⟩
  have z3 := hb3.size
  have a3 := Lib.hid (a2.out.below (hb3.mono (by omega)))
  clear a2 d2
  go_wp2_with fail
  refine (toDemandS_any _ _ _ _ _ _ _ _ _ (a3.out.more (by omega)) hn hfl.out).mono ?_
  rintro e u4 ⟨rfl, ⟨fb4, hC4⟩, hb4⟩
  have z4 := hb4.size
  have a4 := Lib.hid (a3.out.below (hb4.mono (by omega)))
  clear a3
  have d4 := Lib.hid (hC4.dems hfl.out)
  clear hC4
  go_wp2_with fail
  refine (isDemands_val _ _ _ _ _ _ _ _ _ _ v hv d4.out (Nat.le_refl _) m0).mono ?_
  rintro e u5 ⟨rfl, hb5⟩
  have z5 := hb5.size
  have a5 := Lib.hid (a4.out.below (hb5.mono (by omega)))
  have d5 := Lib.hid ((d4.out.below hb5).more z5)
  clear a4 d4
  go_wp2_with fail
  refine (toDemandS_any _ _ _ _ _ _ _ _ _ (a5.out.more (by omega)) hn hfl.out).mono ?_
  rintro e u6 ⟨rfl, ⟨fb6, hC6⟩, hb6⟩
  have z6 := hb6.size
  have d6 := Lib.hid (hC6.dems hfl.out)
  have d5' := Lib.hid ((d5.out.below hb6).more z6)
  clear hC6 a5 d5
  unfold maxLen at m0
  go_wp2_with fail
  refine (eqDemandS_same _ _ _ _ _ _ _ _ _ _ _ _ _ _ d5'.out d6.out (Nat.le_refl _) (by omega)).mono ?_
  rintro e u7 ⟨rfl, hb7⟩
  have hbb : Below w.heap.size w u7 := hb1.trans ((hb2.mono (by omega)).trans ((hb3.mono (by omega)).trans ((hb4.mono (by omega)).trans ((hb5.mono (by omega)).trans ((hb6.mono (by omega)).trans (hb7.mono (by omega)))))))
  clear hb1 hb2 hb3 hb4 hb5 hb6 hb7 d5' d6
  go_wp2
  go_ret
  exact ⟨rfl, hbb⟩

/-! ### THE ROW's STEP -/
set_option maxRecDepth 100000 in
theorem lifted (os : Os) (started : os.Started) (H : Type) (enc : TypeId × Value → H) :
    ReturnsInHanded {} Try.checked os 3 .any (Rows.fnExactIsDemandsSpec.pre6 enc Try.prog Try.f3 Rows.fnExactIsDemandsRow.domain false) (Rows.fnExactIsDemandsSpec.post enc Try.prog Try.f3 false true false false) := by
  refine returnsInHanded_of_change (C := Try.checked) own started (by kernel_rfl) Try.func3
    (ChangeSpec.witness6 (enc := enc) (C := Try.checked) false ⟨#[], #[.slice none 0 0], []⟩ 8 (by kernel_rfl) (by kernel_rfl) (by kernel_rfl) (by kernel_rfl)) ?_
  intro W base args ds gs before hval0 hW hcnd _
  have hval : ∀ (j : Nat) t v, Try.f3.params[j]? = some t → args[j]? = some v → Value.okWide Try.prog W .any base t v := hval0
  have hW' := hW
  obtain ⟨p, q, hA0, hV, rfl, hfz, hnd⟩ := hW
  have hA : DataW.TrodAll enc Try.prog W 0 (fun _ => true) true Try.f3.params.toList args.toList ds p := hA0
  rw [Try.params3] at hA hval
  obtain ⟨v0, vs0, d0, ds0, p0, q0, hargs, rfl, rfl, h0, r0⟩ := trodAll_cons hA
  obtain ⟨rfl, rfl, rfl⟩ := trodAll_nil r0
  obtain rfl : args = #[v0] := by cases args; simp_all
  obtain ⟨rfl, rfl⟩ := trodVars_none hV
  obtain ⟨a0, len0, cap0, rfl⟩ := okWide_slice Try.underlying22 (hval 0 22 v0 rfl rfl)
  have k0 := h0
  have lt0 : ∀ x ∈ p0, x.block < W.heap.size := by obtain ⟨m, hm⟩ := k0; exact DataW.trod_lt m _ _ _ hm
  obtain ⟨m0, fa0, fl0, fc0, fx0, o0, w0⟩ : len0 ≤ maxLen ∧ ∃ (fa : Nat → Option Addr) (fl fc : Nat → Nat) (fx : Nat → Nat → Int) (o : Nat → Int), Dems W W.heap.size a0 len0 fa fl fc fx o := by
    obtain ⟨fuel, hf⟩ := h0
    simp only [Value.cells] at hf
    exact dems_of Try.underlying22 Try.underlying70 rfl rfl rfl rfl rfl rfl (by kernel_rfl) (by kernel_rfl) (by kernel_rfl) Try.underlying31 Try.underlying2 (by kernel_rfl) Try.underlying2 hf
  clear hA0 hval0
  refine (walk a0 len0 cap0 fa0 fl0 fc0 fx0 o0 W m0 w0).mono fun e W' ⟨he, bel⟩ => ?_
  subst he
  exact ⟨_, rfl, _, _, _, [], _, [], hW', trodAll_mk1 (shut_bool Try.underlying4 _), (trodAll_cons_mk (Below.trod laidOut (by kernel_rfl) (of_decide_eq_true (by kernel_rfl)) k0 bel lt0) trodAll_mk0), rfl, bel.frame _, fun h => by cases h⟩

theorem over : Rows.fnExactIsDemandsRow.holds Try.pinned (OpenSpec.ofChange Rows.fnExactIsDemandsSpec) :=
  OpenClaim.holds_of_wide 3 Try.f3 rfl rfl rfl rfl rfl rfl rfl ⟨rfl, rfl, rfl, rfl, rfl⟩ rfl rfl rfl rfl rfl (by kernel_rfl) Try.func3 (by kernel_rfl)
    (of_decide_eq_true (by kernel_rfl)) (by unfold Func.isWrapper; first | (rw [if_pos (by decide +kernel)]; kernel_rfl) | (rw [if_neg (by decide +kernel)]; exact ⟨rfl, rfl⟩))
    (fun os started H enc _ => lifted os started H enc)

/-- THE STATEMENT -/
theorem proved : Rows.FnExactIsDemandsSaid :=
  over
#print axioms proved
end Go.Proofs.Ytcilgohjeobamaa.fnExactIsDemands
