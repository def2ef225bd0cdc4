/- The law FnExactOutcomeOf: for every input the call returns true, and each argument reads afterwards as it read before. No condition. -/
import Derived.Test.YteacjoemlobmoaaApp6
import Derived.Test.YteacjoemlobmoaaSAppealRuling
import Derived.Test.YteacjoemlobmoaaArgs
import Derived.Test.YteacjoemlobmoaaArgs
import Derived.Test.YteacjoemlobmoaaRows
import Derived.WalkKit
import Derived.ProofKit
import Derived.OpenShut
import Derived.Carry
import Derived.Lib.SmallJoins
namespace Go.Proofs.Yteacjoemlobmoaa.fnExactOutcomeOf
open Go.ChangeShapes Go.WideShapes Go.ChangeAt Go.RowKit Go.Joins
set_option linter.unusedVariables false

theorem own : ownKnob Try.prog.godebug = none := by kernel_rfl
theorem laidOut : laidOutB Try.prog = true := by kernel_rfl

/-! The walk: the Go text returns true, and writes nothing that was there. -/
set_option maxHeartbeats 4000000 in
theorem walk (a0 : Option Addr) (len0 cap0 : Nat) (x0 : Nat → Int) (w : World) (m0 : len0 ≤ maxLen) (w0 : Ints w w.heap.size a0 (len0 * 3) x0) (f0 : ∀ j, j < len0 * 3 → (Lit.int .i64 (x0 j)).wf = true) :
    Calls Try.prog 5 #[.slice a0 len0 cap0] w fun e w' => e = .returned (.bool true) ∧ Below w.heap.size w w' := by
  by_cases hbig0 : 1048576 < (len0 : Int)
  · have hneg : ¬ (0 : Int) ≤ -1 := by omega
    unfold maxLen at m0
    go_enter Try.func5, Try.ntmps5
    go_wp2_with (first | (go_at_call 10; refine (szAppealRulingS_any _ _ _ _ _ (by omega) (by omega) (by first | (unfold maxLen at m0; omega) | omega)).mono ?_; rintro e w' ⟨rfl, rfl⟩))
    go_ret
    exact ⟨rfl, Below.refl _ _⟩
  have hn0 : len0 ≤ 1048576 := by omega
  have hx0 := Lib.hid w0
  clear w0 m0 f0
  go_enter Try.func5, Try.ntmps5
  go_wp2_with (first | (go_at_call 10; refine (szAppealRulingS_any _ _ _ _ _ (by omega) (by omega) (by omega)).mono ?_; rintro e w' ⟨rfl, rfl⟩) | fail)
  refine (toAppealRulingS_any _ _ _ _ _ hx0.out hn0).mono ?_
  rintro e u1 ⟨rfl, ⟨cs1, hW1, -, hc1⟩, hb1⟩
  have a0_1 := Lib.hid ((hx0.out.below hb1).more hb1.size)
  clear hx0
  have s0 := Lib.hid (Ints.of_whole hW1 hW1.lt hc1)
  clear hW1 hc1
  go_wp2_with fail
  refine (sOutcomeOf_any _ _ _ _ _ _ s0.out (Nat.le_refl _) hn0).mono ?_
  rintro e u2 ⟨rfl, hb2⟩
  have a0_2 := Lib.hid ((a0_1.out.below hb2).more hb2.size)
  clear a0_1
  have s0_2 := Lib.hid ((s0.out.below hb2).more hb2.size)
  clear s0
  go_wp2_with fail
  refine (toAppealRulingS_any _ _ _ _ _ a0_2.out hn0).mono ?_
  rintro e u3 ⟨rfl, ⟨cs3, hW3, -, hc3⟩, hb3⟩
  have a0_3 := Lib.hid ((a0_2.out.below hb3).more hb3.size)
  clear a0_2
  have x0q := Lib.hid (Ints.of_whole hW3 hW3.lt hc3)
  clear hW3 hc3
  go_wp2_with fail
  refine (outcomeOf_any _ _ _ _ _ _ x0q.out (Nat.le_refl _) hn0).mono ?_
  rintro e u4 ⟨rfl, hb4⟩
  have a0_4 := Lib.hid ((a0_3.out.below hb4).more hb4.size)
  clear a0_3
  have x0q_4 := Lib.hid ((x0q.out.below hb4).more hb4.size)
  clear x0q
  go_wp2_with fail
  refine (toAppealRulingS_any _ _ _ _ _ a0_4.out hn0).mono ?_
  rintro e u5 ⟨rfl, ⟨cs5, hW5, -, hc5⟩, hb5⟩
  have a0_5 := Lib.hid ((a0_4.out.below hb5).more hb5.size)
  clear a0_4
  have x0q_5 := Lib.hid ((x0q_4.out.below hb5).more hb5.size)
  clear x0q_4
  have y0 := Lib.hid (Ints.of_whole hW5 hW5.lt hc5)
  clear hW5 hc5
  go_wp2_with fail
  refine (eqAppealRulingS_same _ _ _ _ _ _ _ _ x0q_5.out y0.out (Nat.le_refl _) (by omega)).mono ?_
  rintro e u6 ⟨rfl, hb6⟩
  have a0_6 := Lib.hid ((a0_5.out.below hb6).more hb6.size)
  clear a0_5
  have x0q_6 := Lib.hid ((x0q_5.out.below hb6).more hb6.size)
  clear x0q_5
  have y0_6 := Lib.hid ((y0.out.below hb6).more hb6.size)
  clear y0
  have z1 := hb1.size
  have z2 := hb2.size
  have z3 := hb3.size
  have z4 := hb4.size
  have z5 := hb5.size
  have z6 := hb6.size
  go_wp2
  go_ret
  exact ⟨rfl, hb1.trans ((hb2.mono (by omega)).trans ((hb3.mono (by omega)).trans ((hb4.mono (by omega)).trans ((hb5.mono (by omega)).trans (hb6.mono (by omega))))))⟩

/-! ### THE ROW's STEP -/
set_option maxRecDepth 100000 in
theorem lifted (os : Os) (started : os.Started) (H : Type) (enc : TypeId × Value → H) :
    ReturnsInHanded {} Try.checked os 5 .any (Rows.fnExactOutcomeOfSpec.pre6 enc Try.prog Try.f5 Rows.fnExactOutcomeOfRow.domain false) (Rows.fnExactOutcomeOfSpec.post enc Try.prog Try.f5 false true false false) := by
  refine returnsInHanded_of_change (C := Try.checked) own started (by kernel_rfl) Try.func5
    (ChangeSpec.witness6 (enc := enc) (C := Try.checked) false ⟨#[], #[.slice none 0 0], []⟩ 8 (by kernel_rfl) (by kernel_rfl) (by kernel_rfl) (by kernel_rfl)) ?_
  intro W base args ds gs before hval0 hW hcnd _
  have hval : ∀ (j : Nat) t v, Try.f5.params[j]? = some t → args[j]? = some v → Value.okWide Try.prog W .any base t v := hval0
  have hW' := hW
  obtain ⟨p, q, hA0, hV, rfl, hfz, hnd⟩ := hW
  have hA : DataW.TrodAll enc Try.prog W 0 (fun _ => true) true Try.f5.params.toList args.toList ds p := hA0
  rw [Try.params5] at hA hval
  obtain ⟨v0, vs0, d0, ds0, p0, q0, hargs, rfl, rfl, h0, r0⟩ := trodAll_cons hA
  obtain ⟨rfl, rfl, rfl⟩ := trodAll_nil r0
  obtain rfl : args = #[v0] := by cases args; simp_all
  obtain ⟨rfl, rfl⟩ := trodVars_none hV
  obtain ⟨a0, len0, cap0, rfl⟩ := okWide_slice Try.underlying22 (hval 0 22 v0 rfl rfl)
  have k0 := h0
  have lt0 : ∀ x ∈ p0, x.block < W.heap.size := by obtain ⟨m, hm⟩ := k0; exact DataW.trod_lt m _ _ _ hm
  obtain ⟨m0, x0, w0, f0⟩ : len0 ≤ maxLen ∧ ∃ xs : Nat → Int, Ints W W.heap.size a0 (len0 * 3) xs ∧ ∀ j, j < len0 * 3 → (Lit.int .i64 (xs j)).wf = true := by
    obtain ⟨fuel, hf⟩ := h0
    simp only [Value.cells] at hf
    exact ints_of_structs (K := 3) Try.underlying22 Try.underlying41 (by kernel_rfl) (by kernel_rfl) rfl (fun j f hf => by
      match j, hf with
      | 0, hf => (cases hf; exact Try.underlying2)
      | 1, hf => (cases hf; exact Try.underlying2)
      | 2, hf => (cases hf; exact Try.underlying2)
      | n + 3, hf => simp at hf) hf
  clear hA0 hval0
  refine (walk a0 len0 cap0 x0 W m0 w0 f0).mono fun e W' ⟨he, bel⟩ => ?_
  subst he
  exact ⟨_, rfl, _, _, _, [], _, [], hW', trodAll_mk1 (shut_bool Try.underlying4 _), (trodAll_cons_mk (Below.trod laidOut (by kernel_rfl) (of_decide_eq_true (by kernel_rfl)) k0 bel lt0) trodAll_mk0), rfl, bel.frame _, fun h => by cases h⟩

theorem over : Rows.fnExactOutcomeOfRow.holds Try.pinned (OpenSpec.ofChange Rows.fnExactOutcomeOfSpec) :=
  OpenClaim.holds_of_wide 5 Try.f5 rfl rfl rfl rfl rfl rfl rfl ⟨rfl, rfl, rfl, rfl, rfl⟩ rfl rfl rfl rfl rfl (by kernel_rfl) Try.func5 (by kernel_rfl)
    (of_decide_eq_true (by kernel_rfl)) (by unfold Func.isWrapper; first | (rw [if_pos (by decide +kernel)]; kernel_rfl) | (rw [if_neg (by decide +kernel)]; exact ⟨rfl, rfl⟩))
    (fun os started H enc _ => lifted os started H enc)

/-- THE STATEMENT -/
theorem proved : Rows.FnExactOutcomeOfSaid :=
  over
#print axioms proved
end Go.Proofs.Yteacjoemlobmoaa.fnExactOutcomeOf
