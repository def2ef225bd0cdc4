/- The law FnExactDecideHearing: for every input the call returns true, and each argument reads afterwards as it read before. No condition. -/
import Derived.Test.YtcilgohjeobamaaDem6
import Derived.Test.YtcilgohjeobamaaArgsD
import Derived.Test.YtcilgohjeobamaaArgs
import Derived.Test.YtcilgohjeobamaaRows
import Derived.WalkKit
import Derived.ProofKit
import Derived.OpenShut
import Derived.Carry
import Derived.Lib.SmallJoins
namespace Go.Proofs.Ytcilgohjeobamaa.fnExactDecideHearing
open Go.ChangeShapes Go.WideShapes Go.ChangeAt Go.RowKit Go.Joins
set_option linter.unusedVariables false

theorem own : ownKnob Try.prog.godebug = none := by kernel_rfl
theorem laidOut : laidOutB Try.prog = true := by kernel_rfl

/-! The walk: the Go text returns true, and writes nothing that was there. -/
set_option maxHeartbeats 4000000 in
theorem walk (a0 : Int) (a1 : Int) (a2 : Option Addr) (len2 cap2 : Nat) (x2 : Nat → Int) (a3 : Option Addr) (len3 cap3 : Nat) (fa3 : Nat → Option Addr) (fl3 fc3 : Nat → Nat) (fx3 : Nat → Nat → Int) (o3 : Nat → Int) (w : World) (w0 : (Lit.int .i64 a0).wf = true) (w1 : (Lit.int .i64 a1).wf = true) (m2 : len2 ≤ maxLen) (w2 : Ints w w.heap.size a2 (len2 * 3) x2) (f2 : ∀ j, j < len2 * 3 → (Lit.int .i64 (x2 j)).wf = true) (m3 : len3 ≤ maxLen) (w3 : Dems w w.heap.size a3 len3 fa3 fl3 fc3 fx3 o3) :
    Calls Try.prog 8 #[.int .i64 a0, .int .i64 a1, .slice a2 len2 cap2, .slice a3 len3 cap3] w fun e w' => e = .returned (.bool true) ∧ Below w.heap.size w w' := by
  by_cases hbig2 : 1048576 < (len2 : Int)
  · have hneg : ¬ (0 : Int) ≤ -1 := by omega
    unfold maxLen at m2
    go_enter Try.func8, Try.ntmps8
    go_wp2_with (first | (go_at_call 23; refine (szStatementS_any _ _ _ _ _ (by omega) (by omega) (by first | (unfold maxLen at m2; omega) | omega)).mono ?_; rintro e w' ⟨rfl, rfl⟩))
    go_ret
    exact ⟨rfl, Below.refl _ _⟩
  have hn2 : len2 ≤ 1048576 := by omega
  have hlt2 : ¬ (1048576 : Int) < len2 := hbig2
  replace w2 := Lib.hid w2
  replace w3 := Lib.hid w3
  clear m2 f2
  go_enter Try.func8, Try.ntmps8
  go_wp2_with (first | (go_at_call 23; refine (szStatementS_any _ _ _ _ _ (by omega) (by omega) (by omega)).mono ?_; rintro e w' ⟨rfl, rfl⟩) | fail)
  refine (szDemandS_any _ _ _ _ _ _ _ _ _ _ _ w3.out (Nat.le_refl _) (by omega) (by omega) m3).mono ?_
  rintro e u1 ⟨r, rfl, hr, hb1⟩
  by_cases hr0 : r < 0
  · go_wp2
    go_ret
    exact ⟨rfl, hb1⟩
  obtain ⟨r0, r1, hn, hfl⟩ : 0 ≤ r ∧ r ≤ 1048576 ∧ len3 ≤ 1048576 ∧ ∀ i, i < len3 → fl3 i ≤ 1048576 := by
    rcases hr with h | h
    · omega
    · exact ⟨h.1, by omega, h.2.2⟩
  clear hr hr0
  obtain ⟨V, hV⟩ : ∃ v, heV a0 a1 len2 x2 len3 fl3 fx3 o3 = v := ⟨_, rfl⟩
  obtain ⟨vo, va, vc⟩ := V
  replace hV := Lib.hid hV
  replace hfl := Lib.hid hfl
  have a1' := Lib.hid (w3.out.below hb1)
  have b1' := Lib.hid (w2.out.below hb1)
  have z1 := hb1.size
  clear w3 w2
  go_wp2_with fail
  refine (toStatementS_any _ _ _ _ _ (b1'.out.more z1) hn2).mono ?_
  rintro e u2 ⟨rfl, ⟨cs2, hW2, -, hc2⟩, hb2⟩
  have z2 := hb2.size
  have a2' := Lib.hid (a1'.out.below (hb2.mono z1))
  have b2' := Lib.hid (b1'.out.below (hb2.mono z1))
  have s2 := Lib.hid (Ints.of_whole hW2 hW2.lt hc2)
  clear a1' b1' hW2 hc2
  go_wp2_with fail
  refine (toDemandS_any _ _ _ _ _ _ _ _ _ (a2'.out.more (by omega)) hn hfl.out).mono ?_
  rintro e u3 ⟨rfl, ⟨fb3, hC3⟩, hb3⟩
  have z3 := hb3.size
  have a3' := Lib.hid (a2'.out.below (hb3.mono (by omega)))
  have b3' := Lib.hid (b2'.out.below (hb3.mono (by omega)))
  have s3 := Lib.hid (s2.out.below hb3)
  have d3 := Lib.hid (hC3.dems hfl.out)
  clear hC3 a2' b2' s2
  go_wp2_with fail
  refine (sDecideHearing_val _ _ _ _ _ _ _ _ _ _ _ _ _ _ _ _ u3 s3.out z3 (by omega) d3.out (Nat.le_refl _) m3 vo va vc hV).mono ?_
  rintro e u4 ⟨rfl, hb4⟩
  have z4 := hb4.size
  have a4' := Lib.hid (a3'.out.below (hb4.mono (by omega)))
  have b4' := Lib.hid (b3'.out.below (hb4.mono (by omega)))
  clear d3 s3 a3' b3'
  go_wp2_with fail
  refine (toStatementS_any _ _ _ _ _ (b4'.out.more (by omega)) hn2).mono ?_
  rintro e u5 ⟨rfl, ⟨cs5, hW5, -, hc5⟩, hb5⟩
  have z5 := hb5.size
  have a5' := Lib.hid (a4'.out.below (hb5.mono (by omega)))
  have b5' := Lib.hid (b4'.out.below (hb5.mono (by omega)))
  have s5 := Lib.hid (Ints.of_whole hW5 hW5.lt hc5)
  clear a4' b4' hW5 hc5
  go_wp2_with fail
  refine (toDemandS_any _ _ _ _ _ _ _ _ _ (a5'.out.more (by omega)) hn hfl.out).mono ?_
  rintro e u6 ⟨rfl, ⟨fb6, hC6⟩, hb6⟩
  have z6 := hb6.size
  have a6' := Lib.hid (a5'.out.below (hb6.mono (by omega)))
  have b6' := Lib.hid (b5'.out.below (hb6.mono (by omega)))
  have s6 := Lib.hid (s5.out.below hb6)
  have d6 := Lib.hid (hC6.dems hfl.out)
  clear hC6 a5' b5' s5
  go_wp2_with fail
  refine (decideHearing_val _ _ _ _ _ _ _ _ _ _ _ _ _ _ _ _ u6 s6.out z6 (by omega) (Nat.le_refl _) d6.out (Nat.le_refl _) m3 vo va vc hV).mono ?_
  rintro e u7 ⟨rfl, hb7⟩
  have z7 := hb7.size
  have a7' := Lib.hid (a6'.out.below (hb7.mono (by omega)))
  have b7' := Lib.hid (b6'.out.below (hb7.mono (by omega)))
  have s7 := Lib.hid ((s6.out.below (hb7.mono z6)).more (show u5.heap.size ≤ u7.heap.size by omega))
  have d7 := Lib.hid ((d6.out.below hb7).more z7)
  clear d6 s6 a6' b6'
  go_wp2_with fail
  refine (toStatementS_any _ _ _ _ _ (b7'.out.more (by omega)) hn2).mono ?_
  rintro e u8 ⟨rfl, ⟨cs8, hW8, -, hc8⟩, hb8⟩
  have z8 := hb8.size
  have a8' := Lib.hid (a7'.out.below (hb8.mono (by omega)))
  have s8 := Lib.hid ((s7.out.below hb8).more z8)
  have d8 := Lib.hid ((d7.out.below hb8).more z8)
  have t8 := Lib.hid (Ints.of_whole hW8 hW8.lt hc8)
  clear a7' b7' hW8 hc8 s7 d7
  go_wp2_with fail
  refine (eqStatementS_same _ _ _ _ _ _ _ _ s8.out t8.out (Nat.le_refl _) (by omega)).mono ?_
  rintro e u9 ⟨rfl, hb9⟩
  have z9 := hb9.size
  have a9' := Lib.hid (a8'.out.below (hb9.mono (by omega)))
  have d9 := Lib.hid ((d8.out.below hb9).more z9)
  clear a8' s8 t8 d8
  go_wp2_with fail
  refine (toDemandS_any _ _ _ _ _ _ _ _ _ (a9'.out.more (by omega)) hn hfl.out).mono ?_
  rintro e v1 ⟨rfl, ⟨fb1, hC1⟩, hc1⟩
  have y1 := hc1.size
  have e1 := Lib.hid (hC1.dems hfl.out)
  have d10 := Lib.hid ((d9.out.below hc1).more y1)
  clear hC1 a9' d9
  unfold maxLen at m3
  go_wp2_with fail
  refine (eqDemandS_same _ _ _ _ _ _ _ _ _ _ _ _ _ _ d10.out e1.out (Nat.le_refl _) (by omega)).mono ?_
  rintro e v2 ⟨rfl, hc2⟩
  have hbb : Below w.heap.size w v2 := hb1.trans ((hb2.mono (by omega)).trans ((hb3.mono (by omega)).trans ((hb4.mono (by omega)).trans ((hb5.mono (by omega)).trans ((hb6.mono (by omega)).trans ((hb7.mono (by omega)).trans ((hb8.mono (by omega)).trans ((hb9.mono (by omega)).trans ((hc1.mono (by omega)).trans (hc2.mono (by omega)))))))))))
  clear hb1 hb2 hb3 hb4 hb5 hb6 hb7 hb8 hb9 hc1 hc2 d10 e1
  go_wp2
  go_ret
  exact ⟨rfl, hbb⟩

/-! ### THE ROW's STEP -/
set_option maxRecDepth 100000 in
theorem lifted (os : Os) (started : os.Started) (H : Type) (enc : TypeId × Value → H) :
    ReturnsInHanded {} Try.checked os 8 .any (Rows.fnExactDecideHearingSpec.pre6 enc Try.prog Try.f8 Rows.fnExactDecideHearingRow.domain false) (Rows.fnExactDecideHearingSpec.post enc Try.prog Try.f8 false true false false) := by
  refine returnsInHanded_of_change (C := Try.checked) own started (by kernel_rfl) Try.func8
    (ChangeSpec.witness6 (enc := enc) (C := Try.checked) false ⟨#[], #[.int .i64 0, .int .i64 0, .slice none 0 0, .slice none 0 0], []⟩ 8 (by kernel_rfl) (by kernel_rfl) (by kernel_rfl) (by kernel_rfl)) ?_
  intro W base args ds gs before hval0 hW hcnd _
  have hval : ∀ (j : Nat) t v, Try.f8.params[j]? = some t → args[j]? = some v → Value.okWide Try.prog W .any base t v := hval0
  have hW' := hW
  obtain ⟨p, q, hA0, hV, rfl, hfz, hnd⟩ := hW
  have hA : DataW.TrodAll enc Try.prog W 0 (fun _ => true) true Try.f8.params.toList args.toList ds p := hA0
  rw [Try.params8] at hA hval
  obtain ⟨v0, vs0, d0, ds0, p0, q0, hargs, rfl, rfl, h0, r0⟩ := trodAll_cons hA
  obtain ⟨v1, vs1, d1, ds1, p1, q1, rfl, rfl, rfl, h1, r1⟩ := trodAll_cons r0
  obtain ⟨v2, vs2, d2, ds2, p2, q2, rfl, rfl, rfl, h2, r2⟩ := trodAll_cons r1
  obtain ⟨v3, vs3, d3, ds3, p3, q3, rfl, rfl, rfl, h3, r3⟩ := trodAll_cons r2
  obtain ⟨rfl, rfl, rfl⟩ := trodAll_nil r3
  obtain rfl : args = #[v0, v1, v2, v3] := by cases args; simp_all
  obtain ⟨rfl, rfl⟩ := trodVars_none hV
  obtain ⟨a0, rfl, rfl, rfl, w0⟩ := open_int Try.underlying2 (hval 0 2 v0 rfl rfl) h0
  obtain ⟨a1, rfl, rfl, rfl, w1⟩ := open_int Try.underlying2 (hval 1 2 v1 rfl rfl) h1
  obtain ⟨a2, len2, cap2, rfl⟩ := okWide_slice Try.underlying42 (hval 2 42 v2 rfl rfl)
  have k2 := h2
  have lt2 : ∀ x ∈ p2, x.block < W.heap.size := by obtain ⟨m, hm⟩ := k2; exact DataW.trod_lt m _ _ _ hm
  obtain ⟨m2, x2, w2, f2⟩ : len2 ≤ maxLen ∧ ∃ xs : Nat → Int, Ints W W.heap.size a2 (len2 * 3) xs ∧ ∀ j, j < len2 * 3 → (Lit.int .i64 (xs j)).wf = true := by
    obtain ⟨fuel, hf⟩ := h2
    simp only [Value.cells] at hf
    exact ints_of_structs (K := 3) Try.underlying42 Try.underlying86 (by kernel_rfl) (by kernel_rfl) rfl (fun j f hf => by
      match j, hf with
      | 0, hf => (cases hf; exact Try.underlying2)
      | 1, hf => (cases hf; exact Try.underlying2)
      | 2, hf => (cases hf; exact Try.underlying2)
      | n + 3, hf => simp at hf) hf
  obtain ⟨a3, len3, cap3, rfl⟩ := okWide_slice Try.underlying22 (hval 3 22 v3 rfl rfl)
  have k3 := h3
  have lt3 : ∀ x ∈ p3, x.block < W.heap.size := by obtain ⟨m, hm⟩ := k3; exact DataW.trod_lt m _ _ _ hm
  obtain ⟨m3, fa3, fl3, fc3, fx3, o3, w3⟩ : len3 ≤ maxLen ∧ ∃ (fa : Nat → Option Addr) (fl fc : Nat → Nat) (fx : Nat → Nat → Int) (o : Nat → Int), Dems W W.heap.size a3 len3 fa fl fc fx o := by
    obtain ⟨fuel, hf⟩ := h3
    simp only [Value.cells] at hf
    exact dems_of Try.underlying22 Try.underlying70 rfl rfl rfl rfl rfl rfl (by kernel_rfl) (by kernel_rfl) (by kernel_rfl) Try.underlying31 Try.underlying2 (by kernel_rfl) Try.underlying2 hf
  clear hA0 hval0
  refine (walk a0 a1 a2 len2 cap2 x2 a3 len3 cap3 fa3 fl3 fc3 fx3 o3 W w0 w1 m2 w2 f2 m3 w3).mono fun e W' ⟨he, bel⟩ => ?_
  subst he
  exact ⟨_, rfl, _, _, _, [], _, [], hW', trodAll_mk1 (shut_bool Try.underlying4 _), (trodAll_cons_mk (shut_int Try.underlying2 w0) (trodAll_cons_mk (shut_int Try.underlying2 w1) (trodAll_cons_mk (Below.trod laidOut (by kernel_rfl) (of_decide_eq_true (by kernel_rfl)) k2 bel lt2) (trodAll_cons_mk (Below.trod laidOut (by kernel_rfl) (of_decide_eq_true (by kernel_rfl)) k3 bel lt3) trodAll_mk0)))), rfl, bel.frame _, fun h => by cases h⟩

theorem over : Rows.fnExactDecideHearingRow.holds Try.pinned (OpenSpec.ofChange Rows.fnExactDecideHearingSpec) :=
  OpenClaim.holds_of_wide 8 Try.f8 rfl rfl rfl rfl rfl rfl rfl ⟨rfl, rfl, rfl, rfl, rfl⟩ rfl rfl rfl rfl rfl (by kernel_rfl) Try.func8 (by kernel_rfl)
    (of_decide_eq_true (by kernel_rfl)) (by unfold Func.isWrapper; first | (rw [if_pos (by decide +kernel)]; kernel_rfl) | (rw [if_neg (by decide +kernel)]; exact ⟨rfl, rfl⟩))
    (fun os started H enc _ => lifted os started H enc)

/-- THE STATEMENT -/
theorem proved : Rows.FnExactDecideHearingSaid :=
  over
#print axioms proved
end Go.Proofs.Ytcilgohjeobamaa.fnExactDecideHearing
