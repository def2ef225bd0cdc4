/- The law FnExactIsRatings: for every input the call returns true, and each argument reads afterwards as it read before. No condition. -/
import Derived.Test.YtbmclcajgplpnaaRat
import Derived.Test.YtbmclcajgplpnaaArgs
import Derived.Test.YtbmclcajgplpnaaArgs
import Derived.Test.YtbmclcajgplpnaaRows
import Derived.WalkKit
import Derived.ProofKit
import Derived.OpenShut
import Derived.Carry
import Derived.Lib.SmallJoins
namespace Go.Proofs.Ytbmclcajgplpnaa.fnExactIsRatings
open Go.ChangeShapes Go.WideShapes Go.ChangeAt Go.RowKit Go.Joins
set_option linter.unusedVariables false

theorem own : ownKnob Try.prog.godebug = none := by kernel_rfl
theorem laidOut : laidOutB Try.prog = true := by kernel_rfl

/-! The walk: the Go text returns true, and writes nothing that was there. -/
set_option maxHeartbeats 4000000 in
theorem walk (a0 : Int) (a1 : Option Addr) (len1 cap1 : Nat) (x1 : Nat → Int) (w : World) (w0 : (Lit.int .i64 a0).wf = true) (m1 : len1 ≤ maxLen) (w1 : Ints w w.heap.size a1 (len1 * 2) x1) (f1 : ∀ j, j < len1 * 2 → (Lit.int .i64 (x1 j)).wf = true) :
    Calls Try.prog 3 #[.int .i64 a0, .slice a1 len1 cap1] w fun e w' => e = .returned (.bool true) ∧ Below w.heap.size w w' := by
  by_cases hbig1 : 1048576 < (len1 : Int)
  · have hneg : ¬ (0 : Int) ≤ -1 := by omega
    unfold maxLen at m1
    go_enter Try.func3, Try.ntmps3
    go_wp2_with (first | (go_at_call 9; refine (szRatingS_any _ _ _ _ _ (by omega) (by omega) (by first | (unfold maxLen at m1; omega) | omega)).mono ?_; rintro e w' ⟨rfl, rfl⟩))
    go_ret
    exact ⟨rfl, Below.refl _ _⟩
  have hn1 : len1 ≤ 1048576 := by omega
  have hx1 := Lib.hid w1
  clear w1 m1 f1
  go_enter Try.func3, Try.ntmps3
  go_wp2_with (first | (go_at_call 9; refine (szRatingS_any _ _ _ _ _ (by omega) (by omega) (by omega)).mono ?_; rintro e w' ⟨rfl, rfl⟩) | fail)
  refine (toRatingS_any _ _ _ _ _ hx1.out hn1).mono ?_
  rintro e u1 ⟨rfl, ⟨cs1, hW1, -, hc1⟩, hb1⟩
  have a1_1 := Lib.hid ((hx1.out.below hb1).more hb1.size)
  clear hx1
  have s1 := Lib.hid (Ints.of_whole hW1 hW1.lt hc1)
  clear hW1 hc1
  go_wp2_with fail
  refine (sIsRatings_any _ _ _ _ _ _ _ s1.out (Nat.le_refl _) (by omega)).mono ?_
  rintro e u2 ⟨rfl, hb2⟩
  have a1_2 := Lib.hid ((a1_1.out.below hb2).more hb2.size)
  clear a1_1
  have s1_2 := Lib.hid ((s1.out.below hb2).more hb2.size)
  clear s1
  go_wp2_with fail
  refine (toRatingS_any _ _ _ _ _ a1_2.out hn1).mono ?_
  rintro e u3 ⟨rfl, ⟨cs3, hW3, -, hc3⟩, hb3⟩
  have a1_3 := Lib.hid ((a1_2.out.below hb3).more hb3.size)
  clear a1_2
  have x1q := Lib.hid (Ints.of_whole hW3 hW3.lt hc3)
  clear hW3 hc3
  go_wp2_with fail
  refine (isRatings_any _ _ _ _ _ _ _ x1q.out (Nat.le_refl _) (by omega)).mono ?_
  rintro e u4 ⟨rfl, hb4⟩
  have a1_4 := Lib.hid ((a1_3.out.below hb4).more hb4.size)
  clear a1_3
  have x1q_4 := Lib.hid ((x1q.out.below hb4).more hb4.size)
  clear x1q
  go_wp2_with fail
  refine (toRatingS_any _ _ _ _ _ a1_4.out hn1).mono ?_
  rintro e u5 ⟨rfl, ⟨cs5, hW5, -, hc5⟩, hb5⟩
  have a1_5 := Lib.hid ((a1_4.out.below hb5).more hb5.size)
  clear a1_4
  have x1q_5 := Lib.hid ((x1q_4.out.below hb5).more hb5.size)
  clear x1q_4
  have y1 := Lib.hid (Ints.of_whole hW5 hW5.lt hc5)
  clear hW5 hc5
  go_wp2_with fail
  refine (eqRatingS_same _ _ _ _ _ _ _ _ x1q_5.out y1.out (Nat.le_refl _) (by omega)).mono ?_
  rintro e u6 ⟨rfl, hb6⟩
  have a1_6 := Lib.hid ((a1_5.out.below hb6).more hb6.size)
  clear a1_5
  have x1q_6 := Lib.hid ((x1q_5.out.below hb6).more hb6.size)
  clear x1q_5
  have y1_6 := Lib.hid ((y1.out.below hb6).more hb6.size)
  clear y1
  have z1 := hb1.size
  have z2 := hb2.size
  have z3 := hb3.size
  have z4 := hb4.size
  have z5 := hb5.size
  have z6 := hb6.size
  go_wp2
  go_ret
  exact ⟨rfl, hb1.trans ((hb2.mono (by omega)).trans ((hb3.mono (by omega)).trans ((hb4.mono (by omega)).trans ((hb5.mono (by omega)).trans (hb6.mono (by omega))))))⟩

/-! ### THE ROW's STEP -/
set_option maxRecDepth 100000 in
theorem lifted (os : Os) (started : os.Started) (H : Type) (enc : TypeId × Value → H) :
    ReturnsInHanded {} Try.checked os 3 .any (Rows.fnExactIsRatingsSpec.pre6 enc Try.prog Try.f3 Rows.fnExactIsRatingsRow.domain false) (Rows.fnExactIsRatingsSpec.post enc Try.prog Try.f3 false true false false) := by
  refine returnsInHanded_of_change (C := Try.checked) own started (by kernel_rfl) Try.func3
    (ChangeSpec.witness6 (enc := enc) (C := Try.checked) false ⟨#[], #[.int .i64 0, .slice none 0 0], []⟩ 8 (by kernel_rfl) (by kernel_rfl) (by kernel_rfl) (by kernel_rfl)) ?_
  intro W base args ds gs before hval0 hW hcnd _
  have hval : ∀ (j : Nat) t v, Try.f3.params[j]? = some t → args[j]? = some v → Value.okWide Try.prog W .any base t v := hval0
  have hW' := hW
  obtain ⟨p, q, hA0, hV, rfl, hfz, hnd⟩ := hW
  have hA : DataW.TrodAll enc Try.prog W 0 (fun _ => true) true Try.f3.params.toList args.toList ds p := hA0
  rw [Try.params3] at hA hval
  obtain ⟨v0, vs0, d0, ds0, p0, q0, hargs, rfl, rfl, h0, r0⟩ := trodAll_cons hA
  obtain ⟨v1, vs1, d1, ds1, p1, q1, rfl, rfl, rfl, h1, r1⟩ := trodAll_cons r0
  obtain ⟨rfl, rfl, rfl⟩ := trodAll_nil r1
  obtain rfl : args = #[v0, v1] := by cases args; simp_all
  obtain ⟨rfl, rfl⟩ := trodVars_none hV
  obtain ⟨a0, rfl, rfl, rfl, w0⟩ := open_int Try.underlying2 (hval 0 2 v0 rfl rfl) h0
  obtain ⟨a1, len1, cap1, rfl⟩ := okWide_slice Try.underlying22 (hval 1 22 v1 rfl rfl)
  have k1 := h1
  have lt1 : ∀ x ∈ p1, x.block < W.heap.size := by obtain ⟨m, hm⟩ := k1; exact DataW.trod_lt m _ _ _ hm
  obtain ⟨m1, x1, w1, f1⟩ : len1 ≤ maxLen ∧ ∃ xs : Nat → Int, Ints W W.heap.size a1 (len1 * 2) xs ∧ ∀ j, j < len1 * 2 → (Lit.int .i64 (xs j)).wf = true := by
    obtain ⟨fuel, hf⟩ := h1
    simp only [Value.cells] at hf
    exact ints_of_structs (K := 2) Try.underlying22 Try.underlying64 (by kernel_rfl) (by kernel_rfl) rfl (fun j f hf => by
      match j, hf with
      | 0, hf => (cases hf; exact Try.underlying2)
      | 1, hf => (cases hf; exact Try.underlying2)
      | n + 2, hf => simp at hf) hf
  clear hA0 hval0
  refine (walk a0 a1 len1 cap1 x1 W w0 m1 w1 f1).mono fun e W' ⟨he, bel⟩ => ?_
  subst he
  exact ⟨_, rfl, _, _, _, [], _, [], hW', trodAll_mk1 (shut_bool Try.underlying4 _), (trodAll_cons_mk (shut_int Try.underlying2 w0) (trodAll_cons_mk (Below.trod laidOut (by kernel_rfl) (of_decide_eq_true (by kernel_rfl)) k1 bel lt1) trodAll_mk0)), rfl, bel.frame _, fun h => by cases h⟩

theorem over : Rows.fnExactIsRatingsRow.holds Try.pinned (OpenSpec.ofChange Rows.fnExactIsRatingsSpec) :=
  OpenClaim.holds_of_wide 3 Try.f3 rfl rfl rfl rfl rfl rfl rfl ⟨rfl, rfl, rfl, rfl, rfl⟩ rfl rfl rfl rfl rfl (by kernel_rfl) Try.func3 (by kernel_rfl)
    (of_decide_eq_true (by kernel_rfl)) (by unfold Func.isWrapper; first | (rw [if_pos (by decide +kernel)]; kernel_rfl) | (rw [if_neg (by decide +kernel)]; exact ⟨rfl, rfl⟩))
    (fun os started H enc _ => lifted os started H enc)

/-- THE STATEMENT -/
theorem proved : Rows.FnExactIsRatingsSaid :=
  over
#print axioms proved
end Go.Proofs.Ytbmclcajgplpnaa.fnExactIsRatings
