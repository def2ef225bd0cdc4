/- The law FnExactPenaltiesFor: for every input the call returns true, and each argument reads afterwards as it read before. No condition. -/
import Derived.Test.YtcjeeampjhcljaaPen
import Derived.Test.YtcjeeampjhcljaaArgs
import Derived.Test.YtcjeeampjhcljaaArgs
import Derived.Test.YtcjeeampjhcljaaRows
import Derived.WalkKit
import Derived.ProofKit
import Derived.OpenShut
import Derived.Carry
import Derived.Lib.SmallJoins
namespace Go.Proofs.Ytcjeeampjhcljaa.fnExactPenaltiesFor
open Go.ChangeShapes Go.WideShapes Go.ChangeAt Go.RowKit Go.Joins
set_option linter.unusedVariables false

theorem own : ownKnob Try.prog.godebug = none := by kernel_rfl
theorem laidOut : laidOutB Try.prog = true := by kernel_rfl

/-! The walk: the Go text returns true, and writes nothing that was there. -/
set_option maxHeartbeats 4000000 in
theorem walk (a0 : Int) (a1 : Int) (a2 : Int) (a3 : Int) (a4 : Int) (w : World) (w0 : (Lit.int .i64 a0).wf = true) (w1 : (Lit.int .i64 a1).wf = true) (w2 : (Lit.int .i64 a2).wf = true) (w3 : (Lit.int .i64 a3).wf = true) (w4 : (Lit.int .i64 a4).wf = true) :
    Calls Try.prog 3 #[.int .i64 a0, .int .i64 a1, .int .i64 a2, .int .i64 a3, .int .i64 a4] w fun e w' => e = .returned (.bool true) ∧ Below w.heap.size w w' := by
  obtain ⟨L, hL⟩ : ∃ z, penL a0 a1 a2 a3 a4 = z := ⟨_, rfl⟩
  replace hL := Lib.hid hL
  obtain ⟨co, hco⟩ : ∃ z, penC a0 a1 a2 a3 a4 = z := ⟨_, rfl⟩
  replace hco := Lib.hid hco
  obtain ⟨K, hK⟩ : ∃ z, penK a0 a1 a2 a3 a4 = z := ⟨_, rfl⟩
  replace hK := Lib.hid hK
  go_enter Try.func3, Try.ntmps3
  go_wp2_with fail
  refine (sPenaltiesFor_val _ _ _ _ _ _ K L co hL hco hK).mono ?_
  rintro e u1 ⟨A1, c1, rfl, gn1, ho1, hb1⟩
  have z1 := hb1.size
  obtain ⟨g1, gl1, gm1, rd⟩ := Row.of_own ho1 (rfl)
  replace rd := Lib.hid rd
  clear ho1
  go_wp2_with fail
  refine (penaltiesFor_val _ _ _ _ _ _ K L co hL hco hK).mono ?_
  rintro e u2 ⟨A2, c2, rfl, gn2, ho2, hb2⟩
  have z2 := hb2.size
  have rd_2 := Lib.hid (rd.out.below hb2)
  clear rd
  obtain ⟨g2, gl2, gm2, rg⟩ := Row.of_own ho2 (rfl)
  replace rg := Lib.hid rg
  clear ho2
  go_wp2_with fail
  refine (eqPenaltyS_same _ _ _ _ _ _ _ _ rg.out.ints rd_2.out.ints (Nat.le_refl _) (by omega)).mono ?_
  rintro e u3 ⟨rfl, hb3⟩
  have z3 := hb3.size
  have rd_3 := Lib.hid (rd_2.out.below hb3)
  clear rd_2
  have rg_3 := Lib.hid (rg.out.below hb3)
  clear rg
  go_wp2_with fail
  refine (markPenaltyS_any _ _ _ _ _ _ _ rg_3.out (by omega) (by omega)).mono ?_
  rintro e u4 ⟨rfl, rg_4, hb4⟩
  have z4 := hb4.size
  have rd_4 := Lib.hid (rd_3.out.grown2 hb4 (gm1.imp id (fun hm e => by injection e with e; omega)))
  clear rd_3
  replace rg_4 := Lib.hid rg_4
  clear rg_3
  go_wp2_with fail
  refine (heldPenaltyS_any _ _ _ _ _ _ _ rg_4.out.ints (fun j _ => rfl) (by omega) (by omega)).mono ?_
  rintro e u5 ⟨rfl, hb5⟩
  have z5 := hb5.size
  have rd_5 := Lib.hid (rd_4.out.below hb5)
  clear rd_4
  have rg_5 := Lib.hid (rg_4.out.below hb5)
  clear rg_4
  go_wp2_with fail
  refine (penaltiesFor_val _ _ _ _ _ _ K L co hL hco hK).mono ?_
  rintro e u6 ⟨A6, c6, rfl, gn6, ho6, hb6⟩
  have z6 := hb6.size
  have rd_6 := Lib.hid (rd_5.out.below hb6)
  clear rd_5
  have rg_6 := Lib.hid (rg_5.out.below hb6)
  clear rg_5
  obtain ⟨g6, gl6, gm6, rh⟩ := Row.of_own ho6 (rfl)
  replace rh := Lib.hid rh
  clear ho6
  go_wp2_with fail
  refine (eqPenaltyS_same _ _ _ _ _ _ _ _ rh.out.ints rd_6.out.ints (Nat.le_refl _) (by omega)).mono ?_
  rintro e u7 ⟨rfl, hb7⟩
  have z7 := hb7.size
  have rd_7 := Lib.hid (rd_6.out.below hb7)
  clear rd_6
  have rg_7 := Lib.hid (rg_6.out.below hb7)
  clear rg_6
  have rh_7 := Lib.hid (rh.out.below hb7)
  clear rh
  go_wp2_with fail
  refine (heldPenaltyS_any _ _ _ _ _ _ _ rg_7.out.ints (fun j _ => rfl) (by omega) (by omega)).mono ?_
  rintro e u8 ⟨rfl, hb8⟩
  have z8 := hb8.size
  have rg_8 := Lib.hid (rg_7.out.below hb8)
  clear rg_7
  go_wp2
  go_ret
  exact ⟨rfl, hb1.trans ((hb2.mono (by omega)).trans ((hb3.mono (by omega)).trans ((below_only hb4 (by omega) (fun k e => by injection e with e; omega)).trans ((hb5.mono (by omega)).trans ((hb6.mono (by omega)).trans ((hb7.mono (by omega)).trans (hb8.mono (by omega))))))))⟩

/-! ### THE ROW's STEP -/
set_option maxRecDepth 100000 in
theorem lifted (os : Os) (started : os.Started) (H : Type) (enc : TypeId × Value → H) :
    ReturnsInHanded {} Try.checked os 3 .any (Rows.fnExactPenaltiesForSpec.pre6 enc Try.prog Try.f3 Rows.fnExactPenaltiesForRow.domain false) (Rows.fnExactPenaltiesForSpec.post enc Try.prog Try.f3 false true false false) := by
  refine returnsInHanded_of_change (C := Try.checked) own started (by kernel_rfl) Try.func3
    (ChangeSpec.witness6 (enc := enc) (C := Try.checked) false ⟨#[], #[.int .i64 0, .int .i64 0, .int .i64 0, .int .i64 0, .int .i64 0], []⟩ 8 (by kernel_rfl) (by kernel_rfl) (by kernel_rfl) (by kernel_rfl)) ?_
  intro W base args ds gs before hval0 hW hcnd _
  have hval : ∀ (j : Nat) t v, Try.f3.params[j]? = some t → args[j]? = some v → Value.okWide Try.prog W .any base t v := hval0
  have hW' := hW
  obtain ⟨p, q, hA0, hV, rfl, hfz, hnd⟩ := hW
  have hA : DataW.TrodAll enc Try.prog W 0 (fun _ => true) true Try.f3.params.toList args.toList ds p := hA0
  rw [Try.params3] at hA hval
  obtain ⟨v0, vs0, d0, ds0, p0, q0, hargs, rfl, rfl, h0, r0⟩ := trodAll_cons hA
  obtain ⟨v1, vs1, d1, ds1, p1, q1, rfl, rfl, rfl, h1, r1⟩ := trodAll_cons r0
  obtain ⟨v2, vs2, d2, ds2, p2, q2, rfl, rfl, rfl, h2, r2⟩ := trodAll_cons r1
  obtain ⟨v3, vs3, d3, ds3, p3, q3, rfl, rfl, rfl, h3, r3⟩ := trodAll_cons r2
  obtain ⟨v4, vs4, d4, ds4, p4, q4, rfl, rfl, rfl, h4, r4⟩ := trodAll_cons r3
  obtain ⟨rfl, rfl, rfl⟩ := trodAll_nil r4
  obtain rfl : args = #[v0, v1, v2, v3, v4] := by cases args; simp_all
  obtain ⟨rfl, rfl⟩ := trodVars_none hV
  obtain ⟨a0, rfl, rfl, rfl, w0⟩ := open_int Try.underlying2 (hval 0 2 v0 rfl rfl) h0
  obtain ⟨a1, rfl, rfl, rfl, w1⟩ := open_int Try.underlying2 (hval 1 2 v1 rfl rfl) h1
  obtain ⟨a2, rfl, rfl, rfl, w2⟩ := open_int Try.underlying2 (hval 2 2 v2 rfl rfl) h2
  obtain ⟨a3, rfl, rfl, rfl, w3⟩ := open_int Try.underlying2 (hval 3 2 v3 rfl rfl) h3
  obtain ⟨a4, rfl, rfl, rfl, w4⟩ := open_int Try.underlying2 (hval 4 2 v4 rfl rfl) h4
  clear hA0 hval0
  refine (walk a0 a1 a2 a3 a4 W w0 w1 w2 w3 w4).mono fun e W' ⟨he, bel⟩ => ?_
  subst he
  exact ⟨_, rfl, _, _, _, [], _, [], hW', trodAll_mk1 (shut_bool Try.underlying4 _), (trodAll_cons_mk (shut_int Try.underlying2 w0) (trodAll_cons_mk (shut_int Try.underlying2 w1) (trodAll_cons_mk (shut_int Try.underlying2 w2) (trodAll_cons_mk (shut_int Try.underlying2 w3) (trodAll_cons_mk (shut_int Try.underlying2 w4) trodAll_mk0))))), rfl, bel.frame _, fun h => by cases h⟩

theorem over : Rows.fnExactPenaltiesForRow.holds Try.pinned (OpenSpec.ofChange Rows.fnExactPenaltiesForSpec) :=
  OpenClaim.holds_of_wide 3 Try.f3 rfl rfl rfl rfl rfl rfl rfl ⟨rfl, rfl, rfl, rfl, rfl⟩ rfl rfl rfl rfl rfl (by kernel_rfl) Try.func3 (by kernel_rfl)
    (of_decide_eq_true (by kernel_rfl)) (by unfold Func.isWrapper; first | (rw [if_pos (by decide +kernel)]; kernel_rfl) | (rw [if_neg (by decide +kernel)]; exact ⟨rfl, rfl⟩))
    (fun os started H enc _ => lifted os started H enc)

/-- THE STATEMENT -/
theorem proved : Rows.FnExactPenaltiesForSaid :=
  over
#print axioms proved
end Go.Proofs.Ytcjeeampjhcljaa.fnExactPenaltiesFor
