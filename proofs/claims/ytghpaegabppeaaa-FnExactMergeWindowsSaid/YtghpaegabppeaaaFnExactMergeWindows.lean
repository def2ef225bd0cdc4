/- The law FnExactMergeWindows: for every input the call returns true, and each argument reads afterwards as it read before. No condition. -/
import Derived.Test.YtghpaegabppeaaaMrg4
import Derived.Test.YtghpaegabppeaaaMWindow
import Derived.Test.YtghpaegabppeaaaSWindow
import Derived.Test.YtghpaegabppeaaaArgs
import Derived.Test.YtghpaegabppeaaaArgs
import Derived.Test.YtghpaegabppeaaaRows
import Derived.WalkKit
import Derived.ProofKit
import Derived.OpenShut
import Derived.Carry
import Derived.Lib.SmallJoins
namespace Go.Proofs.Ytghpaegabppeaaa.fnExactMergeWindows
open Go.ChangeShapes Go.WideShapes Go.ChangeAt Go.RowKit Go.Joins
set_option linter.unusedVariables false

theorem own : ownKnob Try.prog.godebug = none := by kernel_rfl
theorem laidOut : laidOutB Try.prog = true := by kernel_rfl

/-! The walk: the Go text returns true, and writes nothing that was there. -/
set_option maxHeartbeats 4000000 in
theorem walk (a0 : Option Addr) (len0 cap0 : Nat) (x0 : Nat → Int) (w : World) (m0 : len0 ≤ maxLen) (w0 : Ints w w.heap.size a0 (len0 * 2) x0) (f0 : ∀ j, j < len0 * 2 → (Lit.int .i64 (x0 j)).wf = true) :
    Calls Try.prog 11 #[.slice a0 len0 cap0] w fun e w' => e = .returned (.bool true) ∧ Below w.heap.size w w' := by
  by_cases hbig0 : 1048576 < (len0 : Int)
  · have hneg : ¬ (0 : Int) ≤ -1 := by omega
    unfold maxLen at m0
    go_enter Try.func11, Try.ntmps11
    go_wp2_with (first | (go_at_call 13; refine (szWindowS_any _ _ _ _ _ (by omega) (by omega) (by first | (unfold maxLen at m0; omega) | omega)).mono ?_; rintro e w' ⟨rfl, rfl⟩))
    go_ret
    exact ⟨rfl, Below.refl _ _⟩
  have hn0 : len0 ≤ 1048576 := by omega
  have hx0 := Lib.hid w0
  clear w0 m0 f0
  obtain ⟨L, hL⟩ : ∃ z, mrgL len0 x0 = z := ⟨_, rfl⟩
  replace hL := Lib.hid hL
  obtain ⟨co, hco⟩ : ∃ z, codM len0 x0 = z := ⟨_, rfl⟩
  replace hco := Lib.hid hco
  obtain ⟨K, hK⟩ : ∃ z, mrgK len0 x0 = z := ⟨_, rfl⟩
  replace hK := Lib.hid hK
  go_enter Try.func11, Try.ntmps11
  go_wp2_with (first | (go_at_call 13; refine (szWindowS_any _ _ _ _ _ (by omega) (by omega) (by omega)).mono ?_; rintro e w' ⟨rfl, rfl⟩) | fail)
  refine (toWindowS_any _ _ _ _ _ (hx0.out.more (by omega)) hn0).mono ?_
  rintro e u1 ⟨rfl, ⟨cs1, hW1, -, hc1⟩, hb1⟩
  have z1 := hb1.size
  have a0_1 := Lib.hid (hx0.out.below (hb1.mono (by omega)))
  clear hx0
  have hl1 := hW1.lt
  have s0 := Lib.hid (Row.of_whole hW1 hc1)
  clear hW1 hc1
  go_wp2_with fail
  refine (sMergeWindows_k _ _ _ _ _ _ K L co hL hco hK s0.out.ints (Nat.le_refl _) (by omega)).mono ?_
  rintro e u2 ⟨A2, c2, rfl, gn2, ho2, hb2⟩
  have z2 := hb2.size
  have a0_2 := Lib.hid (a0_1.out.below (hb2.mono (by omega)))
  clear a0_1
  have s0_2 := Lib.hid (s0.out.below hb2)
  clear s0
  obtain ⟨g2, gl2, gm2, rd⟩ := Row.of_own ho2 (rfl)
  replace rd := Lib.hid rd
  clear ho2
  go_wp2_with fail
  refine (toWindowS_any _ _ _ _ _ (a0_2.out.more (by omega)) hn0).mono ?_
  rintro e u3 ⟨rfl, ⟨cs3, hW3, -, hc3⟩, hb3⟩
  have z3 := hb3.size
  have a0_3 := Lib.hid (a0_2.out.below (hb3.mono (by omega)))
  clear a0_2
  have rd_3 := Lib.hid (rd.out.below hb3)
  clear rd
  have hl3 := hW3.lt
  have x0 := Lib.hid (Row.of_whole hW3 hc3)
  clear hW3 hc3
  go_wp2_with fail
  refine (mergeWindows_k _ _ _ _ _ _ _ K L co hL hco hK x0.out.ints (Nat.le_refl _) (by omega)).mono ?_
  rintro e u4 ⟨A4, c4, rfl, gn4, ho4, hb4⟩
  have z4 := hb4.size
  have a0_4 := Lib.hid (a0_3.out.below (hb4.mono (by omega)))
  clear a0_3
  have rd_4 := Lib.hid (rd_3.out.below hb4)
  clear rd_3
  have x0_4 := Lib.hid (x0.out.below hb4)
  clear x0
  obtain ⟨g4, gl4, gm4, rg⟩ := Row.of_own ho4 (rfl)
  replace rg := Lib.hid rg
  clear ho4
  go_wp2_with fail
  refine (eqWindowS_same _ _ _ _ _ _ _ _ rg.out.ints rd_4.out.ints (Nat.le_refl _) (by omega)).mono ?_
  rintro e u5 ⟨rfl, hb5⟩
  have z5 := hb5.size
  have a0_5 := Lib.hid (a0_4.out.below (hb5.mono (by omega)))
  clear a0_4
  have rd_5 := Lib.hid (rd_4.out.below hb5)
  clear rd_4
  have x0_5 := Lib.hid (x0_4.out.below hb5)
  clear x0_4
  have rg_5 := Lib.hid (rg.out.below hb5)
  clear rg
  go_wp2_with fail
  refine (toWindowS_any _ _ _ _ _ (a0_5.out.more (by omega)) hn0).mono ?_
  rintro e u6 ⟨rfl, ⟨cs6, hW6, -, hc6⟩, hb6⟩
  have z6 := hb6.size
  have a0_6 := Lib.hid (a0_5.out.below (hb6.mono (by omega)))
  clear a0_5
  have rd_6 := Lib.hid (rd_5.out.below hb6)
  clear rd_5
  have x0_6 := Lib.hid (x0_5.out.below hb6)
  clear x0_5
  have rg_6 := Lib.hid (rg_5.out.below hb6)
  clear rg_5
  have hl6 := hW6.lt
  have y0 := Lib.hid (Row.of_whole hW6 hc6)
  clear hW6 hc6
  go_wp2_with fail
  refine (eqWindowS_same _ _ _ _ _ _ _ _ x0_6.out.ints y0.out.ints (Nat.le_refl _) (by omega)).mono ?_
  rintro e u7 ⟨rfl, hb7⟩
  have z7 := hb7.size
  have a0_7 := Lib.hid (a0_6.out.below (hb7.mono (by omega)))
  clear a0_6
  have rd_7 := Lib.hid (rd_6.out.below hb7)
  clear rd_6
  have x0_7 := Lib.hid (x0_6.out.below hb7)
  clear x0_6
  have rg_7 := Lib.hid (rg_6.out.below hb7)
  clear rg_6
  have y0_7 := Lib.hid (y0.out.below hb7)
  clear y0
  go_wp2_with fail
  refine (markWindowS_any _ _ _ _ _ _ _ x0_7.out (by omega) (by omega)).mono ?_
  rintro e u8 ⟨rfl, x0_8, hb8⟩
  have z8 := hb8.size
  have a0_8 := Lib.hid (a0_7.out.only hb8 (by omega) (fun k e => by injection e with e; omega))
  clear a0_7
  have rd_8 := Lib.hid (rd_7.out.grown2 hb8 (gm2.imp id (fun hm e => by injection e with e; omega)))
  clear rd_7
  have rg_8 := Lib.hid (rg_7.out.grown2 hb8 (gm4.imp id (fun hm e => by injection e with e; omega)))
  clear rg_7
  replace x0_8 := Lib.hid x0_8
  clear x0_7
  go_wp2_with fail
  refine (eqWindowS_same _ _ _ _ _ _ _ _ rg_8.out.ints rd_8.out.ints (Nat.le_refl _) (by omega)).mono ?_
  rintro e u9 ⟨rfl, hb9⟩
  have z9 := hb9.size
  have a0_9 := Lib.hid (a0_8.out.below (hb9.mono (by omega)))
  clear a0_8
  have rd_9 := Lib.hid (rd_8.out.below hb9)
  clear rd_8
  have x0_9 := Lib.hid (x0_8.out.below hb9)
  clear x0_8
  have rg_9 := Lib.hid (rg_8.out.below hb9)
  clear rg_8
  go_wp2_with fail
  refine (markWindowS_any _ _ _ _ _ _ _ rg_9.out (by omega) (by omega)).mono ?_
  rintro e u10 ⟨rfl, rg_10, hb10⟩
  have z10 := hb10.size
  have a0_10 := Lib.hid (a0_9.out.only hb10 (by omega) (fun k e => by injection e with e; omega))
  clear a0_9
  have rd_10 := Lib.hid (rd_9.out.grown2 hb10 (gm2.imp id (fun hm e => by injection e with e; omega)))
  clear rd_9
  have x0_10 := Lib.hid (x0_9.out.grown hb10 (fun e => by injection e with e; omega))
  clear x0_9
  replace rg_10 := Lib.hid rg_10
  clear rg_9
  go_wp2_with fail
  refine (heldWindowS_any _ _ _ _ _ _ _ rg_10.out.ints (fun j _ => rfl) (by omega) (by omega)).mono ?_
  rintro e u11 ⟨rfl, hb11⟩
  have z11 := hb11.size
  have a0_11 := Lib.hid (a0_10.out.below (hb11.mono (by omega)))
  clear a0_10
  have rd_11 := Lib.hid (rd_10.out.below hb11)
  clear rd_10
  have x0_11 := Lib.hid (x0_10.out.below hb11)
  clear x0_10
  have rg_11 := Lib.hid (rg_10.out.below hb11)
  clear rg_10
  go_wp2_with fail
  refine (toWindowS_any _ _ _ _ _ (a0_11.out.more (by omega)) hn0).mono ?_
  rintro e u12 ⟨rfl, ⟨cs12, hW12, -, hc12⟩, hb12⟩
  have z12 := hb12.size
  have a0_12 := Lib.hid (a0_11.out.below (hb12.mono (by omega)))
  clear a0_11
  have rd_12 := Lib.hid (rd_11.out.below hb12)
  clear rd_11
  have rg_12 := Lib.hid (rg_11.out.below hb12)
  clear rg_11
  have hl12 := hW12.lt
  have t0 := Lib.hid (Row.of_whole hW12 hc12)
  clear hW12 hc12
  go_wp2_with fail
  refine (mergeWindows_k _ _ _ _ _ _ _ K L co hL hco hK t0.out.ints (Nat.le_refl _) (by omega)).mono ?_
  rintro e u13 ⟨A13, c13, rfl, gn13, ho13, hb13⟩
  have z13 := hb13.size
  have a0_13 := Lib.hid (a0_12.out.below (hb13.mono (by omega)))
  clear a0_12
  have rd_13 := Lib.hid (rd_12.out.below hb13)
  clear rd_12
  have rg_13 := Lib.hid (rg_12.out.below hb13)
  clear rg_12
  have t0_13 := Lib.hid (t0.out.below hb13)
  clear t0
  obtain ⟨g13, gl13, gm13, rh⟩ := Row.of_own ho13 (rfl)
  replace rh := Lib.hid rh
  clear ho13
  go_wp2_with fail
  refine (eqWindowS_same _ _ _ _ _ _ _ _ rh.out.ints rd_13.out.ints (Nat.le_refl _) (by omega)).mono ?_
  rintro e u14 ⟨rfl, hb14⟩
  have z14 := hb14.size
  have a0_14 := Lib.hid (a0_13.out.below (hb14.mono (by omega)))
  clear a0_13
  have rd_14 := Lib.hid (rd_13.out.below hb14)
  clear rd_13
  have rg_14 := Lib.hid (rg_13.out.below hb14)
  clear rg_13
  have rh_14 := Lib.hid (rh.out.below hb14)
  clear rh
  go_wp2_with fail
  refine (heldWindowS_any _ _ _ _ _ _ _ rg_14.out.ints (fun j _ => rfl) (by omega) (by omega)).mono ?_
  rintro e u15 ⟨rfl, hb15⟩
  have z15 := hb15.size
  have a0_15 := Lib.hid (a0_14.out.below (hb15.mono (by omega)))
  clear a0_14
  have rg_15 := Lib.hid (rg_14.out.below hb15)
  clear rg_14
  go_wp2
  go_ret
  exact ⟨rfl, hb1.trans ((hb2.mono (by omega)).trans ((hb3.mono (by omega)).trans ((hb4.mono (by omega)).trans ((hb5.mono (by omega)).trans ((hb6.mono (by omega)).trans ((hb7.mono (by omega)).trans ((below_only hb8 (by omega) (fun k e => by injection e with e; omega)).trans ((hb9.mono (by omega)).trans ((below_only hb10 (by omega) (fun k e => by injection e with e; omega)).trans ((hb11.mono (by omega)).trans ((hb12.mono (by omega)).trans ((hb13.mono (by omega)).trans ((hb14.mono (by omega)).trans (hb15.mono (by omega)))))))))))))))⟩

/-! ### THE ROW's STEP -/
set_option maxRecDepth 100000 in
theorem lifted (os : Os) (started : os.Started) (H : Type) (enc : TypeId × Value → H) :
    ReturnsInHanded {} Try.checked os 11 .any (Rows.fnExactMergeWindowsSpec.pre6 enc Try.prog Try.f11 Rows.fnExactMergeWindowsRow.domain false) (Rows.fnExactMergeWindowsSpec.post enc Try.prog Try.f11 false true false false) := by
  refine returnsInHanded_of_change (C := Try.checked) own started (by kernel_rfl) Try.func11
    (ChangeSpec.witness6 (enc := enc) (C := Try.checked) false ⟨#[], #[.slice none 0 0], []⟩ 8 (by kernel_rfl) (by kernel_rfl) (by kernel_rfl) (by kernel_rfl)) ?_
  intro W base args ds gs before hval0 hW hcnd _
  have hval : ∀ (j : Nat) t v, Try.f11.params[j]? = some t → args[j]? = some v → Value.okWide Try.prog W .any base t v := hval0
  have hW' := hW
  obtain ⟨p, q, hA0, hV, rfl, hfz, hnd⟩ := hW
  have hA : DataW.TrodAll enc Try.prog W 0 (fun _ => true) true Try.f11.params.toList args.toList ds p := hA0
  rw [Try.params11] at hA hval
  obtain ⟨v0, vs0, d0, ds0, p0, q0, hargs, rfl, rfl, h0, r0⟩ := trodAll_cons hA
  obtain ⟨rfl, rfl, rfl⟩ := trodAll_nil r0
  obtain rfl : args = #[v0] := by cases args; simp_all
  obtain ⟨rfl, rfl⟩ := trodVars_none hV
  obtain ⟨a0, len0, cap0, rfl⟩ := okWide_slice Try.underlying22 (hval 0 22 v0 rfl rfl)
  have k0 := h0
  have lt0 : ∀ x ∈ p0, x.block < W.heap.size := by obtain ⟨m, hm⟩ := k0; exact DataW.trod_lt m _ _ _ hm
  obtain ⟨m0, x0, w0, f0⟩ : len0 ≤ maxLen ∧ ∃ xs : Nat → Int, Ints W W.heap.size a0 (len0 * 2) xs ∧ ∀ j, j < len0 * 2 → (Lit.int .i64 (xs j)).wf = true := by
    obtain ⟨fuel, hf⟩ := h0
    simp only [Value.cells] at hf
    exact ints_of_structs (K := 2) Try.underlying22 Try.underlying54 (by kernel_rfl) (by kernel_rfl) rfl (fun j f hf => by
      match j, hf with
      | 0, hf => (cases hf; exact Try.underlying2)
      | 1, hf => (cases hf; exact Try.underlying2)
      | n + 2, hf => simp at hf) hf
  clear hA0 hval0
  refine (walk a0 len0 cap0 x0 W m0 w0 f0).mono fun e W' ⟨he, bel⟩ => ?_
  subst he
  exact ⟨_, rfl, _, _, _, [], _, [], hW', trodAll_mk1 (shut_bool Try.underlying4 _), (trodAll_cons_mk (Below.trod laidOut (by kernel_rfl) (of_decide_eq_true (by kernel_rfl)) k0 bel lt0) trodAll_mk0), rfl, bel.frame _, fun h => by cases h⟩

theorem over : Rows.fnExactMergeWindowsRow.holds Try.pinned (OpenSpec.ofChange Rows.fnExactMergeWindowsSpec) :=
  OpenClaim.holds_of_wide 11 Try.f11 rfl rfl rfl rfl rfl rfl rfl ⟨rfl, rfl, rfl, rfl, rfl⟩ rfl rfl rfl rfl rfl (by kernel_rfl) Try.func11 (by kernel_rfl)
    (of_decide_eq_true (by kernel_rfl)) (by unfold Func.isWrapper; first | (rw [if_pos (by decide +kernel)]; kernel_rfl) | (rw [if_neg (by decide +kernel)]; exact ⟨rfl, rfl⟩))
    (fun os started H enc _ => lifted os started H enc)

/-- THE STATEMENT -/
theorem proved : Rows.FnExactMergeWindowsSaid :=
  over
#print axioms proved
end Go.Proofs.Ytghpaegabppeaaa.fnExactMergeWindows
