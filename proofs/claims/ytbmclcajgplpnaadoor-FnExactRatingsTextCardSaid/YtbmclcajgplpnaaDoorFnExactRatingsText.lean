/- The law FnExactRatingsText: for every input the call returns true, and each argument reads afterwards as it read before. No condition. -/
import Derived.Test.YtbmclcajgplpnaaDoorRtT
import Derived.Test.YtbmclcajgplpnaaDoorArgs
import Derived.Test.YtbmclcajgplpnaaDoorSRating
import Derived.Test.YtbmclcajgplpnaaDoorArgs
import Derived.Test.YtbmclcajgplpnaaDoorCards
import Derived.Test.YtbmclcajgplpnaaDoorTie
import Derived.Test.YtbmclcajgplpnaaDoorRows
import Derived.Deep.DeepHandedRow
import Derived.Lib.LaidTab
import Derived.WalkKit
import Derived.ProofKit
import Derived.OpenShut
import Derived.Carry
import Derived.Lib.SmallJoins
namespace Go.Proofs.YtbmclcajgplpnaaDoor.fnExactRatingsText
open Go.ChangeShapes Go.WideShapes Go.ChangeAt Go.RowKit Go.Joins
set_option linter.unusedVariables false

theorem own : ownKnob Tryd.prog.godebug = none := by kernel_rfl
theorem laidOut : laidOutB Tryd.prog = true := by kernel_rfl
theorem gTab : Tryd.prog.globalNamed "internal/strconv.uint64pow10" = some 0 := by kernel_rfl
theorem gTabType : (Tryd.prog.globals[0]?).map (·.type) = some 64 := by kernel_rfl
theorem cellsT : Tryd.prog.cellsOf 64 = 20 := by kernel_rfl
theorem cellsE : Tryd.prog.cellsOf 54 = 1 := by kernel_rfl
/-- What the row's list gives: the table of the powers of ten. -/
theorem table {W : World} (h : laidMetH Tryd.prog Rows.fnExactRatingsTextRow.laid W) : Lib.TabIs Tryd.prog W "internal/strconv.uint64pow10" .u64 Lib.pow10Tab := by
  obtain ⟨ps, h0, _, _⟩ := (show laidMet Tryd.prog Rows.fnExactRatingsTextRow.laid W from h)
  obtain ⟨_, _, _, _, _, _, _, _, _, _, h1, _⟩ := h0
  obtain ⟨_, _, _, _, _, _, _, _, _, _, h2, _⟩ := h1
  obtain ⟨g', t', cs, fuel, p, q, hg', ht', hvar, hd, _, _⟩ := h2
  obtain rfl := Option.some.inj (gTab.symm.trans hg')
  obtain rfl := Option.some.inj (gTabType.symm.trans ht')
  unfold Lib.TabIs
  rw [hvar, ← Lib.cells_of_tab (k := .u64) (zs := Lib.pow10Tab) Tryd.underlying64 Tryd.underlying54 cellsE cellsT hd]

/-! The walk: the Go text returns true, and writes nothing that was there. -/
set_option maxHeartbeats 4000000 in
theorem walk (a0 : Int) (a1 : Option Addr) (len1 cap1 : Nat) (x1 : Nat → Int) (w : World) (w0 : (Lit.int .i64 a0).wf = true) (m1 : len1 ≤ maxLen) (w1 : Ints w w.heap.size a1 (len1 * 2) x1) (f1 : ∀ j, j < len1 * 2 → (Lit.int .i64 (x1 j)).wf = true) (htab : Lib.TabIs Tryd.prog w "internal/strconv.uint64pow10" .u64 Lib.pow10Tab) :
    Calls Tryd.prog 3 #[.int .i64 a0, .slice a1 len1 cap1] w fun e w' => e = .returned (.bool true) ∧ Below w.heap.size w w' := by
  have hT := Lib.hid (Lib.tabBelow_of_tabIs htab)
  clear htab
  obtain ⟨S, hS⟩ : ∃ S, rtT a0 len1 x1 = S := ⟨_, rfl⟩
  replace hS := Lib.hid hS
  by_cases hbig1 : 1048576 < (len1 : Int)
  · have hneg : ¬ (0 : Int) ≤ -1 := by omega
    unfold maxLen at m1
    go_enter Tryd.func3, Tryd.ntmps3
    go_wp2_with (first | (go_at_call 4; refine (szRatingS_any _ _ _ _ _ (by omega) (by omega) (by first | (unfold maxLen at m1; omega) | omega)).mono ?_; rintro e w' ⟨rfl, rfl⟩))
    go_ret
    exact ⟨rfl, Below.refl _ _⟩
  have hn1 : len1 ≤ 1048576 := by omega
  have hx1 := Lib.hid w1
  clear w1 m1 f1
  go_enter Tryd.func3, Tryd.ntmps3
  go_wp2_with (first | (go_at_call 4; refine (szRatingS_any _ _ _ _ _ (by omega) (by omega) (by omega)).mono ?_; rintro e w' ⟨rfl, rfl⟩) | fail)
  refine (toRatingS_any _ _ _ _ _ hx1.out hn1).mono ?_
  rintro e u1 ⟨rfl, ⟨cs1, hW1, -, hc1⟩, hb1⟩
  have a1_1 := Lib.hid ((hx1.out.below hb1).more hb1.size)
  clear hx1
  have s1 := Lib.hid (Ints.of_whole hW1 hW1.lt hc1)
  clear hW1 hc1
  go_wp2_with fail
  refine (sRatingsText_val _ _ _ _ _ _ S hS _ s1.out (Nat.le_refl _) (by omega)).mono ?_
  rintro e u2 ⟨rfl, hb2⟩
  have a1_2 := Lib.hid ((a1_1.out.below hb2).more hb2.size)
  clear a1_1
  have s1_2 := Lib.hid ((s1.out.below hb2).more hb2.size)
  clear s1
  go_wp2_with fail
  refine (toRatingS_any _ _ _ _ _ a1_2.out hn1).mono ?_
  rintro e u3 ⟨rfl, ⟨cs3, hW3, -, hc3⟩, hb3⟩
  have a1_3 := Lib.hid ((a1_2.out.below hb3).more hb3.size)
  clear a1_2
  have x1q := Lib.hid (Ints.of_whole hW3 hW3.lt hc3)
  clear hW3 hc3
  go_wp2_with fail
  refine (ratingsText_val _ _ _ _ _ _ S hS _ (pow3 hT.out hb1 hb2 hb3) x1q.out (Nat.le_refl _) (by omega)).mono ?_
  rintro e u4 ⟨rfl, hb4⟩
  have a1_4 := Lib.hid ((a1_3.out.below hb4).more hb4.size)
  clear a1_3
  have x1q_4 := Lib.hid ((x1q.out.below hb4).more hb4.size)
  clear x1q
  go_wp2_with fail
  refine (toRatingS_any _ _ _ _ _ a1_4.out hn1).mono ?_
  rintro e u5 ⟨rfl, ⟨cs5, hW5, -, hc5⟩, hb5⟩
  have a1_5 := Lib.hid ((a1_4.out.below hb5).more hb5.size)
  clear a1_4
  have x1q_5 := Lib.hid ((x1q_4.out.below hb5).more hb5.size)
  clear x1q_4
  have y1 := Lib.hid (Ints.of_whole hW5 hW5.lt hc5)
  clear hW5 hc5
  go_wp2_with fail
  refine (eqRatingS_same _ _ _ _ _ _ _ _ x1q_5.out y1.out (Nat.le_refl _) (by omega)).mono ?_
  rintro e u6 ⟨rfl, hb6⟩
  have a1_6 := Lib.hid ((a1_5.out.below hb6).more hb6.size)
  clear a1_5
  have x1q_6 := Lib.hid ((x1q_5.out.below hb6).more hb6.size)
  clear x1q_5
  have y1_6 := Lib.hid ((y1.out.below hb6).more hb6.size)
  clear y1
  have z1 := hb1.size
  have z2 := hb2.size
  have z3 := hb3.size
  have z4 := hb4.size
  have z5 := hb5.size
  have z6 := hb6.size
  go_wp2
  go_ret
  exact ⟨rfl, hb1.trans ((hb2.mono (by omega)).trans ((hb3.mono (by omega)).trans ((hb4.mono (by omega)).trans ((hb5.mono (by omega)).trans (hb6.mono (by omega))))))⟩

/-! ### THE ROW's STEP -/
/-- A world for the witness: the settled one, the tables holding what their initialisers lay. -/
noncomputable def laidWorld (os : Os) : World :=
  { World.holding Tryd.prog os ⟨#[], #[], []⟩ with heap := ((((World.holding Tryd.prog os ⟨#[], #[], []⟩).heap.modify 2 (fun
      | .cells _ t frozen => .cells #[.int .u8 0, .int .u8 1, .int .u8 28, .int .u8 2, .int .u8 29, .int .u8 14, .int .u8 24, .int .u8 3, .int .u8 30, .int .u8 22, .int .u8 20, .int .u8 15, .int .u8 25, .int .u8 17, .int .u8 4, .int .u8 8, .int .u8 31, .int .u8 27, .int .u8 13, .int .u8 23, .int .u8 21, .int .u8 19, .int .u8 16, .int .u8 7, .int .u8 26, .int .u8 12, .int .u8 18, .int .u8 6, .int .u8 11, .int .u8 5, .int .u8 10, .int .u8 9] t frozen
      | o => o)).modify 3 (fun
      | .cells _ t frozen => .cells #[.int .u8 0, .int .u8 1, .int .u8 56, .int .u8 2, .int .u8 57, .int .u8 49, .int .u8 28, .int .u8 3, .int .u8 61, .int .u8 58, .int .u8 42, .int .u8 50, .int .u8 38, .int .u8 29, .int .u8 17, .int .u8 4, .int .u8 62, .int .u8 47, .int .u8 59, .int .u8 36, .int .u8 45, .int .u8 43, .int .u8 51, .int .u8 22, .int .u8 53, .int .u8 39, .int .u8 33, .int .u8 30, .int .u8 24, .int .u8 18, .int .u8 12, .int .u8 5, .int .u8 63, .int .u8 55, .int .u8 48, .int .u8 27, .int .u8 60, .int .u8 41, .int .u8 37, .int .u8 16, .int .u8 46, .int .u8 35, .int .u8 44, .int .u8 21, .int .u8 52, .int .u8 32, .int .u8 23, .int .u8 11, .int .u8 54, .int .u8 26, .int .u8 40, .int .u8 15, .int .u8 34, .int .u8 20, .int .u8 31, .int .u8 10, .int .u8 25, .int .u8 14, .int .u8 19, .int .u8 9, .int .u8 13, .int .u8 8, .int .u8 7, .int .u8 6] t frozen
      | o => o)).modify 0 (fun
      | .cells _ t frozen => .cells #[.int .u64 1, .int .u64 10, .int .u64 100, .int .u64 1000, .int .u64 10000, .int .u64 100000, .int .u64 1000000, .int .u64 10000000, .int .u64 100000000, .int .u64 1000000000, .int .u64 10000000000, .int .u64 100000000000, .int .u64 1000000000000, .int .u64 10000000000000, .int .u64 100000000000000, .int .u64 1000000000000000, .int .u64 10000000000000000, .int .u64 100000000000000000, .int .u64 1000000000000000000, .int .u64 10000000000000000000] t frozen
      | o => o))}
theorem laid_met (os : Os) : laidMet Tryd.prog Rows.fnExactRatingsTextRow.laid ((laidWorld os).forCall (fun _ _ => 0) ⟨#[], #[.int .i64 0, .slice none 0 0], []⟩).memory :=
  laidMet_of_run' 8 (by kernel_rfl) (by kernel_rfl)
theorem reads (os : Os) {H : Type} (enc : TypeId × Value → H) : ∃ places, DataW.whole enc Tryd.prog ((laidWorld os).forCall (fun _ _ => 0) ⟨#[], #[.int .i64 0, .slice none 0 0], []⟩).memory Tryd.f3.params.toList Rows.fnExactRatingsTextSpec.vars false (#[.int .i64 0, .slice none 0 0] : Array Value).toList 8 = some ([.lit (.int .i64 0), .nil], [], places) :=
  ⟨[], by kernel_rfl⟩

set_option maxRecDepth 100000 in
theorem lifted (os : Os) (started : os.Started) (H : Type) (enc : TypeId × Value → H) (F : Stop.Interp) :
    ReturnsInHanded {} Tryd.checked os 3 .any ((OpenSpec.ofChange Rows.fnExactRatingsTextSpec).preRow enc Tryd.prog Tryd.f3 Rows.fnExactRatingsTextRow.domain false Rows.fnExactRatingsTextRow.laid) (((OpenSpec.ofChange Rows.fnExactRatingsTextSpec).at F).post enc Tryd.prog Tryd.f3 false true false false) := by
  obtain ⟨places, hx⟩ := reads os enc
  refine returnsInHanded_of_row (C := Tryd.checked) (s := OpenSpec.ofChange Rows.fnExactRatingsTextSpec) own started (by kernel_rfl) Tryd.func3
    (witness_row_at (enc := enc) (C := Tryd.checked) false (laidWorld os) #[.int .i64 0, .slice none 0 0] rfl (by kernel_rfl) (by kernel_rfl) (by kernel_rfl)
      (OpenSpec.preRow_of_cond 8 hx (by kernel_rfl) (fun k hk => by cases hk) (by kernel_rfl) (laid_met os))) ?_
  intro W base args ds gs before hval0 hW _ _ _ hL _ _
  have hval : ∀ (j : Nat) t v, Tryd.f3.params[j]? = some t → args[j]? = some v → Value.okWide Tryd.prog W .any base t v := hval0
  have hW' := hW
  obtain ⟨p, q, hA0, hV, rfl, hfz, hnd⟩ := hW
  have hA : DataW.TrodAll enc Tryd.prog W 0 (fun _ => true) true Tryd.f3.params.toList args.toList ds p := hA0
  rw [Tryd.params3] at hA hval
  obtain ⟨v0, vs0, d0, ds0, p0, q0, hargs, rfl, rfl, h0, r0⟩ := trodAll_cons hA
  obtain ⟨v1, vs1, d1, ds1, p1, q1, rfl, rfl, rfl, h1, r1⟩ := trodAll_cons r0
  obtain ⟨rfl, rfl, rfl⟩ := trodAll_nil r1
  obtain rfl : args = #[v0, v1] := by cases args; simp_all
  obtain ⟨rfl, rfl⟩ := trodVars_none hV
  obtain ⟨a0, rfl, rfl, rfl, w0⟩ := open_int Tryd.underlying2 (hval 0 2 v0 rfl rfl) h0
  obtain ⟨a1, len1, cap1, rfl⟩ := okWide_slice Tryd.underlying22 (hval 1 22 v1 rfl rfl)
  have k1 := h1
  have lt1 : ∀ x ∈ p1, x.block < W.heap.size := by obtain ⟨m, hm⟩ := k1; exact DataW.trod_lt m _ _ _ hm
  obtain ⟨m1, x1, w1, f1⟩ : len1 ≤ maxLen ∧ ∃ xs : Nat → Int, Ints W W.heap.size a1 (len1 * 2) xs ∧ ∀ j, j < len1 * 2 → (Lit.int .i64 (xs j)).wf = true := by
    obtain ⟨fuel, hf⟩ := h1
    simp only [Value.cells] at hf
    exact ints_of_structs (K := 2) Tryd.underlying22 Tryd.underlying34 (by kernel_rfl) (by kernel_rfl) rfl (fun j f hf => by
      match j, hf with
      | 0, hf => (cases hf; exact Tryd.underlying2)
      | 1, hf => (cases hf; exact Tryd.underlying2)
      | n + 2, hf => simp at hf) hf
  clear hA0 hval0
  refine (walk a0 a1 len1 cap1 x1 W w0 m1 w1 f1 (table hL)).mono fun e W' ⟨he, bel⟩ => ?_
  subst he
  exact ⟨_, rfl, _, _, _, [], _, [], hW', trodAll_mk1 (shut_bool Tryd.underlying4 _), (trodAll_cons_mk (shut_int Tryd.underlying2 w0) (trodAll_cons_mk (Below.trod laidOut (by kernel_rfl) (of_decide_eq_true (by kernel_rfl)) k1 bel lt1) trodAll_mk0)), rfl, bel.frame _, fun h => by cases h⟩

theorem over : Rows.FnExactRatingsTextSaid :=
  OpenClaim.holds_of_cond 3 Tryd.f3 rfl rfl rfl rfl rfl rfl rfl ⟨rfl, rfl, rfl, rfl, rfl⟩ rfl rfl rfl rfl rfl (by kernel_rfl) Tryd.func3 (by kernel_rfl)
    (of_decide_eq_true (by kernel_rfl)) (by unfold Func.isWrapper; first | (rw [if_pos (by decide +kernel)]; kernel_rfl) | (rw [if_neg (by decide +kernel)]; exact ⟨rfl, rfl⟩))
    (fun os started H enc _ F => by rw [OpenClaim.pre_eq_preRow]; exact lifted os started H enc F)

theorem plain (f : FuncId) (fn : Func) (hf : Tryd.pinned.checked.prog.funcNamed "loop.example/g00887/laws.FnExactRatingsText" = some f) (hfn : Tryd.pinned.checked.prog.funcs[f]? = some fn) :
    false = Tryd.pinned.checked.prog.looks [] ∧ ∀ (j : Nat) t, fn.params[j]? = some t → Tryd.pinned.checked.prog.wantsStandIn t = false := by
  obtain rfl : f = 3 := Option.some.inj ((show Tryd.prog.funcNamed "loop.example/g00887/laws.FnExactRatingsText" = some 3 by kernel_rfl).symm.trans hf) |>.symm
  obtain rfl : fn = Tryd.f3 := (Option.some.inj (Tryd.func3.symm.trans hfn)).symm
  refine ⟨by kernel_rfl, fun j t ht => ?_⟩
  rw [Tryd.params3] at ht
  have ht' := Array.mem_of_getElem? ht
  simp only [List.mem_toArray, List.mem_cons, List.not_mem_nil, or_false] at ht'
  rcases ht' with rfl | rfl
  · exact (show Tryd.prog.wantsStandIn 2 = false by kernel_rfl)
  · exact (show Tryd.prog.wantsStandIn 22 = false by kernel_rfl)

/-- THE CARD -/
theorem proved : Rows.FnExactRatingsTextCardSaid :=
  Claim7.holds_tied_plain_at .later [] _ _ _ _ over (fun _ h => by cases h) (by kernel_rfl) (fun _ h => by cases h) fnExactRatingsText_row_tie rfl ⟨rfl, rfl⟩ (by kernel_rfl) rfl plain (by kernel_rfl)
#print axioms proved
end Go.Proofs.YtbmclcajgplpnaaDoor.fnExactRatingsText
