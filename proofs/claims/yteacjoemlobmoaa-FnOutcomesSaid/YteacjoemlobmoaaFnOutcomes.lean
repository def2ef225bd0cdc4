/- The law FnOutcomes: for every input the call returns true, and each argument reads afterwards as it read before. No condition. -/
import Derived.Test.YteacjoemlobmoaaOut
import Derived.Test.YteacjoemlobmoaaRows
import Derived.WalkKit
import Derived.ProofKit
import Derived.OpenShut
import Derived.ShutString
import Derived.ChangeOld
import Derived.Below
namespace Go.Proofs.Yteacjoemlobmoaa.fnOutcomes
open Go.ChangeShapes Go.WideShapes Go.ChangeAt Go.RowKit
open Go.ChangeMaps (open_string shut_string)
set_option linter.unusedVariables false

theorem own : ownKnob Try.prog.godebug = none := by kernel_rfl
theorem laidOut : laidOutB Try.prog = true := by kernel_rfl

/-- WHAT THE WALK IS TOLD OF A SLICE OF INTEGERS THAT CAME IN: it is nil; or it leads to a row of 'cap' cells, the numbers 'zs' (the first 'len' are its elements, the rest its spare room), each fitting its kind. -/
def IsRow (k : IntKind) (w : World) (a : Option Addr) (len cap : Nat) (zs : List Int) : Prop :=
  (a = none ∧ len = 0 ∧ cap = 0 ∧ zs = []) ∨
  ∃ x, a = some x ∧ len ≤ cap ∧ cap ≤ maxLen ∧ zs.length = cap ∧ (∀ i, i < zs.length → w.cell? (x.add i) = some (.int k (zs.getD i 0))) ∧ ∀ n ∈ zs, (Lit.int k n).wf = true

/-! ### STEP 1: THE WALK: the Go text returns true, AND WRITES NOTHING THAT WAS THERE: 'Below w.heap.size w w'' (Derived/Below.lean: '.refl', '.alloc', '.drew', '.setCell' at a new block, '.trans'). Open each 'IsRow' by 'rcases' AHEAD of 'go_enter'; part every test ahead of the walk. -/
set_option maxRecDepth 100000 in
set_option maxHeartbeats 8000000 in
theorem walk (a0 : Option Addr) (len0 cap0 : Nat) (z0 : List Int) (w : World) (w0 : IsRow .u8 w a0 len0 cap0 z0) :
    Calls Try.prog 9 #[.slice a0 len0 cap0] w fun e w' => e = .returned (.bool true) ∧ Below w.heap.size w w' := by
  obtain ⟨hc, hb⟩ := code_of w0
  by_cases hbig : 4096 < len0
  · go_enter Try.func9, Try.ntmps9
    go_wp2
    go_ret
    exact ⟨rfl, Below.refl _ _⟩
  obtain ⟨n, xs, hD⟩ := drawOutcomeOf_ex len0 _ (by omega) hb
  replace hD := Lib.hid hD
  clear hb w0
  go_enter Try.func9, Try.ntmps9
  go_wp2_with (first | (go_at_call 31; go_in) | fail)
  refine (hD.out _ _ _ hc).mono ?_
  rintro e w1 ⟨A1, c1, rfl, n8, _, _, hI1, hb1⟩
  have hc1 := Lib.hid ((hc.below hb1).more hb1.size)
  replace hI1 := Lib.hid hI1
  clear hc
  go_wp2_with fail
  refine (outcomeOf_any _ _ _ _ _ _ hI1.out (Nat.le_refl _) (by omega)).mono ?_
  rintro e w2 ⟨rfl, hb2⟩
  have hc2 := Lib.hid ((hc1.out.below hb2).more hb2.size)
  have hI2 := Lib.hid ((hI1.out.below hb2).more hb2.size)
  clear hc1 hI1
  go_wp2_with fail
  refine (isOpenCase_any _ _ _ _ _ _ hI2.out (Nat.le_refl _) (by omega)).mono ?_
  rintro e w3 ⟨rfl, hb3⟩
  have hc3 := Lib.hid ((hc2.out.below hb3).more hb3.size)
  clear hc2 hI2
  go_wp2_with fail
  refine (hD.out _ _ _ hc3.out).mono ?_
  rintro e w4 ⟨A4, c4, rfl, _, hnc, hcm, hI4, hb4⟩
  replace hI4 := Lib.hid hI4
  clear hc3 hD
  go_wp2_with fail
  refine (sOutcomeOf_any _ _ _ _ _ _ hI4.out (Nat.le_refl _) (by omega)).mono ?_
  rintro e w5 ⟨rfl, hb5⟩
  have hI5 := Lib.hid ((hI4.out.below hb5).more hb5.size)
  clear hI4
  go_wp2_with fail
  refine (sIsOpenCase_any _ _ _ _ _ _ hI5.out (Nat.le_refl _) (by omega)).mono ?_
  rintro e w6 ⟨rfl, hb6⟩
  have hI6 := Lib.hid ((hI5.out.below hb6).more hb6.size)
  clear hI5
  have z1 := hb1.size
  have z2 := hb2.size
  have z3 := hb3.size
  have z4 := hb4.size
  have z5 := hb5.size
  have z6 := hb6.size
  have hbb : Below w.heap.size w w6 := hb1.trans ((hb2.mono (by omega)).trans ((hb3.mono (by omega)).trans ((hb4.mono (by omega)).trans ((hb5.mono (by omega)).trans (hb6.mono (by omega))))))
  clear hb1 hb2 hb3 hb4 hb5 hb6
  have hzz := hbb.size
  cases hh : hisB n xs with
  | false =>
    have e1 : openV n xs = (false, 1) := by simp [openV, hh]
    generalize ocV n xs = V at *
    obtain ⟨x1, x2⟩ := V
    go_wp2
    go_ret
    exact ⟨rfl, hbb⟩
  | true =>
  rcases Nat.eq_zero_or_pos n with hn0 | hn0
  · subst hn0
    have e1 : openV 0 xs = (!(runS xs 0).1.1, 0) := by simp [openV, hh]
    generalize (!(runS xs 0).1.1) = ob at e1
    generalize ocV 0 xs = V at *
    obtain ⟨x1, x2⟩ := V
    go_wp2
    go_ret
    exact ⟨rfl, hbb⟩
  obtain ⟨q, rfl⟩ : ∃ q, n = q + 1 := ⟨n - 1, by omega⟩
  have hlaw := out_law hh
  obtain ⟨b, o, rfl, hadB, hcode⟩ := hI6.out (by omega)
  have g0 : w6.cell? ⟨b, o + q * 3, none⟩ = some (.int .i64 (xs (q * 3))) := hcode (q * 3) (by omega)
  have g1 : w6.cell? ⟨b, o + q * 3 + 1, none⟩ = some (.int .i64 (xs (q * 3 + 1))) := hcode (q * 3 + 1) (by omega)
  have g2 : w6.cell? ⟨b, o + q * 3 + 2, none⟩ = some (.int .i64 (xs (q * 3 + 2))) := hcode (q * 3 + 2) (by omega)
  have hwr : IntKind.i64.wrap (q : Int) = q := IntWalk.i64_in _ (by omega)
  have hq1 : (q : Int) < (q : Int) + 1 := by omega
  clear hcode
  have hIq := Lib.hid (hI6.out.fewer (m := q * 3) (by omega))
  clear hI6
  have hcall := fun W (hW : Below w6.heap.size w6 W) => outcomeOf_any (some ⟨b, o, none⟩) q c4 w6.heap.size xs W (hIq.out.below hW) hW.size (by omega)
  have hqc : q ≤ c4 := by omega
  have hqc' : ¬ c4 < q := by omega
  have hqz : (q : Int) ≤ (c4 : Int) := by omega
  generalize xs (q * 3) = tm at *
  generalize xs (q * 3 + 1) = kd at *
  generalize xs (q * 3 + 2) = ov at *
  rcases hlaw with ⟨hk, e1, e2⟩ | ⟨h1, h3, e1, e2⟩
  · clear hcall
    rcases hk with rfl | rfl
    · go_wp2
      all_goals (go_ret; exact ⟨rfl, hbb.trans ((Below.refl _ _).alloc hzz _)⟩)
    · go_wp2
      all_goals (go_ret; exact ⟨rfl, hbb.trans ((Below.refl _ _).alloc hzz _)⟩)
  · have n1 : (kd == 1) = false := by rw [beq_eq_false_iff_ne]; exact h1
    have n3 : (kd == 3) = false := by rw [beq_eq_false_iff_ne]; exact h3
    rw [e1] at hcall
    replace hcall := Lib.hid hcall
    clear e1 h1 h3
    generalize ocV (q + 1) xs = V at *
    obtain ⟨x1, x2⟩ := V
    go_wp2_with fail
    refine (hcall.out _ ((Below.refl _ _).alloc (Nat.le_refl _) _)).mono ?_
    rintro e w7 ⟨rfl, hb7⟩
    have hX := (Whole.new w6 44 #[.int .i64 tm, .int .i64 kd, .int .i64 ov]).below hb7 (by simp)
    have y1 := hX.cell 1
    simp at y1
    have z7 := hb7.size
    simp at z7
    have hbb7 : Below w.heap.size w w7 := (hbb.alloc hzz _).trans (hb7.mono (by simp; omega))
    clear hb7 hX hcall
    by_cases k4 : kd = 4
    · subst k4
      go_wp2
      all_goals (go_ret; exact ⟨rfl, hbb7⟩)
    · have n4 : (kd == 4) = false := by rw [beq_eq_false_iff_ne]; exact k4
      by_cases k5 : kd = 5
      · subst k5
        go_wp2
        all_goals (go_ret; exact ⟨rfl, hbb7⟩)
      · have n5 : (kd == 5) = false := by rw [beq_eq_false_iff_ne]; exact k5
        rw [n4, n5] at e2
        go_wp2
        all_goals (go_ret; exact ⟨rfl, hbb7⟩)

/-! ### THE ROW's STEP: WRITTEN OUT: LEAVE IT -/
set_option maxRecDepth 100000 in
theorem lifted (os : Os) (started : os.Started) (H : Type) (enc : TypeId × Value → H) :
    ReturnsInHanded {} Try.checked os 9 .any (Rows.fnOutcomesSpec.pre6 enc Try.prog Try.f9 Rows.fnOutcomesRow.domain false) (Rows.fnOutcomesSpec.post enc Try.prog Try.f9 false true false false) := by
  refine returnsInHanded_of_change (C := Try.checked) own started (by kernel_rfl) Try.func9
    (ChangeSpec.witness6 (enc := enc) (C := Try.checked) false ⟨#[], #[.slice none 0 0], []⟩ 8 (by kernel_rfl) (by kernel_rfl) (by kernel_rfl) (by kernel_rfl)) ?_
  intro W base args ds gs before hval0 hW hcnd _
  have hval : ∀ (j : Nat) t v, Try.f9.params[j]? = some t → args[j]? = some v → Value.okWide Try.prog W .any base t v := hval0
  have hW' := hW
  obtain ⟨p, q, hA0, hV, rfl, hfz, hnd⟩ := hW
  have hA : DataW.TrodAll enc Try.prog W 0 (fun _ => true) true Try.f9.params.toList args.toList ds p := hA0
  rw [Try.params9] at hA hval
  obtain ⟨v0, vs0, d0, ds0, p0, q0, hargs, rfl, rfl, h0, r0⟩ := trodAll_cons hA
  obtain ⟨rfl, rfl, rfl⟩ := trodAll_nil r0
  obtain rfl : args = #[v0] := by cases args; simp_all
  obtain ⟨rfl, rfl⟩ := trodVars_none hV
  obtain ⟨a0, len0, cap0, rfl⟩ := okWide_slice Try.underlying47 (hval 0 47 v0 rfl rfl)
  have k0 := h0
  have lt0 : ∀ x ∈ p0, x.block < W.heap.size := by obtain ⟨m, hm⟩ := k0; exact DataW.trod_lt m _ _ _ hm
  obtain ⟨z0, w0⟩ : ∃ zs, IsRow .u8 W a0 len0 cap0 zs := by
    obtain ⟨fuel, hf⟩ := h0
    rcases open_ints Try.underlying47 Try.underlying5 (by kernel_rfl) hf with ⟨hcs, _⟩ | ⟨x, l, c, zs, hcs, _, hl, hm, hz, _, hcell, hwz⟩
    · simp [Value.cells] at hcs
      obtain ⟨rfl, rfl, rfl⟩ := hcs
      exact ⟨[], .inl ⟨rfl, rfl, rfl, rfl⟩⟩
    · simp [Value.cells] at hcs
      obtain ⟨rfl, rfl, rfl⟩ := hcs
      exact ⟨zs, .inr ⟨_, rfl, hl, hm, by simpa using hz, hcell, hwz⟩⟩
  clear hA0 hval0
  refine (walk a0 len0 cap0 z0 W w0).mono fun e W' ⟨he, bel⟩ => ?_
  subst he
  exact ⟨_, rfl, _, _, _, [], _, [], hW', trodAll_mk1 (shut_bool Try.underlying4 _), (trodAll_cons_mk (Below.trod laidOut (by kernel_rfl) (of_decide_eq_true (by kernel_rfl)) k0 bel lt0) trodAll_mk0), rfl, bel.frame _, fun h => by cases h⟩

theorem over : Rows.fnOutcomesRow.holds Try.pinned (OpenSpec.ofChange Rows.fnOutcomesSpec) :=
  OpenClaim.holds_of_wide 9 Try.f9 rfl rfl rfl rfl rfl rfl rfl ⟨rfl, rfl, rfl, rfl, rfl⟩ rfl rfl rfl rfl rfl (by kernel_rfl) Try.func9 (by kernel_rfl)
    (of_decide_eq_true (by kernel_rfl)) (by unfold Func.isWrapper; first | (rw [if_pos (by decide +kernel)]; kernel_rfl) | (rw [if_neg (by decide +kernel)]; exact ⟨rfl, rfl⟩))
    (fun os started H enc _ => lifted os started H enc)

/-- THE STATEMENT -/
theorem proved : Rows.FnOutcomesSaid := over
#print axioms proved
end Go.Proofs.Yteacjoemlobmoaa.fnOutcomes
