/- The law FnDeadlines: for every input the call returns true, and each argument reads afterwards as it read before. No condition. -/
import Derived.Test.YtghpaegabppeaaaOpen
import Derived.Test.YtghpaegabppeaaaDW2
import Derived.Test.YtghpaegabppeaaaRows
import Derived.WalkKit
import Derived.ProofKit
import Derived.OpenShut
import Derived.ShutString
import Derived.ChangeOld
import Derived.Below
namespace Go.Proofs.Ytghpaegabppeaaa.fnDeadlines
open Go.ChangeShapes Go.WideShapes Go.ChangeAt Go.RowKit
open Go.ChangeMaps (open_string shut_string)
set_option linter.unusedVariables false

theorem own : ownKnob Try.prog.godebug = none := by kernel_rfl
theorem laidOut : laidOutB Try.prog = true := by kernel_rfl

/-- WHAT THE WALK IS TOLD OF A SLICE OF INTEGERS THAT CAME IN: it is nil; or it leads to a row of 'cap' cells, the numbers 'zs' (the first 'len' are its elements, the rest its spare room), each fitting its kind. -/
def IsRow (k : IntKind) (w : World) (a : Option Addr) (len cap : Nat) (zs : List Int) : Prop :=
  (a = none ∧ len = 0 ∧ cap = 0 ∧ zs = []) ∨
  ∃ x, a = some x ∧ len ≤ cap ∧ cap ≤ maxLen ∧ zs.length = cap ∧ (∀ i, i < zs.length → w.cell? (x.add i) = some (.int k (zs.getD i 0))) ∧ ∀ n ∈ zs, (Lit.int k n).wf = true

/-! ### STEP 1: THE WALK: the Go text returns true, AND WRITES NOTHING THAT WAS THERE: 'Below w.heap.size w w'' (Derived/Below.lean: '.refl', '.alloc', '.drew', '.setCell' at a new block, '.trans'). Open each 'IsRow' by 'rcases' AHEAD of 'go_enter'; part every test ahead of the walk. -/
set_option maxRecDepth 100000 in
set_option maxHeartbeats 8000000 in
theorem walk (a0 : Option Addr) (len0 cap0 : Nat) (z0 : List Int) (w : World) (w0 : IsRow .u8 w a0 len0 cap0 z0) :
    Calls Try.prog 9 #[.slice a0 len0 cap0] w fun e w' => e = .returned (.bool true) ∧ Below w.heap.size w w' := by
  obtain ⟨hc, hb⟩ := code_of w0
  by_cases hbig : 4096 < len0
  · go_enter Try.func9, Try.ntmps9
    go_wp2
    go_ret
    exact ⟨rfl, Below.refl _ _⟩
  obtain ⟨n, xs, f, t, n5, f0, f1, t0, t1, hD⟩ := drawDeadlineAfter_ex len0 _ (by omega) hb
  replace hD := Lib.hid hD
  clear hb w0
  go_enter Try.func9, Try.ntmps9
  go_wp2_with (first | (go_at_call 28; go_in) | fail)
  refine (hD.out _ _ _ hc).mono ?_
  rintro e w1 ⟨A1, c1, rfl, hI1, hb1⟩
  have hc1 := Lib.hid ((hc.below hb1).more hb1.size)
  replace hI1 := Lib.hid hI1
  clear hc
  go_wp2_with fail
  refine (deadlineAfterF_any _ _ _ _ _ _ _ _ hI1.out (Nat.le_refl _) (by omega) (by omega)).mono ?_
  rintro e w2 ⟨rfl, hb2⟩
  have hc2 := Lib.hid ((hc1.out.below hb2).more hb2.size)
  clear hc1 hI1
  go_wp2_with fail
  refine (hD.out _ _ _ hc2.out).mono ?_
  rintro e w3 ⟨A3, c3, rfl, hI3, hb3⟩
  replace hI3 := Lib.hid hI3
  clear hc2 hD
  go_wp2_with fail
  refine (sDeadlineAfterF_any _ _ _ _ _ _ _ _ hI3.out (Nat.le_refl _) (by omega) (by omega)).mono ?_
  rintro e w4 ⟨rfl, hb4⟩
  have hI4 := Lib.hid ((hI3.out.below hb4).more hb4.size)
  have z1 := hb1.size
  have z2 := hb2.size
  have z3 := hb3.size
  have z4 := hb4.size
  have hbb : Below w.heap.size w w4 := hb1.trans ((hb2.mono (by omega)).trans ((hb3.mono (by omega)).trans (hb4.mono (by omega))))
  clear hb1 hb2 hb3 hb4 hI3
  have hzz := hbb.size
  rcases daV_cases n xs f t with e1 | e1 | e1 | ⟨r, e1⟩
  · go_wp2
    go_ret
    exact ⟨rfl, hbb⟩
  · go_wp2
    go_ret
    exact ⟨rfl, hbb⟩
  · go_wp2
    go_ret
    exact ⟨rfl, hbb⟩
  · obtain ⟨q0, q1, q2, o1, i1, l0, o2, i2⟩ := dl_law e1
    go_wp2_with fail
    refine (openTime_any _ _ _ _ _ _ _ _ hI4.out (Nat.le_refl _) (by omega)).mono ?_
    rintro e w5 ⟨rfl, hb5⟩
    have hI5 := Lib.hid ((hI4.out.below hb5).more hb5.size)
    have z5 := hb5.size
    go_wp2_with fail
    refine (isInTime_any _ _ _ _ _ _ _ _ _ hI5.out (Nat.le_refl _) (by omega) (by omega)).mono ?_
    rintro e w6 ⟨rfl, hb6⟩
    have hI6 := Lib.hid ((hI5.out.below hb6).more hb6.size)
    have z6 := hb6.size
    have hbb6 : Below w.heap.size w w6 := hbb.trans ((hb5.mono (by omega)).trans (hb6.mono (by omega)))
    clear hb5 hb6 hbb hI4 hI5
    by_cases h1 : r = f
    · have hl := l0 h1
      subst hl
      subst h1
      go_wp2
      go_ret
      exact ⟨rfl, hbb6⟩
    · by_cases h2 : r = 1000000000
      · subst h2
        have h1' : ((1000000000 : Int) == f) = false := by rw [beq_eq_false_iff_ne]; exact h1
        go_wp2
        all_goals (go_ret; exact ⟨rfl, hbb6⟩)
      · have h1' : (r == f) = false := by rw [beq_eq_false_iff_ne]; exact h1
        have h2' : (r == 1000000000) = false := by rw [beq_eq_false_iff_ne]; exact h2
        have o3 := o2 h1
        have i3 := i2 h2
        clear o2 i2 l0
        go_wp2_with fail
        refine (openTime_any _ _ _ _ _ _ _ _ hI6.out (Nat.le_refl _) (by omega)).mono ?_
        rintro e w7 ⟨rfl, hb7⟩
        have hI7 := Lib.hid ((hI6.out.below hb7).more hb7.size)
        have z7 := hb7.size
        go_wp2_with fail
        refine (isInTime_any _ _ _ _ _ _ _ _ _ hI7.out (Nat.le_refl _) (by omega) (by omega)).mono ?_
        rintro e w8 ⟨rfl, hb8⟩
        have hbb8 : Below w.heap.size w w8 := hbb6.trans ((hb7.mono (by omega)).trans (hb8.mono (by omega)))
        clear hb7 hb8 hbb6 hI6 hI7
        go_wp2
        go_ret
        exact ⟨rfl, hbb8⟩

/-! ### THE ROW's STEP: WRITTEN OUT: LEAVE IT -/
set_option maxRecDepth 100000 in
theorem lifted (os : Os) (started : os.Started) (H : Type) (enc : TypeId × Value → H) :
    ReturnsInHanded {} Try.checked os 9 .any (Rows.fnDeadlinesSpec.pre6 enc Try.prog Try.f9 Rows.fnDeadlinesRow.domain false) (Rows.fnDeadlinesSpec.post enc Try.prog Try.f9 false true false false) := by
  refine returnsInHanded_of_change (C := Try.checked) own started (by kernel_rfl) Try.func9
    (ChangeSpec.witness6 (enc := enc) (C := Try.checked) false ⟨#[], #[.slice none 0 0], []⟩ 8 (by kernel_rfl) (by kernel_rfl) (by kernel_rfl) (by kernel_rfl)) ?_
  intro W base args ds gs before hval0 hW hcnd _
  have hval : ∀ (j : Nat) t v, Try.f9.params[j]? = some t → args[j]? = some v → Value.okWide Try.prog W .any base t v := hval0
  have hW' := hW
  obtain ⟨p, q, hA0, hV, rfl, hfz, hnd⟩ := hW
  have hA : DataW.TrodAll enc Try.prog W 0 (fun _ => true) true Try.f9.params.toList args.toList ds p := hA0
  rw [Try.params9] at hA hval
  obtain ⟨v0, vs0, d0, ds0, p0, q0, hargs, rfl, rfl, h0, r0⟩ := trodAll_cons hA
  obtain ⟨rfl, rfl, rfl⟩ := trodAll_nil r0
  obtain rfl : args = #[v0] := by cases args; simp_all
  obtain ⟨rfl, rfl⟩ := trodVars_none hV
  obtain ⟨a0, len0, cap0, rfl⟩ := okWide_slice Try.underlying38 (hval 0 38 v0 rfl rfl)
  have k0 := h0
  have lt0 : ∀ x ∈ p0, x.block < W.heap.size := by obtain ⟨m, hm⟩ := k0; exact DataW.trod_lt m _ _ _ hm
  obtain ⟨z0, w0⟩ : ∃ zs, IsRow .u8 W a0 len0 cap0 zs := by
    obtain ⟨fuel, hf⟩ := h0
    rcases open_ints Try.underlying38 Try.underlying5 (by kernel_rfl) hf with ⟨hcs, _⟩ | ⟨x, l, c, zs, hcs, _, hl, hm, hz, _, hcell, hwz⟩
    · simp [Value.cells] at hcs
      obtain ⟨rfl, rfl, rfl⟩ := hcs
      exact ⟨[], .inl ⟨rfl, rfl, rfl, rfl⟩⟩
    · simp [Value.cells] at hcs
      obtain ⟨rfl, rfl, rfl⟩ := hcs
      exact ⟨zs, .inr ⟨_, rfl, hl, hm, by simpa using hz, hcell, hwz⟩⟩
  clear hA0 hval0
  refine (walk a0 len0 cap0 z0 W w0).mono fun e W' ⟨he, bel⟩ => ?_
  subst he
  exact ⟨_, rfl, _, _, _, [], _, [], hW', trodAll_mk1 (shut_bool Try.underlying4 _), (trodAll_cons_mk (Below.trod laidOut (by kernel_rfl) (of_decide_eq_true (by kernel_rfl)) k0 bel lt0) trodAll_mk0), rfl, bel.frame _, fun h => by cases h⟩

theorem over : Rows.fnDeadlinesRow.holds Try.pinned (OpenSpec.ofChange Rows.fnDeadlinesSpec) :=
  OpenClaim.holds_of_wide 9 Try.f9 rfl rfl rfl rfl rfl rfl rfl ⟨rfl, rfl, rfl, rfl, rfl⟩ rfl rfl rfl rfl rfl (by kernel_rfl) Try.func9 (by kernel_rfl)
    (of_decide_eq_true (by kernel_rfl)) (by unfold Func.isWrapper; first | (rw [if_pos (by decide +kernel)]; kernel_rfl) | (rw [if_neg (by decide +kernel)]; exact ⟨rfl, rfl⟩))
    (fun os started H enc _ => lifted os started H enc)

/-- THE STATEMENT -/
theorem proved : Rows.FnDeadlinesSaid := over
#print axioms proved
end Go.Proofs.Ytghpaegabppeaaa.fnDeadlines
