/- The law FnDecisions: for every input the call returns true, and each argument reads afterwards as it read before. No condition. -/
import Derived.Test.YtcilgohjeobamaaDec
import Derived.Test.YtcilgohjeobamaaRows
import Derived.WalkKit
import Derived.ProofKit
import Derived.OpenShut
import Derived.ShutString
import Derived.ChangeOld
import Derived.Below
namespace Go.Proofs.Ytcilgohjeobamaa.fnDecisions
open Go.ChangeShapes Go.WideShapes Go.ChangeAt Go.RowKit
open Go.ChangeMaps (open_string shut_string)
set_option linter.unusedVariables false

theorem own : ownKnob Try.prog.godebug = none := by kernel_rfl
theorem laidOut : laidOutB Try.prog = true := by kernel_rfl

/-- WHAT THE WALK IS TOLD OF A SLICE OF INTEGERS THAT CAME IN: it is nil; or it leads to a row of 'cap' cells, the numbers 'zs' (the first 'len' are its elements, the rest its spare room), each fitting its kind. -/
def IsRow (k : IntKind) (w : World) (a : Option Addr) (len cap : Nat) (zs : List Int) : Prop :=
  (a = none ∧ len = 0 ∧ cap = 0 ∧ zs = []) ∨
  ∃ x, a = some x ∧ len ≤ cap ∧ cap ≤ maxLen ∧ zs.length = cap ∧ (∀ i, i < zs.length → w.cell? (x.add i) = some (.int k (zs.getD i 0))) ∧ ∀ n ∈ zs, (Lit.int k n).wf = true

/-! ### STEP 1: THE WALK: the Go text returns true, AND WRITES NOTHING THAT WAS THERE: 'Below w.heap.size w w'' (Derived/Below.lean: '.refl', '.alloc', '.drew', '.setCell' at a new block, '.trans'). Open each 'IsRow' by 'rcases' AHEAD of 'go_enter'; part every test ahead of the walk. -/
set_option maxRecDepth 100000 in
set_option maxHeartbeats 8000000 in
theorem walk (a0 : Option Addr) (len0 cap0 : Nat) (z0 : List Int) (w : World) (w0 : IsRow .u8 w a0 len0 cap0 z0) :
    Calls Try.prog 7 #[.slice a0 len0 cap0] w fun e w' => e = .returned (.bool true) ∧ Below w.heap.size w w' := by
  obtain ⟨hc, hb⟩ := code_of w0
  by_cases hbig : 4096 < len0
  · go_enter Try.func7, Try.ntmps7
    go_wp2
    go_ret
    exact ⟨rfl, Below.refl _ _⟩
  obtain ⟨pb, pa, n, xs, D, hD⟩ := drawDecideHearing_ex len0 _ (by omega) hb
  replace hD := Lib.hid hD
  clear w0 hb
  obtain ⟨V, hV⟩ : ∃ z, heV pb pa n xs D.length (lenD D) (facD D) (outD D) = z := ⟨_, rfl⟩
  obtain ⟨vo, va, co⟩ := V
  replace hV := Lib.hid hV
  obtain ⟨nd, hnd⟩ : ∃ z, D.length = z := ⟨_, rfl⟩
  unfold DrewJ at hD
  rw [hnd] at hD hV
  generalize lenD D = fl at hD hV
  generalize facD D = fx at hD hV
  generalize outD D = o at hD hV
  clear hnd
  go_enter Try.func7, Try.ntmps7
  go_wp2_with (first | (go_at_call 16; go_in) | fail)
  refine (hD.out _ _ _ hc).mono ?_
  rintro e w1 ⟨A1, AD1, c1, cd1, fa1, fc1, rfl, n13, hnc1, hcm1, hI1, nd4, hnd1, hcd1, hM1, hb1⟩
  have hc1 := Lib.hid ((hc.below hb1).more hb1.size)
  clear hc
  go_wp2_with fail
  refine (decideHearing_val _ _ _ _ _ _ _ _ _ _ _ _ _ _ _ _ w1 hI1 (Nat.le_refl _) (by omega) hnc1 hM1 (Nat.le_refl _) (by unfold maxLen; omega) vo va co hV).mono ?_
  rintro e w2 ⟨rfl, hb2⟩
  have hc2 := Lib.hid ((hc1.out.below hb2).more hb2.size)
  clear hc1 hI1 hM1
  go_wp2_with fail
  refine (hD.out _ _ _ hc2.out).mono ?_
  rintro e w3 ⟨A3, AD3, c3, cd3, fa3, fc3, rfl, -, hnc3, hcm3, hI3, -, hnd3, hcd3, hM3, hb3⟩
  clear hD hc2
  replace hI3 := Lib.hid hI3
  replace hM3 := Lib.hid hM3
  go_wp2_with fail
  refine (sDecideHearing_val _ _ _ _ _ _ _ _ _ _ _ _ _ _ _ _ w3 hI3.out (Nat.le_refl _) (by omega) hM3.out (Nat.le_refl _) (by unfold maxLen; omega) vo va co hV).mono ?_
  rintro e w4 ⟨rfl, hb4⟩
  have hI4 := Lib.hid ((hI3.out.below hb4).more hb4.size)
  have hM4 := Lib.hid ((hM3.out.below hb4).more hb4.size)
  clear hI3 hM3
  have z1 := hb1.size
  have z2 := hb2.size
  have z3 := hb3.size
  have z4 := hb4.size
  have hbb4 : Below w.heap.size w w4 := hb1.trans ((hb2.mono (by omega)).trans ((hb3.mono (by omega)).trans (hb4.mono (by omega))))
  clear hb1 hb2 hb3 hb4
  have hzz := hbb4.size
  by_cases h0 : co = 0
  · subst h0
    obtain ⟨hp, hs, -, -⟩ := heV_0 hV.out
    obtain ⟨vo0, vo3, hlaw⟩ := dec_law hV.out
    obtain ⟨hcF, hKF, -, -⟩ := facts_get hp hs
    obtain ⟨hpen1, hpen2⟩ := pen_by hp vo0 vo3
    obtain ⟨L, hL⟩ : ∃ z, facL pb pa n xs = z := ⟨_, rfl⟩
    rw [hL] at hlaw
    replace hL := Lib.hid hL
    replace hcF := Lib.hid hcF
    replace hKF := Lib.hid hKF
    replace hlaw := Lib.hid hlaw
    replace hpen1 := Lib.hid hpen1
    replace hpen2 := Lib.hid hpen2
    clear hs hV
    go_wp2_with fail
    refine (findFacts_val _ _ _ _ _ _ _ _ 8 L 0 hL hcF hKF hI4.out (Nat.le_refl _) (by omega) hnc3).mono ?_
    rintro e w5 ⟨A5, c5, rfl, -, ho5, hb5⟩
    have z5 := hb5.size
    have hM5 := Lib.hid ((hM4.out.below hb5).more z5)
    have hF5 := Lib.hid (Ints.of_own (xs := fun j => L.getD j 0) (n := 8) ho5 (Nat.le_refl _) (by have := (cells_of ho5).1; simp; omega) (fun j hj => (cells_of ho5).2 j (by omega)))
    have hbb5 : Below w.heap.size w w5 := hbb4.trans (hb5.mono (by omega))
    clear ho5 hb5 hbb4 hI4 hM4 hL hcF hKF
    go_wp2_with fail
    go_loopw [15] (fun vi wr => ∃ i : Nat, i ≤ nd ∧ vi = .int .i64 i ∧ Below w5.heap.size w5 wr) (fun vi _ => (nd - intOf vi).toNat)
    case atStart => exact ⟨0, by omega, rfl, Below.refl _ _⟩
    case round =>
      obtain ⟨i, hi, rfl, hbx⟩ := hrel
      have hzx := hbx.size
      by_cases hlt : i < nd
      · obtain ⟨q, hq, hq1, hq2⟩ := hlaw.out i hlt
        have hMr := hM5.out.below hbx
        obtain ⟨b, off, hAD, hb, hcc⟩ := hMr.1 (by omega)
        subst hAD
        obtain ⟨g0, g1⟩ := hcc i hlt
        obtain ⟨hI, hfc, hfm⟩ := hMr.2 i hlt
        have hcall := isMetF_any A5 (fa3 i) 8 c5 (fl i) (fc3 i) w5.heap.size w5.heap.size (fun j => L.getD j 0) (fx i) (o i) wr (hF5.out.below hbx) hzx (by omega) hI hzx (by unfold maxLen at hfm; omega) hfc q hq
        clear hcc hMr hI hfc hfm hq
        generalize fa3 i = fai at g0 hcall
        generalize fc3 i = fci at g0 hcall
        generalize fl i = fli at g0 hcall
        generalize o i = oi at g1 hcall
        have z5' := hbb5.size
        cases q with
        | true =>
          obtain ⟨v0, v1⟩ := hq1 rfl
          clear hq1 hq2
          have t1 : ¬ va < 0 := by omega
          have t2 : ¬ (i : Int) < va := by omega
          by_cases hv : (i : Int) = va
          · subst hv
            go_wp2_with fail
            refine hcall.mono ?_
            rintro e wy ⟨rfl, hby⟩
            go_wp2
            go_roundw
            case rel => exact ⟨i + 1, by omega, by go_num, hbx.trans (hby.mono hzx)⟩
            case measure => simp [intOf]; omega
          · have t3 : ((i : Int) == va) = false := by rw [beq_eq_false_iff_ne]; exact hv
            go_wp2_with fail
            refine hcall.mono ?_
            rintro e wy ⟨rfl, hby⟩
            go_wp2
            go_roundw
            case rel => exact ⟨i + 1, by omega, by go_num, hbx.trans (hby.mono hzx)⟩
            case measure => simp [intOf]; omega
        | false =>
          have t3 : ((i : Int) == va) = false := by
            rw [beq_eq_false_iff_ne]
            intro e
            have := hq2 e
            cases this
          clear hq1 hq2
          go_wp2_with fail
          refine hcall.mono ?_
          rintro e wy ⟨rfl, hby⟩
          go_wp2
          go_roundw
          case rel => exact ⟨i + 1, by omega, by go_num, hbx.trans (hby.mono hzx)⟩
          case measure => simp [intOf]; omega
      · obtain rfl : i = nd := by omega
        have hpc := fun W => penalized_any pb pa vo W hp ⟨vo0, vo3⟩
        have hp1 := hpen1.out
        have hp2 := hpen2.out
        have hkl8 : (penL pb pa vo).length ≤ 2 := by unfold penL; split <;> (try split) <;> (try split) <;> simp
        generalize penL pb pa vo = PL at hpc hp1 hp2 hkl8
        obtain ⟨kl, hkl⟩ : ∃ z, PL.length = z := ⟨_, rfl⟩
        rw [hkl] at hkl8
        rw [hkl] at hpc
        have hbbr : Below w.heap.size w wr := hbb5.trans (hbx.mono (by omega))
        have hzr := hbbr.size
        replace hkl := Lib.hid hkl
        replace hp1 := Lib.hid hp1
        replace hp2 := Lib.hid hp2
        clear hlaw hpen1 hpen2 hM5 hF5 hbb5 hbx
        go_wp2_with fail
        refine (hpc _).mono ?_
        rintro e w6 ⟨A6, c6, rfl, hI6, hb6⟩
        have z6 := hb6.size
        have hbb6 : Below w.heap.size w w6 := hbbr.trans (hb6.mono (by omega))
        replace hI6 := Lib.hid hI6
        clear hpc hbbr hb6
        have hs1 := fun W (hW : Below w6.heap.size w6 W) y => hasInt_any A6 kl c6 w6.heap.size PL y W (hI6.out.below hW) hkl.out hW.size (by omega)
        replace hs1 := Lib.hid hs1
        go_wp2_with fail
        refine (hs1.out _ (Below.refl _ _) _).mono ?_
        rw [hp1.out]
        rintro e w7 ⟨rfl, hb7⟩
        have z7 := hb7.size
        have hbb7 : Below w.heap.size w w7 := hbb6.trans (hb7.mono (by omega))
        obtain rfl | rfl | rfl | rfl : vo = 0 ∨ vo = 1 ∨ vo = 2 ∨ vo = 3 := by omega
        all_goals
          go_wp2_with fail
          refine (hs1.out _ hb7 _).mono ?_
          rw [hp2.out]
          rintro e w8 ⟨rfl, hb8⟩
          go_wp2
          go_ret
          exact ⟨rfl, hbb7.trans (hb8.mono (by omega))⟩
  · have hd1 : (co == 0) = false := by rw [beq_eq_false_iff_ne]; exact h0
    have hd2 : (co != 0) = true := by rw [bne, hd1]; rfl
    go_wp2
    go_ret
    exact ⟨rfl, hbb4⟩

/-! ### THE ROW's STEP: WRITTEN OUT: LEAVE IT -/
set_option maxRecDepth 100000 in
theorem lifted (os : Os) (started : os.Started) (H : Type) (enc : TypeId × Value → H) :
    ReturnsInHanded {} Try.checked os 7 .any (Rows.fnDecisionsSpec.pre6 enc Try.prog Try.f7 Rows.fnDecisionsRow.domain false) (Rows.fnDecisionsSpec.post enc Try.prog Try.f7 false true false false) := by
  refine returnsInHanded_of_change (C := Try.checked) own started (by kernel_rfl) Try.func7
    (ChangeSpec.witness6 (enc := enc) (C := Try.checked) false ⟨#[], #[.slice none 0 0], []⟩ 8 (by kernel_rfl) (by kernel_rfl) (by kernel_rfl) (by kernel_rfl)) ?_
  intro W base args ds gs before hval0 hW hcnd _
  have hval : ∀ (j : Nat) t v, Try.f7.params[j]? = some t → args[j]? = some v → Value.okWide Try.prog W .any base t v := hval0
  have hW' := hW
  obtain ⟨p, q, hA0, hV, rfl, hfz, hnd⟩ := hW
  have hA : DataW.TrodAll enc Try.prog W 0 (fun _ => true) true Try.f7.params.toList args.toList ds p := hA0
  rw [Try.params7] at hA hval
  obtain ⟨v0, vs0, d0, ds0, p0, q0, hargs, rfl, rfl, h0, r0⟩ := trodAll_cons hA
  obtain ⟨rfl, rfl, rfl⟩ := trodAll_nil r0
  obtain rfl : args = #[v0] := by cases args; simp_all
  obtain ⟨rfl, rfl⟩ := trodVars_none hV
  obtain ⟨a0, len0, cap0, rfl⟩ := okWide_slice Try.underlying29 (hval 0 29 v0 rfl rfl)
  have k0 := h0
  have lt0 : ∀ x ∈ p0, x.block < W.heap.size := by obtain ⟨m, hm⟩ := k0; exact DataW.trod_lt m _ _ _ hm
  obtain ⟨z0, w0⟩ : ∃ zs, IsRow .u8 W a0 len0 cap0 zs := by
    obtain ⟨fuel, hf⟩ := h0
    rcases open_ints Try.underlying29 Try.underlying5 (by kernel_rfl) hf with ⟨hcs, _⟩ | ⟨x, l, c, zs, hcs, _, hl, hm, hz, _, hcell, hwz⟩
    · simp [Value.cells] at hcs
      obtain ⟨rfl, rfl, rfl⟩ := hcs
      exact ⟨[], .inl ⟨rfl, rfl, rfl, rfl⟩⟩
    · simp [Value.cells] at hcs
      obtain ⟨rfl, rfl, rfl⟩ := hcs
      exact ⟨zs, .inr ⟨_, rfl, hl, hm, by simpa using hz, hcell, hwz⟩⟩
  clear hA0 hval0
  refine (walk a0 len0 cap0 z0 W w0).mono fun e W' ⟨he, bel⟩ => ?_
  subst he
  exact ⟨_, rfl, _, _, _, [], _, [], hW', trodAll_mk1 (shut_bool Try.underlying4 _), (trodAll_cons_mk (Below.trod laidOut (by kernel_rfl) (of_decide_eq_true (by kernel_rfl)) k0 bel lt0) trodAll_mk0), rfl, bel.frame _, fun h => by cases h⟩

theorem over : Rows.fnDecisionsRow.holds Try.pinned (OpenSpec.ofChange Rows.fnDecisionsSpec) :=
  OpenClaim.holds_of_wide 7 Try.f7 rfl rfl rfl rfl rfl rfl rfl ⟨rfl, rfl, rfl, rfl, rfl⟩ rfl rfl rfl rfl rfl (by kernel_rfl) Try.func7 (by kernel_rfl)
    (of_decide_eq_true (by kernel_rfl)) (by unfold Func.isWrapper; first | (rw [if_pos (by decide +kernel)]; kernel_rfl) | (rw [if_neg (by decide +kernel)]; exact ⟨rfl, rfl⟩))
    (fun os started H enc _ => lifted os started H enc)

/-- THE STATEMENT -/
theorem proved : Rows.FnDecisionsSaid := over
#print axioms proved
end Go.Proofs.Ytcilgohjeobamaa.fnDecisions
