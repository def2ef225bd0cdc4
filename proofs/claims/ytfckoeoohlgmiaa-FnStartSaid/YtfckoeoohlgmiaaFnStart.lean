/- The law FnStart: for every input the call returns true, and each argument reads afterwards as it read before. No condition. -/
import Derived.Test.YtfckoeoohlgmiaaSeq
import Derived.Test.YtfckoeoohlgmiaaRows
import Derived.WalkKit
import Derived.ProofKit
import Derived.OpenShut
import Derived.ShutString
import Derived.ChangeOld
import Derived.Below
namespace Go.Proofs.Ytfckoeoohlgmiaa.fnStart
open Go.ChangeShapes Go.WideShapes Go.ChangeAt Go.RowKit
open Go.ChangeMaps (open_string shut_string)
set_option linter.unusedVariables false

theorem own : ownKnob Try.prog.godebug = none := by kernel_rfl
theorem laidOut : laidOutB Try.prog = true := by kernel_rfl

/-- WHAT THE WALK IS TOLD OF A SLICE OF INTEGERS THAT CAME IN: it is nil; or it leads to a row of 'cap' cells, the numbers 'zs' (the first 'len' are its elements, the rest its spare room), each fitting its kind. -/
def IsRow (k : IntKind) (w : World) (a : Option Addr) (len cap : Nat) (zs : List Int) : Prop :=
  (a = none ∧ len = 0 ∧ cap = 0 ∧ zs = []) ∨
  ∃ x, a = some x ∧ len ≤ cap ∧ cap ≤ maxLen ∧ zs.length = cap ∧ (∀ i, i < zs.length → w.cell? (x.add i) = some (.int k (zs.getD i 0))) ∧ ∀ n ∈ zs, (Lit.int k n).wf = true

/-! ### STEP 1: THE WALK: the Go text returns true, AND WRITES NOTHING THAT WAS THERE: 'Below w.heap.size w w'' (Derived/Below.lean: '.refl', '.alloc', '.drew', '.setCell' at a new block, '.trans'). Open each 'IsRow' by 'rcases' AHEAD of 'go_enter'; part every test ahead of the walk. -/
set_option maxRecDepth 100000 in
set_option maxHeartbeats 8000000 in
theorem walk (a0 : Option Addr) (len0 cap0 : Nat) (z0 : List Int) (w : World) (w0 : IsRow .u8 w a0 len0 cap0 z0) :
    Calls Try.prog 9 #[.slice a0 len0 cap0] w fun e w' => e = .returned (.bool true) ∧ Below w.heap.size w w' := by
  obtain ⟨hc, hb⟩ := code_of w0
  by_cases hbig : 4096 < len0
  · go_enter Try.func9, Try.ntmps9
    go_wp2
    go_ret
    exact ⟨rfl, Below.refl _ _⟩
  have hbc := Lib.hid hb
  go_enter Try.func9, Try.ntmps9
  go_wp2_with (first | (go_at_call 25; go_in) | fail)
  refine (drawStartTime_any _ _ _ _ _ hc (by omega) hb).mono ?_
  rintro e w1 ⟨A, n, c, xs, rfl, n41, hnc, hcm, hI, hbx, hb1⟩
  have hc1 := Lib.hid (hc.below hb1)
  clear hc hb w0 hbx
  replace hI := Lib.hid hI
  have z1 := hb1.size
  go_wp2_with fail
  refine (startTime_any _ _ _ _ _ _ hI.out (Nat.le_refl _) (by omega)).mono ?_
  rintro e w2 ⟨rfl, hb2⟩
  have hI2 := Lib.hid ((hI.out.below hb2).more hb2.size)
  clear hI
  go_wp2_with fail
  refine (sStartTime_any _ _ _ _ _ _ hI2.out (Nat.le_refl _) (by omega)).mono ?_
  rintro e w3 ⟨rfl, hb3⟩
  have hI3 := Lib.hid ((hI2.out.below hb3).more hb3.size)
  clear hI2
  have z2 := hb2.size
  have z3 := hb3.size
  have hb13 : Below w1.heap.size w1 w3 := hb2.trans (hb3.mono (by omega))
  have hc3 := Lib.hid (hc1.out.below (hb13.mono z1))
  have hbb : Below w.heap.size w w3 := hb1.trans (hb13.mono (by omega))
  clear hb1 hb2 hb3 z2 hb13 hc1
  have hzz := hbb.size
  have hroll := Lib.hid (fun W (hbW : Below w3.heap.size w3 W) => roll_any a0 len0 cap0 w.heap.size _ 401 W (hc3.out.below (hbW.mono hzz)) (Nat.le_trans hzz hbW.size) (by omega))
  rcases Nat.eq_zero_or_pos n with hn0 | hn0
  · subst hn0
    have hsc : (startV 0 xs).2 ≠ 0 := by
      intro h
      have := start_law (n := 0) (xs := xs) (x := (startV 0 xs).1) (by rw [← h])
      omega
    generalize startV 0 xs = S at hsc
    obtain ⟨sx, sc⟩ := S
    have hsc' : (sc == 0) = false := by rw [beq_eq_false_iff_ne]; exact hsc
    clear hsc
    go_wp2_with fail
    refine (hroll.out _ ((Below.refl _ w3).alloc (Nat.le_refl _) _)).mono ?_
    rintro e w7 ⟨rfl, hd7, hb7⟩
    have hb37 : Below w3.heap.size w3 w7 := ((Below.refl _ w3).alloc (Nat.le_refl _) _).trans (hb7.mono (by simp))
    simp only [World.size_alloc, World.size_setCell] at hd7 hb7
    have z7 := hb7.size
    clear hroll
    go_wp2_with fail
    refine (below_any _ _ _ w.heap.size _ _ _ _ (hc3.out.below (hb37.mono hzz)) (by omega) (by omega) hbc.out hd7 (by omega) (by omega)).mono ?_
    rintro e w8 ⟨r, rfl, r0, r1, _, hg8⟩
    have hb8 : Below w3.heap.size w3 w8 := hb37.trans (below_only hg8 hb37.size (fun k e => by injection e with e; omega))
    have z8 := hb8.size
    have hbb8 : Below w.heap.size w w8 := hbb.trans (hb8.mono (by omega))
    clear hb7 hb37 hd7 hg8 hb8 hbb hc3
    go_wp2_with fail
    refine (sequenceFor_any _ _ r0 (by omega)).mono ?_
    rintro e w9 ⟨rfl, hW9, hb9⟩
    have z9 := hb9.size
    have hl9 := hW9.lt
    have hI9 : Ints w9 w9.heap.size (some ⟨w8.heap.size, 0, none⟩) (4 * 2) (seqX r) := Ints.of_whole hW9 hl9 (fun j hj => by
      have : j = 0 ∨ j = 1 ∨ j = 2 ∨ j = 3 ∨ j = 4 ∨ j = 5 ∨ j = 6 ∨ j = 7 := by omega
      rcases this with rfl | rfl | rfl | rfl | rfl | rfl | rfl | rfl <;> rfl)
    have e2 := seq_start r r0 (by omega)
    clear hW9
    go_wp2_with fail
    refine (startTime_any _ _ _ _ _ _ hI9 (Nat.le_refl _) (by omega)).mono ?_
    rw [e2]
    rintro e w10 ⟨rfl, hb10⟩
    have z10 := hb10.size
    clear e2 hI9
    go_wp2_with fail
    refine (fleet_any _ _ r0 (by omega)).mono ?_
    rintro e w11 ⟨v, rfl, L, hown, hb11, h2⟩
    obtain ⟨s0, g1, rfl, hW1⟩ := h2 rfl
    obtain ⟨G, cap, cur, rfl, hGb, hWG, hnc', hcm', _, hcur⟩ := own_open hown (by omega)
    have y1 := (hWG.cell 1).trans (hcur 1 (.slice (some ⟨g1, 0, none⟩) 4 4) rfl)
    have y2 := hW1.cell 1
    have y2' : w11.cell? ⟨g1, 1, none⟩ = some (.int .i64 (r + 300000)) := y2
    clear y2 hcur hown
    have hGl := hWG.lt
    have hg1l := hW1.lt
    have z11 := hb11.size
    have hbb11 : Below w.heap.size w w11 := hbb8.trans ((hb9.mono (by omega)).trans ((hb10.mono (by omega)).trans (hb11.mono (by omega))))
    clear hb9 hb10 hb11 hbb8
    go_wp2
    go_ret
    exact ⟨rfl, hbb11⟩
  · obtain ⟨q, rfl⟩ : ∃ q, n = q + 1 := ⟨n - 1, by omega⟩
    have hlaw := start_law (n := q + 1) (xs := xs) (x := (startV (q + 1) xs).1)
    generalize startV (q + 1) xs = S at hlaw
    obtain ⟨sx, sc⟩ := S
    obtain ⟨b, o, rfl, hadB, hcode⟩ := hI3.out (by omega)
    have g0 : w3.cell? ⟨b, o + q * 2, none⟩ = some (.int .i64 (xs (q * 2))) := hcode (q * 2) (by omega)
    have g1 : w3.cell? ⟨b, o + q * 2 + 1, none⟩ = some (.int .i64 (xs (q * 2 + 1))) := hcode (q * 2 + 1) (by omega)
    have hwr : IntKind.i64.wrap (q : Int) = q := IntWalk.i64_in _ (by omega)
    have hq1 : (q : Int) < (q : Int) + 1 := by omega
    clear hcode
    by_cases hsc : sc = 0
    · subst hsc
      obtain ⟨_, _, l1, l2⟩ := hlaw rfl
      simp only [Nat.add_sub_cancel] at l1 l2
      rw [l1] at g0
      rw [l2] at g1
      clear hlaw l1 l2
      go_wp2_with fail
      refine (hroll.out _ ((Below.refl _ w3).alloc (Nat.le_refl _) _)).mono ?_
      rintro e w7 ⟨rfl, hd7, hb7⟩
      have hb37 : Below w3.heap.size w3 w7 := ((Below.refl _ w3).alloc (Nat.le_refl _) _).trans (hb7.mono (by simp))
      simp only [World.size_alloc, World.size_setCell] at hd7 hb7
      have z7 := hb7.size
      clear hroll
      go_wp2_with fail
      refine (below_any _ _ _ w.heap.size _ _ _ _ (hc3.out.below (hb37.mono hzz)) (by omega) (by omega) hbc.out hd7 (by omega) (by omega)).mono ?_
      rintro e w8 ⟨r, rfl, r0, r1, _, hg8⟩
      have hb8 : Below w3.heap.size w3 w8 := hb37.trans (below_only hg8 hb37.size (fun k e => by injection e with e; omega))
      have z8 := hb8.size
      have hbb8 : Below w.heap.size w w8 := hbb.trans (hb8.mono (by omega))
      clear hb7 hb37 hd7 hg8 hb8 hbb hc3
      go_wp2_with fail
      refine (sequenceFor_any _ _ r0 (by omega)).mono ?_
      rintro e w9 ⟨rfl, hW9, hb9⟩
      have z9 := hb9.size
      have hl9 := hW9.lt
      have hI9 : Ints w9 w9.heap.size (some ⟨w8.heap.size, 0, none⟩) (4 * 2) (seqX r) := Ints.of_whole hW9 hl9 (fun j hj => by
        have : j = 0 ∨ j = 1 ∨ j = 2 ∨ j = 3 ∨ j = 4 ∨ j = 5 ∨ j = 6 ∨ j = 7 := by omega
        rcases this with rfl | rfl | rfl | rfl | rfl | rfl | rfl | rfl <;> rfl)
      have e2 := seq_start r r0 (by omega)
      clear hW9
      go_wp2_with fail
      refine (startTime_any _ _ _ _ _ _ hI9 (Nat.le_refl _) (by omega)).mono ?_
      rw [e2]
      rintro e w10 ⟨rfl, hb10⟩
      have z10 := hb10.size
      clear e2 hI9
      go_wp2_with fail
      refine (fleet_any _ _ r0 (by omega)).mono ?_
      rintro e w11 ⟨v, rfl, L, hown, hb11, h2⟩
      obtain ⟨s0, g1, rfl, hW1⟩ := h2 rfl
      obtain ⟨G, cap, cur, rfl, hGb, hWG, hnc', hcm', _, hcur⟩ := own_open hown (by omega)
      have y1 := (hWG.cell 1).trans (hcur 1 (.slice (some ⟨g1, 0, none⟩) 4 4) rfl)
      have y2 := hW1.cell 1
      have y2' : w11.cell? ⟨g1, 1, none⟩ = some (.int .i64 (r + 300000)) := y2
      clear y2 hcur hown
      have hGl := hWG.lt
      have hg1l := hW1.lt
      have z11 := hb11.size
      have hbb11 : Below w.heap.size w w11 := hbb8.trans ((hb9.mono (by omega)).trans ((hb10.mono (by omega)).trans (hb11.mono (by omega))))
      clear hb9 hb10 hb11 hbb8
      go_wp2
      go_ret
      exact ⟨rfl, hbb11⟩
    · have hsc' : (sc == 0) = false := by rw [beq_eq_false_iff_ne]; exact hsc
      generalize xs (q * 2) = y0 at g0
      generalize xs (q * 2 + 1) = y1 at g1
      clear hlaw hsc
      go_wp2_with fail
      refine (hroll.out _ ((Below.refl _ w3).alloc (Nat.le_refl _) _)).mono ?_
      rintro e w7 ⟨rfl, hd7, hb7⟩
      have hb37 : Below w3.heap.size w3 w7 := ((Below.refl _ w3).alloc (Nat.le_refl _) _).trans (hb7.mono (by simp))
      simp only [World.size_alloc, World.size_setCell] at hd7 hb7
      have z7 := hb7.size
      clear hroll
      go_wp2_with fail
      refine (below_any _ _ _ w.heap.size _ _ _ _ (hc3.out.below (hb37.mono hzz)) (by omega) (by omega) hbc.out hd7 (by omega) (by omega)).mono ?_
      rintro e w8 ⟨r, rfl, r0, r1, _, hg8⟩
      have hb8 : Below w3.heap.size w3 w8 := hb37.trans (below_only hg8 hb37.size (fun k e => by injection e with e; omega))
      have z8 := hb8.size
      have hbb8 : Below w.heap.size w w8 := hbb.trans (hb8.mono (by omega))
      clear hb7 hb37 hd7 hg8 hb8 hbb hc3
      go_wp2_with fail
      refine (sequenceFor_any _ _ r0 (by omega)).mono ?_
      rintro e w9 ⟨rfl, hW9, hb9⟩
      have z9 := hb9.size
      have hl9 := hW9.lt
      have hI9 : Ints w9 w9.heap.size (some ⟨w8.heap.size, 0, none⟩) (4 * 2) (seqX r) := Ints.of_whole hW9 hl9 (fun j hj => by
        have : j = 0 ∨ j = 1 ∨ j = 2 ∨ j = 3 ∨ j = 4 ∨ j = 5 ∨ j = 6 ∨ j = 7 := by omega
        rcases this with rfl | rfl | rfl | rfl | rfl | rfl | rfl | rfl <;> rfl)
      have e2 := seq_start r r0 (by omega)
      clear hW9
      go_wp2_with fail
      refine (startTime_any _ _ _ _ _ _ hI9 (Nat.le_refl _) (by omega)).mono ?_
      rw [e2]
      rintro e w10 ⟨rfl, hb10⟩
      have z10 := hb10.size
      clear e2 hI9
      go_wp2_with fail
      refine (fleet_any _ _ r0 (by omega)).mono ?_
      rintro e w11 ⟨v, rfl, L, hown, hb11, h2⟩
      obtain ⟨s0, g1, rfl, hW1⟩ := h2 rfl
      obtain ⟨G, cap, cur, rfl, hGb, hWG, hnc', hcm', _, hcur⟩ := own_open hown (by omega)
      have y1 := (hWG.cell 1).trans (hcur 1 (.slice (some ⟨g1, 0, none⟩) 4 4) rfl)
      have y2 := hW1.cell 1
      have y2' : w11.cell? ⟨g1, 1, none⟩ = some (.int .i64 (r + 300000)) := y2
      clear y2 hcur hown
      have hGl := hWG.lt
      have hg1l := hW1.lt
      have z11 := hb11.size
      have hbb11 : Below w.heap.size w w11 := hbb8.trans ((hb9.mono (by omega)).trans ((hb10.mono (by omega)).trans (hb11.mono (by omega))))
      clear hb9 hb10 hb11 hbb8
      go_wp2
      go_ret
      exact ⟨rfl, hbb11⟩

/-! ### THE ROW's STEP: WRITTEN OUT: LEAVE IT -/
set_option maxRecDepth 100000 in
theorem lifted (os : Os) (started : os.Started) (H : Type) (enc : TypeId × Value → H) :
    ReturnsInHanded {} Try.checked os 9 .any (Rows.fnStartSpec.pre6 enc Try.prog Try.f9 Rows.fnStartRow.domain false) (Rows.fnStartSpec.post enc Try.prog Try.f9 false true false false) := by
  refine returnsInHanded_of_change (C := Try.checked) own started (by kernel_rfl) Try.func9
    (ChangeSpec.witness6 (enc := enc) (C := Try.checked) false ⟨#[], #[.slice none 0 0], []⟩ 8 (by kernel_rfl) (by kernel_rfl) (by kernel_rfl) (by kernel_rfl)) ?_
  intro W base args ds gs before hval0 hW hcnd _
  have hval : ∀ (j : Nat) t v, Try.f9.params[j]? = some t → args[j]? = some v → Value.okWide Try.prog W .any base t v := hval0
  have hW' := hW
  obtain ⟨p, q, hA0, hV, rfl, hfz, hnd⟩ := hW
  have hA : DataW.TrodAll enc Try.prog W 0 (fun _ => true) true Try.f9.params.toList args.toList ds p := hA0
  rw [Try.params9] at hA hval
  obtain ⟨v0, vs0, d0, ds0, p0, q0, hargs, rfl, rfl, h0, r0⟩ := trodAll_cons hA
  obtain ⟨rfl, rfl, rfl⟩ := trodAll_nil r0
  obtain rfl : args = #[v0] := by cases args; simp_all
  obtain ⟨rfl, rfl⟩ := trodVars_none hV
  obtain ⟨a0, len0, cap0, rfl⟩ := okWide_slice Try.underlying38 (hval 0 38 v0 rfl rfl)
  have k0 := h0
  have lt0 : ∀ x ∈ p0, x.block < W.heap.size := by obtain ⟨m, hm⟩ := k0; exact DataW.trod_lt m _ _ _ hm
  obtain ⟨z0, w0⟩ : ∃ zs, IsRow .u8 W a0 len0 cap0 zs := by
    obtain ⟨fuel, hf⟩ := h0
    rcases open_ints Try.underlying38 Try.underlying5 (by kernel_rfl) hf with ⟨hcs, _⟩ | ⟨x, l, c, zs, hcs, _, hl, hm, hz, _, hcell, hwz⟩
    · simp [Value.cells] at hcs
      obtain ⟨rfl, rfl, rfl⟩ := hcs
      exact ⟨[], .inl ⟨rfl, rfl, rfl, rfl⟩⟩
    · simp [Value.cells] at hcs
      obtain ⟨rfl, rfl, rfl⟩ := hcs
      exact ⟨zs, .inr ⟨_, rfl, hl, hm, by simpa using hz, hcell, hwz⟩⟩
  clear hA0 hval0
  refine (walk a0 len0 cap0 z0 W w0).mono fun e W' ⟨he, bel⟩ => ?_
  subst he
  exact ⟨_, rfl, _, _, _, [], _, [], hW', trodAll_mk1 (shut_bool Try.underlying4 _), (trodAll_cons_mk (Below.trod laidOut (by kernel_rfl) (of_decide_eq_true (by kernel_rfl)) k0 bel lt0) trodAll_mk0), rfl, bel.frame _, fun h => by cases h⟩

theorem over : Rows.fnStartRow.holds Try.pinned (OpenSpec.ofChange Rows.fnStartSpec) :=
  OpenClaim.holds_of_wide 9 Try.f9 rfl rfl rfl rfl rfl rfl rfl ⟨rfl, rfl, rfl, rfl, rfl⟩ rfl rfl rfl rfl rfl (by kernel_rfl) Try.func9 (by kernel_rfl)
    (of_decide_eq_true (by kernel_rfl)) (by unfold Func.isWrapper; first | (rw [if_pos (by decide +kernel)]; kernel_rfl) | (rw [if_neg (by decide +kernel)]; exact ⟨rfl, rfl⟩))
    (fun os started H enc _ => lifted os started H enc)

/-- THE STATEMENT -/
theorem proved : Rows.FnStartSaid := over
#print axioms proved
end Go.Proofs.Ytfckoeoohlgmiaa.fnStart
