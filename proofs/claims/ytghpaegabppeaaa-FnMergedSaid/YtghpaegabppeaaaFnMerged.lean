/- The law FnMerged: for every input the call returns true, and each argument reads afterwards as it read before. No condition. -/
import Derived.Test.YtghpaegabppeaaaMrg7
import Derived.Test.YtghpaegabppeaaaRows
import Derived.WalkKit
import Derived.ProofKit
import Derived.OpenShut
import Derived.ShutString
import Derived.ChangeOld
import Derived.Below
namespace Go.Proofs.Ytghpaegabppeaaa.fnMerged
open Go.ChangeShapes Go.WideShapes Go.ChangeAt Go.RowKit
open Go.ChangeMaps (open_string shut_string)
set_option linter.unusedVariables false

theorem own : ownKnob Try.prog.godebug = none := by kernel_rfl
theorem laidOut : laidOutB Try.prog = true := by kernel_rfl

/-- WHAT THE WALK IS TOLD OF A SLICE OF INTEGERS THAT CAME IN: it is nil; or it leads to a row of 'cap' cells, the numbers 'zs' (the first 'len' are its elements, the rest its spare room), each fitting its kind. -/
def IsRow (k : IntKind) (w : World) (a : Option Addr) (len cap : Nat) (zs : List Int) : Prop :=
  (a = none ∧ len = 0 ∧ cap = 0 ∧ zs = []) ∨
  ∃ x, a = some x ∧ len ≤ cap ∧ cap ≤ maxLen ∧ zs.length = cap ∧ (∀ i, i < zs.length → w.cell? (x.add i) = some (.int k (zs.getD i 0))) ∧ ∀ n ∈ zs, (Lit.int k n).wf = true

/-! ### STEP 1: THE WALK: the Go text returns true, AND WRITES NOTHING THAT WAS THERE: 'Below w.heap.size w w'' (Derived/Below.lean: '.refl', '.alloc', '.drew', '.setCell' at a new block, '.trans'). Open each 'IsRow' by 'rcases' AHEAD of 'go_enter'; part every test ahead of the walk. -/
set_option maxRecDepth 100000 in
set_option maxHeartbeats 8000000 in
theorem walk (a0 : Option Addr) (len0 cap0 : Nat) (z0 : List Int) (w : World) (w0 : IsRow .u8 w a0 len0 cap0 z0) :
    Calls Try.prog 12 #[.slice a0 len0 cap0] w fun e w' => e = .returned (.bool true) ∧ Below w.heap.size w w' := by
  obtain ⟨hc, hb⟩ := code_of w0
  by_cases hbig : 4096 < len0
  · go_enter Try.func12, Try.ntmps12
    go_wp2
    go_ret
    exact ⟨rfl, Below.refl _ _⟩
  obtain ⟨n, xs, hn31, hD⟩ := drawMergeWindows_ex len0 _ (by omega) hb
  replace hD := Lib.hid hD
  clear w0 hb
  obtain ⟨co, hco⟩ : ∃ z, codM n xs = z := ⟨_, rfl⟩
  obtain ⟨L, hL⟩ : ∃ z, mrgL n xs = z := ⟨_, rfl⟩
  obtain ⟨K, hK⟩ : ∃ z, mrgK n xs = z := ⟨_, rfl⟩
  have hLK : L.length = K * 2 := by rw [← hL, ← hK]; exact mrgK_len n xs
  have hlaw : co = 0 → isL K (fun j => L.getD j 0) = true ∧ ∀ t, opB (fun j => L.getD j 0) t K = opB xs t n := fun h => merged_law (by rw [hco]; exact h) hL hLK
  replace hlaw := Lib.hid hlaw
  replace hLK := Lib.hid hLK
  replace hco := Lib.hid hco
  replace hL := Lib.hid hL
  replace hK := Lib.hid hK
  go_enter Try.func12, Try.ntmps12
  go_wp2_with (first | (go_at_call 28; go_in) | fail)
  refine (hD.out _ _ _ hc).mono ?_
  rintro e w1 ⟨b1, c1, rfl, hI1, hb1⟩
  have z1 := hb1.size
  have hc1 := (hc.below hb1).more hb1.size
  clear hc
  go_wp2_with fail
  refine (mergeWindows_k b1 0 n c1 _ xs w1 K L co hL hco hK hI1 (Nat.le_refl _) (by omega)).mono ?_
  rintro e w2 ⟨A2, c2, rfl, gk, ho2, hb2⟩
  have z2 := hb2.size
  have hc2 := (hc1.below hb2).more hb2.size
  have hbb2 := hb1.trans (hb2.mono (B' := w.heap.size) (by omega))
  replace ho2 := Lib.hid ho2
  clear hc1 hI1 hb1 hb2
  go_wp2_with fail
  refine (hD.out _ _ _ hc2).mono ?_
  rintro e w3 ⟨b3, c3, rfl, hI3, hb3⟩
  have z3 := hb3.size
  have ho3 := Lib.hid (own_below ho2.out hb3)
  have hbb3 := hbb2.trans (hb3.mono (B' := w.heap.size) (by omega))
  clear hc2 ho2 hbb2 hb3 hD
  go_wp2_with fail
  refine (sMergeWindows_k _ n c3 _ xs w3 K L co hL hco hK hI3 (Nat.le_refl _) (by omega)).mono ?_
  rintro e w4 ⟨A4, c4, rfl, -, ho4, hb4⟩
  have z4 := hb4.size
  have hI4 := (hI3.below hb4).more hb4.size
  have ho2 := own_below ho3.out hb4
  have hbb4 := hbb3.trans (hb4.mono (B' := w.heap.size) (by omega))
  have hl2 : Ints w4 w4.heap.size A2 (K * 2) (fun j => L.getD j 0) := Ints.of_own ho2 (Nat.le_refl _) (by have := hLK.out; simp; omega) (fun j hj => (cells_of ho2).2 j (by omega))
  have hl4 : Ints w4 w4.heap.size A4 (K * 2) (fun j => L.getD j 0) := Ints.of_own ho4 (Nat.le_refl _) (by have := hLK.out; simp; omega) (fun j hj => (cells_of ho4).2 j (by omega))
  have hcall := Lib.hid (w6Windows_any A2 A4 K c2 c4 w4.heap.size (fun j => L.getD j 0) w4 hl2 hl4 (Nat.le_refl _) (by omega))
  clear ho2 ho3 ho4 hl4 hI3 hbb3 hb4
  replace hl2 := Lib.hid hl2
  go_wp2_with fail
  refine hcall.out.mono ?_
  rintro e w5 ⟨rfl, hb5⟩
  have z5 := hb5.size
  have hI5 := Lib.hid ((hI4.below hb5).more hb5.size)
  have hl5 := Lib.hid ((hl2.out.below hb5).more hb5.size)
  have hbb5 := hbb4.trans (hb5.mono (B' := w.heap.size) (by omega))
  clear hcall hI4 hl2 hbb4 hb5
  by_cases h0 : co = 0
  · subst h0
    obtain ⟨hisL, hop⟩ := hlaw.out (by trivial)
    have hio : Hid (∀ (t : Nat) (W : World), t < 60 → Below w5.heap.size w5 W → Calls Try.prog 23 #[.slice A2 K c2, .int .i64 t] W fun e w' => e = .returned (.tuple #[.bool (opB xs t n), .int .i64 0]) ∧ Below W.heap.size W w') := Lib.hid (fun t W ht hW => by
      have h := isOpenAt_any A2 K c2 w5.heap.size (fun j => L.getD j 0) t W (hl5.out.below hW) hW.size (by omega)
      rw [ioV_law hisL (by omega) (by omega), hop] at h
      exact h)
    have hiw : Hid (∀ (W : World), Below w5.heap.size w5 W → Calls Try.prog 16 #[.slice A2 K c2] W fun e w' => e = .returned (.bool true) ∧ Below W.heap.size W w') := Lib.hid (fun W hW => by
      have h := isWindows_any A2 K c2 w5.heap.size (fun j => L.getD j 0) W (hl5.out.below hW) hW.size (by omega)
      rw [hisL] at h
      exact h)
    clear hisL hop hlaw hl5 hLK hco hL hK
    go_wp2_with fail
    go_loopw [8, 9, 10, 11, 12] (fun v8 _ _ _ _ wr => ∃ t : Nat, t ≤ 60 ∧ v8 = .int .i64 t ∧ Below w5.heap.size w5 wr) (fun v8 _ _ _ _ _ => (60 - intOf v8).toNat)
    case atStart => exact ⟨0, by omega, rfl, Below.refl _ _⟩
    case round =>
      obtain ⟨t, ht, rfl, hbr⟩ := hrel
      have hbrz := hbr.size
      rename World => wo
      by_cases hlt : t < 60
      · have hlt' : (t : Int) < 60 := by omega
        go_wp2_with fail
        go_loopw [9, 10] (fun v9 v10 wr => ∃ (i : Nat) (s : Bool), i ≤ n ∧ v10 = .int .i64 i ∧ v9 = .bool s ∧ Hid (opB xs t i = s) ∧ Below w5.heap.size w5 wr) (fun _ v10 _ => (n - intOf v10).toNat)
        case atStart => exact ⟨0, false, by omega, rfl, rfl, Lib.hid rfl, hbr⟩
        case round =>
          obtain ⟨i, s, hi, rfl, rfl, hs, hbi⟩ := hrel
          have hbiz := hbi.size
          by_cases hin : i < n
          · have hin' : (i : Int) < n := by omega
            obtain ⟨b, o, e, hbB, hcx⟩ := hI5.out (by omega)
            injection e with e
            injection e with e1 e2 _
            subst e1
            subst e2
            have g0 : wr.cell? ⟨b3, 0 + i * 2, none⟩ = some (.int .i64 (xs (i * 2))) := by rw [hbi.cell (by simp; omega)]; exact hcx (i * 2) (by omega)
            have g1 : wr.cell? ⟨b3, 0 + i * 2 + 1, none⟩ = some (.int .i64 (xs (i * 2 + 1))) := by rw [hbi.cell (by simp; omega)]; exact hcx (i * 2 + 1) (by omega)
            have hnext : opB xs t (i + 1) = (opB xs t i || (decide (xs (i * 2) ≤ t) && decide ((t : Int) < xs (i * 2 + 1)))) := rfl
            rw [hs.out] at hnext
            rw [Nat.zero_add] at g0 g1
            generalize xs (i * 2) = x0 at g0 hnext
            generalize xs (i * 2 + 1) = x1 at g1 hnext
            clear hcx hs
            cases s with
            | true =>
              have hn2 : Hid (opB xs t (i + 1) = true) := Lib.hid (by rw [hnext]; rfl)
              clear hnext
              go_wp2
              go_roundw
              case rel => exact ⟨i + 1, true, by omega, by go_num, rfl, hn2, hbi⟩
              case measure => simp [intOf]; omega
            | false =>
              by_cases h1 : x0 ≤ t
              · by_cases h2 : (t : Int) < x1
                · have hn2 : Hid (opB xs t (i + 1) = true) := Lib.hid (by rw [hnext]; simp [h1, h2])
                  clear hnext
                  go_wp2
                  go_roundw
                  case rel => exact ⟨i + 1, true, by omega, by go_num, rfl, hn2, hbi⟩
                  case measure => simp [intOf]; omega
                · have hn2 : Hid (opB xs t (i + 1) = false) := Lib.hid (by rw [hnext]; simp [h2])
                  clear hnext
                  go_wp2
                  go_roundw
                  case rel => exact ⟨i + 1, false, by omega, by go_num, rfl, hn2, hbi⟩
                  case measure => simp [intOf]; omega
              · have hn2 : Hid (opB xs t (i + 1) = false) := Lib.hid (by rw [hnext]; simp [h1])
                clear hnext
                go_wp2
                go_roundw
                case rel => exact ⟨i + 1, false, by omega, by go_num, rfl, hn2, hbi⟩
                case measure => simp [intOf]; omega
          · obtain rfl : n = i := by omega
            have hnlt : ¬ ((n : Int) < n) := by omega
            have hcall := hio.out t wr hlt hbi
            rw [hs.out] at hcall
            replace hcall := Lib.hid hcall
            have hss : (s != s) = false := by cases s <;> rfl
            go_wp2_with fail
            refine hcall.out.mono ?_
            rintro e w6 ⟨rfl, hb6⟩
            go_wp2
            go_roundw
            case rel => exact ⟨t + 1, by omega, by go_num, hbi.trans (hb6.mono hbiz)⟩
            case measure => simp [intOf]; omega
      · obtain rfl : t = 60 := by omega
        go_wp2_with fail
        refine (hiw.out wo hbr).mono ?_
        rintro e w6 ⟨rfl, hb6⟩
        go_wp2
        go_ret
        exact ⟨rfl, hbb5.trans ((hbr.trans (hb6.mono hbrz)).mono (by omega))⟩
  · have hne : (co != 0) = true := by rw [bne, beq_eq_false_iff_ne.2 h0]; rfl
    go_wp2
    go_ret
    exact ⟨rfl, hbb5⟩

/-! ### THE ROW's STEP: WRITTEN OUT: LEAVE IT -/
set_option maxRecDepth 100000 in
theorem lifted (os : Os) (started : os.Started) (H : Type) (enc : TypeId × Value → H) :
    ReturnsInHanded {} Try.checked os 12 .any (Rows.fnMergedSpec.pre6 enc Try.prog Try.f12 Rows.fnMergedRow.domain false) (Rows.fnMergedSpec.post enc Try.prog Try.f12 false true false false) := by
  refine returnsInHanded_of_change (C := Try.checked) own started (by kernel_rfl) Try.func12
    (ChangeSpec.witness6 (enc := enc) (C := Try.checked) false ⟨#[], #[.slice none 0 0], []⟩ 8 (by kernel_rfl) (by kernel_rfl) (by kernel_rfl) (by kernel_rfl)) ?_
  intro W base args ds gs before hval0 hW hcnd _
  have hval : ∀ (j : Nat) t v, Try.f12.params[j]? = some t → args[j]? = some v → Value.okWide Try.prog W .any base t v := hval0
  have hW' := hW
  obtain ⟨p, q, hA0, hV, rfl, hfz, hnd⟩ := hW
  have hA : DataW.TrodAll enc Try.prog W 0 (fun _ => true) true Try.f12.params.toList args.toList ds p := hA0
  rw [Try.params12] at hA hval
  obtain ⟨v0, vs0, d0, ds0, p0, q0, hargs, rfl, rfl, h0, r0⟩ := trodAll_cons hA
  obtain ⟨rfl, rfl, rfl⟩ := trodAll_nil r0
  obtain rfl : args = #[v0] := by cases args; simp_all
  obtain ⟨rfl, rfl⟩ := trodVars_none hV
  obtain ⟨a0, len0, cap0, rfl⟩ := okWide_slice Try.underlying38 (hval 0 38 v0 rfl rfl)
  have k0 := h0
  have lt0 : ∀ x ∈ p0, x.block < W.heap.size := by obtain ⟨m, hm⟩ := k0; exact DataW.trod_lt m _ _ _ hm
  obtain ⟨z0, w0⟩ : ∃ zs, IsRow .u8 W a0 len0 cap0 zs := by
    obtain ⟨fuel, hf⟩ := h0
    rcases open_ints Try.underlying38 Try.underlying5 (by kernel_rfl) hf with ⟨hcs, _⟩ | ⟨x, l, c, zs, hcs, _, hl, hm, hz, _, hcell, hwz⟩
    · simp [Value.cells] at hcs
      obtain ⟨rfl, rfl, rfl⟩ := hcs
      exact ⟨[], .inl ⟨rfl, rfl, rfl, rfl⟩⟩
    · simp [Value.cells] at hcs
      obtain ⟨rfl, rfl, rfl⟩ := hcs
      exact ⟨zs, .inr ⟨_, rfl, hl, hm, by simpa using hz, hcell, hwz⟩⟩
  clear hA0 hval0
  refine (walk a0 len0 cap0 z0 W w0).mono fun e W' ⟨he, bel⟩ => ?_
  subst he
  exact ⟨_, rfl, _, _, _, [], _, [], hW', trodAll_mk1 (shut_bool Try.underlying4 _), (trodAll_cons_mk (Below.trod laidOut (by kernel_rfl) (of_decide_eq_true (by kernel_rfl)) k0 bel lt0) trodAll_mk0), rfl, bel.frame _, fun h => by cases h⟩

theorem over : Rows.fnMergedRow.holds Try.pinned (OpenSpec.ofChange Rows.fnMergedSpec) :=
  OpenClaim.holds_of_wide 12 Try.f12 rfl rfl rfl rfl rfl rfl rfl ⟨rfl, rfl, rfl, rfl, rfl⟩ rfl rfl rfl rfl rfl (by kernel_rfl) Try.func12 (by kernel_rfl)
    (of_decide_eq_true (by kernel_rfl)) (by unfold Func.isWrapper; first | (rw [if_pos (by decide +kernel)]; kernel_rfl) | (rw [if_neg (by decide +kernel)]; exact ⟨rfl, rfl⟩))
    (fun os started H enc _ => lifted os started H enc)

/-- THE STATEMENT -/
theorem proved : Rows.FnMergedSaid := over
#print axioms proved
end Go.Proofs.Ytghpaegabppeaaa.fnMerged
