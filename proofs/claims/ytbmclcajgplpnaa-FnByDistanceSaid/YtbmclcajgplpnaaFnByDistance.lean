/- The law FnByDistance: for every input the call returns true, and each argument reads afterwards as it read before. No condition. -/
import Derived.Test.YtbmclcajgplpnaaFin5
import Derived.Test.YtbmclcajgplpnaaAllow
import Derived.Test.YtbmclcajgplpnaaRows
import Derived.WalkKit
import Derived.ProofKit
import Derived.OpenShut
import Derived.ShutString
import Derived.ChangeOld
import Derived.Below
namespace Go.Proofs.Ytbmclcajgplpnaa.fnByDistance
open Go.ChangeShapes Go.WideShapes Go.ChangeAt Go.RowKit
open Go.ChangeMaps (open_string shut_string)
set_option linter.unusedVariables false

theorem own : ownKnob Try.prog.godebug = none := by kernel_rfl
theorem laidOut : laidOutB Try.prog = true := by kernel_rfl

/-- WHAT THE WALK IS TOLD OF A SLICE OF INTEGERS THAT CAME IN: it is nil; or it leads to a row of 'cap' cells, the numbers 'zs' (the first 'len' are its elements, the rest its spare room), each fitting its kind. -/
def IsRow (k : IntKind) (w : World) (a : Option Addr) (len cap : Nat) (zs : List Int) : Prop :=
  (a = none ∧ len = 0 ∧ cap = 0 ∧ zs = []) ∨
  ∃ x, a = some x ∧ len ≤ cap ∧ cap ≤ maxLen ∧ zs.length = cap ∧ (∀ i, i < zs.length → w.cell? (x.add i) = some (.int k (zs.getD i 0))) ∧ ∀ n ∈ zs, (Lit.int k n).wf = true

/-! ### STEP 1: THE WALK: the Go text returns true, AND WRITES NOTHING THAT WAS THERE: 'Below w.heap.size w w'' (Derived/Below.lean: '.refl', '.alloc', '.drew', '.setCell' at a new block, '.trans'). Open each 'IsRow' by 'rcases' AHEAD of 'go_enter'; part every test ahead of the walk. -/
set_option maxRecDepth 100000 in
set_option maxHeartbeats 8000000 in
theorem walk (a0 : Option Addr) (len0 cap0 : Nat) (z0 : List Int) (w : World) (w0 : IsRow .u8 w a0 len0 cap0 z0) :
    Calls Try.prog 6 #[.slice a0 len0 cap0] w fun e w' => e = .returned (.bool true) ∧ Below w.heap.size w w' := by
  obtain ⟨hc, hb⟩ := code_of w0
  by_cases hbig : 4096 < len0
  · go_enter Try.func6, Try.ntmps6
    go_wp2
    go_ret
    exact ⟨rfl, Below.refl _ _⟩
  go_enter Try.func6, Try.ntmps6
  go_wp2_with (first | (go_at_call 27; go_in) | fail)
  refine (drawCorrectByDistance_any _ _ _ _ _ hc (by omega) hb).mono ?_
  rintro e w1 ⟨m, A, n, c, xs, A2, n2, c2, ys, d, rfl, n17, n217, hI, hJ, d0, d1, hb1⟩
  clear hc hb w0
  replace hI := Lib.hid hI
  replace hJ := Lib.hid hJ
  obtain ⟨L, hL⟩ : ∃ L, cdL m n xs n2 ys d = L := ⟨_, rfl⟩
  obtain ⟨co, hco⟩ : ∃ co, cdC m n xs n2 ys d = co := ⟨_, rfl⟩
  obtain ⟨K, hK⟩ : ∃ K, cdK m n xs n2 ys d = K := ⟨_, rfl⟩
  replace hL := Lib.hid hL
  replace hco := Lib.hid hco
  replace hK := Lib.hid hK
  go_wp2_with fail
  refine (correctByDistance_val _ _ _ _ _ _ _ _ _ _ _ _ _ K L co hL hco hK hI.out (Nat.le_refl _) (by omega) hJ.out (Nat.le_refl _) (by omega)).mono ?_
  rintro e w2 ⟨A3, c3, rfl, hk3, hown, hb2⟩
  have hI2 := Lib.hid ((hI.out.below hb2).more hb2.size)
  have hJ2 := Lib.hid ((hJ.out.below hb2).more hb2.size)
  clear hI hJ
  go_wp2_with fail
  refine (sCorrectByDistance_val _ _ _ _ _ _ _ _ _ _ _ _ _ K L co hL hco hK hI2.out (Nat.le_refl _) (by omega) hJ2.out (Nat.le_refl _) (by omega)).mono ?_
  rintro e w3 ⟨A4, c4, rfl, hk4, _, hb3⟩
  have hown3 := own_below hown hb3
  have hI3 := Lib.hid ((hI2.out.below hb3).more hb3.size)
  have hJ3 := Lib.hid ((hJ2.out.below hb3).more hb3.size)
  clear hI2 hJ2 hown
  have z1 := hb1.size
  have z2 := hb2.size
  have z3 := hb3.size
  have hbb : Below w.heap.size w w3 := hb1.trans ((hb2.mono (by omega)).trans (hb3.mono (by omega)))
  clear hb1 hb2 hb3 z2
  have hzz := hbb.size
  by_cases h0 : co = 0
  · subst h0
    obtain ⟨e1, n16, hfin, dd0, dd1, hal⟩ := cdC_0 hco.out
    have hKn : K = n := by rw [← hK.out]; unfold cdK; rw [if_pos hco.out]
    have hLe : L = cdTo xs ys d n := by rw [← hL.out]; unfold cdL; rw [if_pos hco.out]
    subst hKn
    have hat := cdTo_at xs ys d K
    rw [← hLe] at hat
    have hIL : Ints w3 w3.heap.size A3 (K * 3) (fun j => L.getD j 0) := Ints.of_own hown3 (Nat.le_refl _) (by have := hown3.1; simp at this; simp; omega) (cells_of hown3).2
    replace hIL := Lib.hid hIL
    replace hat := Lib.hid hat
    clear hLe hL hco hK hown3
    replace hfin := Lib.hid hfin
    replace hal := Lib.hid hal
    go_wp2_with fail
    go_loopw [11] (fun v wr => ∃ k : Nat, k ≤ K ∧ v = .int .i64 k ∧ Below w3.heap.size w3 wr) (fun v _ => (K - intOf v).toNat)
    case atStart => exact ⟨0, by omega, rfl, Below.refl _ _⟩
    case round =>
      obtain ⟨k, hk, rfl, hbel⟩ := hrel
      have hsz := hbel.size
      by_cases hlt : k < K
      · obtain ⟨b, o, rfl, hadB, hcode⟩ := hI3.out (by omega)
        obtain ⟨b2, o2, rfl, hadB2, hcode2⟩ := hJ3.out (by omega)
        obtain ⟨b3, o3, rfl, hadB3, hcode3⟩ := hIL.out (by omega)
        obtain ⟨t0, t1, t2⟩ := hat.out k hlt
        obtain ⟨q0, q1, q2, q3, q4⟩ := finB_t (hfin.out k hlt)
        obtain ⟨a0', a1'⟩ := hal.out k hlt
        have g0 : wr.cell? ⟨b, o + k * 3, none⟩ = some (.int .i64 (xs (k * 3))) := by rw [hbel.cell (by simp; omega)]; exact hcode (k * 3) (by omega)
        have g1 : wr.cell? ⟨b, o + k * 3 + 1, none⟩ = some (.int .i64 (xs (k * 3 + 1))) := by rw [hbel.cell (by simp; omega)]; exact hcode (k * 3 + 1) (by omega)
        have g2 : wr.cell? ⟨b, o + k * 3 + 2, none⟩ = some (.int .i64 (xs (k * 3 + 2))) := by rw [hbel.cell (by simp; omega)]; exact hcode (k * 3 + 2) (by omega)
        have ga : wr.cell? ⟨b2, o2 + k, none⟩ = some (.int .i64 (ys k)) := by rw [hbel.cell (by simp; omega)]; exact hcode2 k (by omega)
        have p0 : wr.cell? ⟨b3, o3 + k * 3, none⟩ = some (.int .i64 (xs (k * 3))) := by rw [hbel.cell (by simp; omega), ← t0]; exact hcode3 (k * 3) (by omega)
        have p1 : wr.cell? ⟨b3, o3 + k * 3 + 1, none⟩ = some (.int .i64 (xs (k * 3 + 1))) := by rw [hbel.cell (by simp; omega), ← t1]; exact hcode3 (k * 3 + 1) (by omega)
        have p2 : wr.cell? ⟨b3, o3 + k * 3 + 2, none⟩ = some (.int .i64 (cdF xs ys d k)) := by rw [hbel.cell (by simp; omega), ← t2]; exact hcode3 (k * 3 + 2) (by omega)
        have hn2 : k < n2 := by omega
        have hbl : b < wr.heap.size := by omega
        have hbl2 : b2 < wr.heap.size := by omega
        have hbl3 : b3 < wr.heap.size := by omega
        have hcd : cdF xs ys d k = if xs (k * 3 + 1) = 0 then dcV (xs (k * 3 + 2)) (ys k) d else xs (k * 3 + 2) := rfl
        clear hcode hcode2 hcode3 t0 t1 t2
        generalize xs (k * 3 + 1) = cd at g1 p1 hcd q4
        generalize xs (k * 3) = bt at g0 p0
        generalize xs (k * 3 + 2) = tm at g2 hcd q4
        generalize ys k = al at ga hcd a0' a1'
        generalize cdF xs ys d k = ct at p2 hcd
        by_cases hcd0 : cd = 0
        · subst hcd0
          rw [if_pos rfl] at hcd
          obtain ⟨tm0, tm1⟩ := q4 rfl
          have hm0 := Int.mul_nonneg a0' (show 0 ≤ d by omega)
          have hcb := dcV_bd tm al d tm0 hm0
          have hle := (dcV_le tm ct d al dd0 a0' (by rw [hcd]; exact hcb.1)).1 (by rw [hcd]; exact Int.le_refl _)
          have e2 : dctV tm al d = (ct, 0) := by unfold dctV; rw [if_pos (by simp [inB]; omega), hcd]
          have e3 : alV tm ct d = (cdV (alY tm ct) d, 0) := by unfold alV; rw [if_pos (by simp [inB]; omega), if_pos (by omega)]
          generalize cdV (alY tm ct) d = nn at hle e3
          have hle' : decide (al < nn) = false := by simp; omega
          replace hcb := Lib.hid hcb
          clear hcd
          have hdc : ∀ W, Calls Try.prog 29 #[.int .i64 tm, .int .i64 al, .int .i64 d] W fun e w' => e = .returned (.tuple #[.int .i64 ct, .int .i64 0]) ∧ W = w' := fun W => by
            have h := distanceCorrected_any tm al d W
            rw [e2] at h
            exact h
          have haf : ∀ W, Calls Try.prog 30 #[.int .i64 tm, .int .i64 ct, .int .i64 d] W fun e w' => e = .returned (.tuple #[.int .i64 nn, .int .i64 0]) ∧ W = w' := fun W => by
            have h := allowanceFor_any tm ct d W
            rw [e3] at h
            exact h
          replace hdc := Lib.hid hdc
          replace haf := Lib.hid haf
          clear e2 e3
          go_wp2
          go_quiet (fail)
          go_wp2
          go_quiet ((go_at_call 29; first | exact quiet_w (hdc.out _) | exact quiet_w2 (hdc.out _)))
          go_wp2
          go_quiet ((go_at_call 30; first | exact quiet_w (haf.out _) | exact quiet_w2 (haf.out _)))
          go_wp2
          go_roundw
          case rel => exact ⟨k + 1, by omega, by go_num, below_dN hbel _⟩
          case measure => simp [intOf]; try omega
        · have hcd' : (cd == 0) = false := by rw [beq_eq_false_iff_ne]; exact hcd0
          clear hcd
          go_wp2
          go_quiet (fail)
          go_wp2
          go_roundw
          case rel => exact ⟨k + 1, by omega, by go_num, below_dN hbel _⟩
          case measure => simp [intOf]; try omega
      · obtain rfl : k = K := by omega
        go_wp2
        go_ret
        exact ⟨rfl, hbb.trans (hbel.mono (by omega))⟩
  · have hKn : K = 0 := by rw [← hK.out]; unfold cdK; rw [hco.out, if_neg h0]
    subst hKn
    have h0' : (co == 0) = false := by rw [beq_eq_false_iff_ne]; exact h0
    clear hL hco hK
    go_wp2
    go_ret
    exact ⟨rfl, hbb⟩

/-! ### THE ROW's STEP: WRITTEN OUT: LEAVE IT -/
set_option maxRecDepth 100000 in
theorem lifted (os : Os) (started : os.Started) (H : Type) (enc : TypeId × Value → H) :
    ReturnsInHanded {} Try.checked os 6 .any (Rows.fnByDistanceSpec.pre6 enc Try.prog Try.f6 Rows.fnByDistanceRow.domain false) (Rows.fnByDistanceSpec.post enc Try.prog Try.f6 false true false false) := by
  refine returnsInHanded_of_change (C := Try.checked) own started (by kernel_rfl) Try.func6
    (ChangeSpec.witness6 (enc := enc) (C := Try.checked) false ⟨#[], #[.slice none 0 0], []⟩ 8 (by kernel_rfl) (by kernel_rfl) (by kernel_rfl) (by kernel_rfl)) ?_
  intro W base args ds gs before hval0 hW hcnd _
  have hval : ∀ (j : Nat) t v, Try.f6.params[j]? = some t → args[j]? = some v → Value.okWide Try.prog W .any base t v := hval0
  have hW' := hW
  obtain ⟨p, q, hA0, hV, rfl, hfz, hnd⟩ := hW
  have hA : DataW.TrodAll enc Try.prog W 0 (fun _ => true) true Try.f6.params.toList args.toList ds p := hA0
  rw [Try.params6] at hA hval
  obtain ⟨v0, vs0, d0, ds0, p0, q0, hargs, rfl, rfl, h0, r0⟩ := trodAll_cons hA
  obtain ⟨rfl, rfl, rfl⟩ := trodAll_nil r0
  obtain rfl : args = #[v0] := by cases args; simp_all
  obtain ⟨rfl, rfl⟩ := trodVars_none hV
  obtain ⟨a0, len0, cap0, rfl⟩ := okWide_slice Try.underlying45 (hval 0 45 v0 rfl rfl)
  have k0 := h0
  have lt0 : ∀ x ∈ p0, x.block < W.heap.size := by obtain ⟨m, hm⟩ := k0; exact DataW.trod_lt m _ _ _ hm
  obtain ⟨z0, w0⟩ : ∃ zs, IsRow .u8 W a0 len0 cap0 zs := by
    obtain ⟨fuel, hf⟩ := h0
    rcases open_ints Try.underlying45 Try.underlying5 (by kernel_rfl) hf with ⟨hcs, _⟩ | ⟨x, l, c, zs, hcs, _, hl, hm, hz, _, hcell, hwz⟩
    · simp [Value.cells] at hcs
      obtain ⟨rfl, rfl, rfl⟩ := hcs
      exact ⟨[], .inl ⟨rfl, rfl, rfl, rfl⟩⟩
    · simp [Value.cells] at hcs
      obtain ⟨rfl, rfl, rfl⟩ := hcs
      exact ⟨zs, .inr ⟨_, rfl, hl, hm, by simpa using hz, hcell, hwz⟩⟩
  clear hA0 hval0
  refine (walk a0 len0 cap0 z0 W w0).mono fun e W' ⟨he, bel⟩ => ?_
  subst he
  exact ⟨_, rfl, _, _, _, [], _, [], hW', trodAll_mk1 (shut_bool Try.underlying4 _), (trodAll_cons_mk (Below.trod laidOut (by kernel_rfl) (of_decide_eq_true (by kernel_rfl)) k0 bel lt0) trodAll_mk0), rfl, bel.frame _, fun h => by cases h⟩

theorem over : Rows.fnByDistanceRow.holds Try.pinned (OpenSpec.ofChange Rows.fnByDistanceSpec) :=
  OpenClaim.holds_of_wide 6 Try.f6 rfl rfl rfl rfl rfl rfl rfl ⟨rfl, rfl, rfl, rfl, rfl⟩ rfl rfl rfl rfl rfl (by kernel_rfl) Try.func6 (by kernel_rfl)
    (of_decide_eq_true (by kernel_rfl)) (by unfold Func.isWrapper; first | (rw [if_pos (by decide +kernel)]; kernel_rfl) | (rw [if_neg (by decide +kernel)]; exact ⟨rfl, rfl⟩))
    (fun os started H enc _ => lifted os started H enc)

/-- THE STATEMENT -/
theorem proved : Rows.FnByDistanceSaid := over
#print axioms proved
end Go.Proofs.Ytbmclcajgplpnaa.fnByDistance
