/- The law FnSignals: for every input the call returns true, and each argument reads afterwards as it read before. No condition. -/
import Derived.Test.YtfckoeoohlgmiaaSig15
import Derived.Test.YtfckoeoohlgmiaaRows
import Derived.WalkKit
import Derived.ProofKit
import Derived.OpenShut
import Derived.ShutString
import Derived.ChangeOld
import Derived.Below
namespace Go.Proofs.Ytfckoeoohlgmiaa.fnSignals
open Go.ChangeShapes Go.WideShapes Go.ChangeAt Go.RowKit
open Go.ChangeMaps (open_string shut_string)
set_option linter.unusedVariables false

theorem own : ownKnob Try.prog.godebug = none := by kernel_rfl
theorem laidOut : laidOutB Try.prog = true := by kernel_rfl

/-- WHAT THE WALK IS TOLD OF A SLICE OF INTEGERS THAT CAME IN: it is nil; or it leads to a row of 'cap' cells, the numbers 'zs' (the first 'len' are its elements, the rest its spare room), each fitting its kind. -/
def IsRow (k : IntKind) (w : World) (a : Option Addr) (len cap : Nat) (zs : List Int) : Prop :=
  (a = none ∧ len = 0 ∧ cap = 0 ∧ zs = []) ∨
  ∃ x, a = some x ∧ len ≤ cap ∧ cap ≤ maxLen ∧ zs.length = cap ∧ (∀ i, i < zs.length → w.cell? (x.add i) = some (.int k (zs.getD i 0))) ∧ ∀ n ∈ zs, (Lit.int k n).wf = true

/-! ### STEP 1: THE WALK: the Go text returns true, AND WRITES NOTHING THAT WAS THERE: 'Below w.heap.size w w'' (Derived/Below.lean: '.refl', '.alloc', '.drew', '.setCell' at a new block, '.trans'). Open each 'IsRow' by 'rcases' AHEAD of 'go_enter'; part every test ahead of the walk. -/
set_option maxHeartbeats 8000000 in
theorem walk (a0 : Option Addr) (len0 cap0 : Nat) (z0 : List Int) (w : World) (w0 : IsRow .u8 w a0 len0 cap0 z0) :
    Calls Try.prog 7 #[.slice a0 len0 cap0] w fun e w' => e = .returned (.bool true) ∧ Below w.heap.size w w' := by
  obtain ⟨hc, hb⟩ := code_of w0
  by_cases hbig : 4096 < len0
  · go_enter Try.func7, Try.ntmps7
    go_wp2
    go_ret
    exact ⟨rfl, Below.refl _ _⟩
  go_enter Try.func7, Try.ntmps7
  go_wp2_with (first | (go_at_call 25; go_in) | fail)
  refine (drawFirstUnlawful_any _ _ _ _ _ hc (by omega) hb).mono ?_
  rintro e w1 ⟨A, n, c, xs, rfl, n41, hnc, hcm, hI, hbx, hb1⟩
  clear hc hb w0 hbx
  replace hI := Lib.hid hI
  go_wp2_with fail
  refine (firstUnlawful_any _ _ _ _ _ _ hI.out (Nat.le_refl _) (by omega)).mono ?_
  rintro e w2 ⟨rfl, hb2⟩
  have hI2 := Lib.hid ((hI.out.below hb2).more hb2.size)
  clear hI
  go_wp2_with fail
  refine (sFirstUnlawful_any _ _ _ _ _ _ hI2.out (Nat.le_refl _) (by omega)).mono ?_
  rintro e w3 ⟨rfl, hb3⟩
  have hI3 := Lib.hid ((hI2.out.below hb3).more hb3.size)
  clear hI2
  have z1 := hb1.size
  have z2 := hb2.size
  have z3 := hb3.size
  have hbb : Below w.heap.size w w3 := hb1.trans ((hb2.mono (by omega)).trans (hb3.mono (by omega)))
  clear hb1 hb2 hb3 z2 z3
  have hzz := hbb.size
  cases h0 : isS n xs with
  | false =>
    have e1 : unl n xs = (0, 1) := by simp [unl, h0]
    go_wp2_with fail
    refine (isSignals_any _ _ _ _ _ _ hI3.out (Nat.le_refl _) (by omega)).mono ?_
    rintro e w4 ⟨rfl, hb4⟩
    have hbb4 : Below w.heap.size w w4 := hbb.trans (hb4.mono (by omega))
    clear hb4 hbb
    go_wp2_with fail
    go_loopw [8] (fun v8 wr => v8 = .int .i64 0 ∧ Below w.heap.size w wr) (fun v8 _ => 0)
    case atStart => exact ⟨rfl, hbb4⟩
    case round =>
      obtain ⟨rfl, hbel⟩ := hrel
      go_wp2
      go_ret
      exact ⟨rfl, hbel⟩
  | true =>
    have hle := lead_le (okA xs) n
    have hsl := fun i h1 h2 => sig_law h0 (i := i) h1 h2
    have hn40 := (isS_t h0).1
    have hok := fun i h => okS_t ((isS_t h0).2 i h)
    generalize hl : lead (okA xs) n = l at hle hsl
    replace hsl := Lib.hid hsl
    replace hok := Lib.hid hok
    rcases Nat.lt_or_ge l n with hln | hln
    · have e1 : unl n xs = ((l : Int), 0) := by unfold unl; rw [if_pos h0, hl, if_pos hln]
      have hl0 : decide ((l : Int) < 0) = false := by simp
      go_wp2_with fail
      refine (isSignals_any _ _ _ _ _ _ hI3.out (Nat.le_refl _) (by omega)).mono ?_
      rintro e w4 ⟨rfl, hb4⟩
      have hbb4 : Below w.heap.size w w4 := hbb.trans (hb4.mono (by omega))
      have hI4 := Lib.hid ((hI3.out.below hb4).more hb4.size)
      have z4 : w.heap.size ≤ w4.heap.size := by have := hb4.size; omega
      clear hb4 hbb hI3
      go_wp2_with fail
      go_loopw [8] (fun v8 wr => ∃ k : Nat, k ≤ n ∧ k ≤ l + 1 ∧ v8 = .int .i64 k ∧ Below w4.heap.size w4 wr) (fun v8 _ => (n - intOf v8).toNat)
      case atStart => exact ⟨0, by omega, by omega, rfl, Below.refl _ _⟩
      case round =>
        obtain ⟨k, hkn', hkl1, rfl, hbel⟩ := hrel
        have hsz := hbel.size
        rcases Nat.lt_or_ge k l with hlt | hge
        · have hkn : k < n := by omega
          have hka : decide ((k : Int) ≤ l) = true := by simp; omega
          have hkb : ((k : Int) == l) = false := by rw [beq_eq_false_iff_ne]; omega
          replace hkb : ((k : Int) != l) = true := by rw [bne, hkb]; rfl
          obtain ⟨hf, hct⟩ := hsl.out k hkn (by omega)
          have hkl := kindL_len k xs (xs (k * 2 + 1))
          generalize hL : kindL k xs (xs (k * 2 + 1)) = L at hct hkl
          rw [show decide (k < l) = true by simp; omega] at hct
          obtain ⟨b, o, rfl, hadB, hcode⟩ := hI4.out (by omega)
          have g0 : wr.cell? ⟨b, o + k * 2, none⟩ = some (.int .i64 (xs (k * 2))) := by rw [hbel.cell (by simp; omega)]; exact hcode (k * 2) (by omega)
          have g1 : wr.cell? ⟨b, o + k * 2 + 1, none⟩ = some (.int .i64 (xs (k * 2 + 1))) := by rw [hbel.cell (by simp; omega)]; exact hcode (k * 2 + 1) (by omega)
          have hIk := Lib.hid ((hI4.out.below hbel).fewer (m := k * 2) (by omega))
          have hbl : b < wr.heap.size := by omega
          clear hcode
          have hkc : k ≤ c := by omega
          have hkc' : (k : Int) ≤ (c : Int) := by omega
          have hkc2 : ¬ (c < k) := by omega
          go_wp2_with fail
          have hcall := fun W (hbW : Below wr.heap.size wr W) => lawfulKinds_val (some ⟨b, o, none⟩) k c w4.heap.size xs (xs (k * 2 + 1)) W L.length L 0 (Lib.hid hL) (Lib.hid hf) (Lib.hid rfl) (hIk.out.below (hbW.mono hsz)) (Nat.le_trans hsz hbW.size) (by omega)
          replace hcall := Lib.hid hcall
          go_region_law (go_simp; go_at_call 20; refine (hcall.out _ (by first | exact Below.refl _ _ | exact (Below.refl _ _).drew)).mono ?_; rintro e w5 ⟨Ak, ck, rfl, hk5, hown5, hb5⟩; have hbw5 : Below wr.heap.size wr w5 := (by first | exact hb5 | exact (Below.refl _ _).drew.trans hb5))
          all_goals clear hcall
          all_goals have hsz5 := hbw5.size
          all_goals have g0' : w5.cell? ⟨b, o + k * 2, none⟩ = some (.int .i64 (xs (k * 2))) := (hbw5.cell (p := ⟨b, o + k * 2, none⟩) hbl).trans g0
          all_goals have hIL : Ints w5 w5.heap.size Ak L.length (fun j => L.getD j 0) := Ints.of_own hown5 (Nat.le_refl _) (by simp) (fun j hj => (cells_of hown5).2 j (by omega))
          all_goals clear hown5 hb5
          all_goals go_wp2_with fail
          all_goals refine (hasInt_any _ _ _ _ L _ _ hIL rfl (Nat.le_refl _) (by omega)).mono ?_
          all_goals rintro e w6 ⟨rfl, hb6⟩
          all_goals rw [hct]
          all_goals go_wp2
          all_goals (go_roundw; rotate_left; (simp [intOf]; try omega); refine ⟨k + 1, by omega, by omega, by go_num, ?_⟩; exact (hbel.trans (hbw5.mono hsz)).trans (hb6.mono (by omega)))
        · rcases Nat.lt_or_ge k n with hkn | hkn
          · rcases Nat.eq_or_lt_of_le hge with e | hgt
            · obtain rfl : k = l := by omega
              obtain ⟨hf, hct⟩ := hsl.out k hkn (by omega)
              have hkl := kindL_len k xs (xs (k * 2 + 1))
              generalize hL : kindL k xs (xs (k * 2 + 1)) = L at hct hkl
              rw [show decide (k < k) = false by simp] at hct
              obtain ⟨b, o, rfl, hadB, hcode⟩ := hI4.out (by omega)
              have g0 : wr.cell? ⟨b, o + k * 2, none⟩ = some (.int .i64 (xs (k * 2))) := by rw [hbel.cell (by simp; omega)]; exact hcode (k * 2) (by omega)
              have g1 : wr.cell? ⟨b, o + k * 2 + 1, none⟩ = some (.int .i64 (xs (k * 2 + 1))) := by rw [hbel.cell (by simp; omega)]; exact hcode (k * 2 + 1) (by omega)
              have hIk := Lib.hid ((hI4.out.below hbel).fewer (m := k * 2) (by omega))
              have hbl : b < wr.heap.size := by omega
              clear hcode
              have hkc : k ≤ c := by omega
              have hkc' : (k : Int) ≤ (c : Int) := by omega
              have hkc2 : ¬ (c < k) := by omega
              go_wp2_with fail
              have hcall := fun W (hbW : Below wr.heap.size wr W) => lawfulKinds_val (some ⟨b, o, none⟩) k c w4.heap.size xs (xs (k * 2 + 1)) W L.length L 0 (Lib.hid hL) (Lib.hid hf) (Lib.hid rfl) (hIk.out.below (hbW.mono hsz)) (Nat.le_trans hsz hbW.size) (by omega)
              replace hcall := Lib.hid hcall
              go_region_law (go_simp; go_at_call 20; refine (hcall.out _ (by first | exact Below.refl _ _ | exact (Below.refl _ _).drew)).mono ?_; rintro e w5 ⟨Ak, ck, rfl, hk5, hown5, hb5⟩; have hbw5 : Below wr.heap.size wr w5 := (by first | exact hb5 | exact (Below.refl _ _).drew.trans hb5))
              all_goals clear hcall
              all_goals have hsz5 := hbw5.size
              all_goals have g0' : w5.cell? ⟨b, o + k * 2, none⟩ = some (.int .i64 (xs (k * 2))) := (hbw5.cell (p := ⟨b, o + k * 2, none⟩) hbl).trans g0
              all_goals have hIL : Ints w5 w5.heap.size Ak L.length (fun j => L.getD j 0) := Ints.of_own hown5 (Nat.le_refl _) (by simp) (fun j hj => (cells_of hown5).2 j (by omega))
              all_goals clear hown5 hb5
              all_goals go_wp2_with fail
              all_goals refine (hasInt_any _ _ _ _ L _ _ hIL rfl (Nat.le_refl _) (by omega)).mono ?_
              all_goals rintro e w6 ⟨rfl, hb6⟩
              all_goals rw [hct]
              all_goals go_wp2
              all_goals (go_roundw; rotate_left; (simp [intOf]; try omega); refine ⟨k + 1, by omega, by omega, by go_num, ?_⟩; exact (hbel.trans (hbw5.mono hsz)).trans (hb6.mono (by omega)))
            · have hka : decide ((k : Int) ≤ l) = false := by simp; omega
              go_wp2
              go_ret
              exact ⟨rfl, hbb4.trans (hbel.mono z4)⟩
          · obtain rfl : k = n := by omega
            go_wp2
            go_ret
            exact ⟨rfl, hbb4.trans (hbel.mono z4)⟩
    · obtain rfl : l = n := by omega
      have e1 : unl l xs = (-1, 0) := by unfold unl; rw [if_pos h0, hl, if_neg (by omega)]
      go_wp2_with fail
      refine (isSignals_any _ _ _ _ _ _ hI3.out (Nat.le_refl _) (by omega)).mono ?_
      rintro e w4 ⟨rfl, hb4⟩
      have hbb4 : Below w.heap.size w w4 := hbb.trans (hb4.mono (by omega))
      have hI4 := Lib.hid ((hI3.out.below hb4).more hb4.size)
      have z4 : w.heap.size ≤ w4.heap.size := by have := hb4.size; omega
      clear hb4 hbb hI3
      go_wp2_with fail
      go_loopw [8] (fun v8 wr => ∃ k : Nat, k ≤ l ∧ v8 = .int .i64 k ∧ Below w4.heap.size w4 wr) (fun v8 _ => (l - intOf v8).toNat)
      case atStart => exact ⟨0, by omega, rfl, Below.refl _ _⟩
      case round =>
        obtain ⟨k, hkn', rfl, hbel⟩ := hrel
        have hsz := hbel.size
        rcases Nat.lt_or_ge k l with hkn | hkn
        · have hkb : ((k : Int) == -1) = false := by rw [beq_eq_false_iff_ne]; omega
          obtain ⟨hf, hct⟩ := hsl.out k hkn (by omega)
          have hkl := kindL_len k xs (xs (k * 2 + 1))
          generalize hL : kindL k xs (xs (k * 2 + 1)) = L at hct hkl
          rw [show decide (k < l) = true by simp; omega] at hct
          obtain ⟨b, o, rfl, hadB, hcode⟩ := hI4.out (by omega)
          have g0 : wr.cell? ⟨b, o + k * 2, none⟩ = some (.int .i64 (xs (k * 2))) := by rw [hbel.cell (by simp; omega)]; exact hcode (k * 2) (by omega)
          have g1 : wr.cell? ⟨b, o + k * 2 + 1, none⟩ = some (.int .i64 (xs (k * 2 + 1))) := by rw [hbel.cell (by simp; omega)]; exact hcode (k * 2 + 1) (by omega)
          have hIk := Lib.hid ((hI4.out.below hbel).fewer (m := k * 2) (by omega))
          have hbl : b < wr.heap.size := by omega
          clear hcode
          have hkc : k ≤ c := by omega
          have hkc' : (k : Int) ≤ (c : Int) := by omega
          have hkc2 : ¬ (c < k) := by omega
          go_wp2_with fail
          have hcall := fun W (hbW : Below wr.heap.size wr W) => lawfulKinds_val (some ⟨b, o, none⟩) k c w4.heap.size xs (xs (k * 2 + 1)) W L.length L 0 (Lib.hid hL) (Lib.hid hf) (Lib.hid rfl) (hIk.out.below (hbW.mono hsz)) (Nat.le_trans hsz hbW.size) (by omega)
          replace hcall := Lib.hid hcall
          go_region_law (go_simp; go_at_call 20; refine (hcall.out _ (by first | exact Below.refl _ _ | exact (Below.refl _ _).drew)).mono ?_; rintro e w5 ⟨Ak, ck, rfl, hk5, hown5, hb5⟩; have hbw5 : Below wr.heap.size wr w5 := (by first | exact hb5 | exact (Below.refl _ _).drew.trans hb5))
          all_goals clear hcall
          all_goals have hsz5 := hbw5.size
          all_goals have g0' : w5.cell? ⟨b, o + k * 2, none⟩ = some (.int .i64 (xs (k * 2))) := (hbw5.cell (p := ⟨b, o + k * 2, none⟩) hbl).trans g0
          all_goals have hIL : Ints w5 w5.heap.size Ak L.length (fun j => L.getD j 0) := Ints.of_own hown5 (Nat.le_refl _) (by simp) (fun j hj => (cells_of hown5).2 j (by omega))
          all_goals clear hown5 hb5
          all_goals go_wp2_with fail
          all_goals refine (hasInt_any _ _ _ _ L _ _ hIL rfl (Nat.le_refl _) (by omega)).mono ?_
          all_goals rintro e w6 ⟨rfl, hb6⟩
          all_goals rw [hct]
          all_goals go_wp2
          all_goals (go_roundw; rotate_left; (simp [intOf]; try omega); refine ⟨k + 1, by omega, by go_num, ?_⟩; exact (hbel.trans (hbw5.mono hsz)).trans (hb6.mono (by omega)))
        · obtain rfl : k = l := by omega
          go_wp2
          go_ret
          exact ⟨rfl, hbb4.trans (hbel.mono z4)⟩

/-! ### THE ROW's STEP: WRITTEN OUT: LEAVE IT -/
set_option maxRecDepth 100000 in
theorem lifted (os : Os) (started : os.Started) (H : Type) (enc : TypeId × Value → H) :
    ReturnsInHanded {} Try.checked os 7 .any (Rows.fnSignalsSpec.pre6 enc Try.prog Try.f7 Rows.fnSignalsRow.domain false) (Rows.fnSignalsSpec.post enc Try.prog Try.f7 false true false false) := by
  refine returnsInHanded_of_change (C := Try.checked) own started (by kernel_rfl) Try.func7
    (ChangeSpec.witness6 (enc := enc) (C := Try.checked) false ⟨#[], #[.slice none 0 0], []⟩ 8 (by kernel_rfl) (by kernel_rfl) (by kernel_rfl) (by kernel_rfl)) ?_
  intro W base args ds gs before hval0 hW hcnd _
  have hval : ∀ (j : Nat) t v, Try.f7.params[j]? = some t → args[j]? = some v → Value.okWide Try.prog W .any base t v := hval0
  have hW' := hW
  obtain ⟨p, q, hA0, hV, rfl, hfz, hnd⟩ := hW
  have hA : DataW.TrodAll enc Try.prog W 0 (fun _ => true) true Try.f7.params.toList args.toList ds p := hA0
  rw [Try.params7] at hA hval
  obtain ⟨v0, vs0, d0, ds0, p0, q0, hargs, rfl, rfl, h0, r0⟩ := trodAll_cons hA
  obtain ⟨rfl, rfl, rfl⟩ := trodAll_nil r0
  obtain rfl : args = #[v0] := by cases args; simp_all
  obtain ⟨rfl, rfl⟩ := trodVars_none hV
  obtain ⟨a0, len0, cap0, rfl⟩ := okWide_slice Try.underlying38 (hval 0 38 v0 rfl rfl)
  have k0 := h0
  have lt0 : ∀ x ∈ p0, x.block < W.heap.size := by obtain ⟨m, hm⟩ := k0; exact DataW.trod_lt m _ _ _ hm
  obtain ⟨z0, w0⟩ : ∃ zs, IsRow .u8 W a0 len0 cap0 zs := by
    obtain ⟨fuel, hf⟩ := h0
    rcases open_ints Try.underlying38 Try.underlying5 (by kernel_rfl) hf with ⟨hcs, _⟩ | ⟨x, l, c, zs, hcs, _, hl, hm, hz, _, hcell, hwz⟩
    · simp [Value.cells] at hcs
      obtain ⟨rfl, rfl, rfl⟩ := hcs
      exact ⟨[], .inl ⟨rfl, rfl, rfl, rfl⟩⟩
    · simp [Value.cells] at hcs
      obtain ⟨rfl, rfl, rfl⟩ := hcs
      exact ⟨zs, .inr ⟨_, rfl, hl, hm, by simpa using hz, hcell, hwz⟩⟩
  clear hA0 hval0
  refine (walk a0 len0 cap0 z0 W w0).mono fun e W' ⟨he, bel⟩ => ?_
  subst he
  exact ⟨_, rfl, _, _, _, [], _, [], hW', trodAll_mk1 (shut_bool Try.underlying4 _), (trodAll_cons_mk (Below.trod laidOut (by kernel_rfl) (of_decide_eq_true (by kernel_rfl)) k0 bel lt0) trodAll_mk0), rfl, bel.frame _, fun h => by cases h⟩

theorem over : Rows.fnSignalsRow.holds Try.pinned (OpenSpec.ofChange Rows.fnSignalsSpec) :=
  OpenClaim.holds_of_wide 7 Try.f7 rfl rfl rfl rfl rfl rfl rfl ⟨rfl, rfl, rfl, rfl, rfl⟩ rfl rfl rfl rfl rfl (by kernel_rfl) Try.func7 (by kernel_rfl)
    (of_decide_eq_true (by kernel_rfl)) (by unfold Func.isWrapper; first | (rw [if_pos (by decide +kernel)]; kernel_rfl) | (rw [if_neg (by decide +kernel)]; exact ⟨rfl, rfl⟩))
    (fun os started H enc _ => lifted os started H enc)

/-- THE STATEMENT -/
theorem proved : Rows.FnSignalsSaid := over
#print axioms proved
end Go.Proofs.Ytfckoeoohlgmiaa.fnSignals
