/- The law FnAllowed: for every input the call returns true, and each argument reads afterwards as it read before. No condition. -/
import Derived.Test.YtpligajegdaidaaPick
import Derived.Test.YtpligajegdaidaaArith
import Derived.Test.YtpligajegdaidaaRows
import Derived.WalkKit
import Derived.ProofKit
import Derived.OpenShut
import Derived.ShutString
import Derived.ChangeOld
import Derived.Below
namespace Go.Proofs.Ytpligajegdaidaa.fnAllowed
open Go.ChangeShapes Go.WideShapes Go.ChangeAt Go.RowKit
open Go.ChangeMaps (open_string shut_string)
set_option linter.unusedVariables false

theorem own : ownKnob Try.prog.godebug = none := by kernel_rfl
theorem laidOut : laidOutB Try.prog = true := by kernel_rfl

/-- WHAT THE WALK IS TOLD OF A SLICE OF INTEGERS THAT CAME IN: it is nil; or it leads to a row of 'cap' cells, the numbers 'zs' (the first 'len' are its elements, the rest its spare room), each fitting its kind. -/
def IsRow (k : IntKind) (w : World) (a : Option Addr) (len cap : Nat) (zs : List Int) : Prop :=
  (a = none ∧ len = 0 ∧ cap = 0 ∧ zs = []) ∨
  ∃ x, a = some x ∧ len ≤ cap ∧ cap ≤ maxLen ∧ zs.length = cap ∧ (∀ i, i < zs.length → w.cell? (x.add i) = some (.int k (zs.getD i 0))) ∧ ∀ n ∈ zs, (Lit.int k n).wf = true

/-! ### STEP 1: THE WALK: the Go text returns true, AND WRITES NOTHING THAT WAS THERE: 'Below w.heap.size w w'' (Derived/Below.lean: '.refl', '.alloc', '.drew', '.setCell' at a new block, '.trans'). Open each 'IsRow' by 'rcases' AHEAD of 'go_enter'; part every test ahead of the walk. -/
theorem walk (a0 : Option Addr) (len0 cap0 : Nat) (z0 : List Int) (w : World) (w0 : IsRow .u8 w a0 len0 cap0 z0) :
    Calls Try.prog 14 #[.slice a0 len0 cap0] w fun e w' => e = .returned (.bool true) ∧ Below w.heap.size w w' := by
  obtain ⟨hc, hb⟩ := code_of w0
  by_cases hbig : 4096 < len0
  · go_enter Try.func14, Try.ntmps14
    go_wp2
    go_ret
    exact ⟨rfl, Below.refl _ _⟩
  go_enter Try.func14, Try.ntmps14
  go_wp2_with (first | (go_at_call 37; go_in) | fail)
  refine (drawTimeGiven_any _ _ _ _ _ hc (by omega) hb).mono ?_
  rintro e w1 ⟨a, b, d, rfl, a0, a1, b0, b1, d0, d1, hb1⟩
  clear hc hb w0
  by_cases hv : inB a 0 1000000 = true ∧ inB b 0 1000000 = true ∧ inB d 1 10000000 = true
  · obtain ⟨h0, h1, h2⟩ := hv
    obtain ⟨l0, u0⟩ := inB_t h0
    obtain ⟨l1, u1⟩ := inB_t h1
    obtain ⟨l2, u2⟩ := inB_t h2
    have ma := mul_bd (A := 1000000) (B := 10000000) l0 u0 (show 0 ≤ d by omega) u2
    have mb := mul_bd (A := 1000000) (B := 10000000) l1 u1 (show 0 ≤ d by omega) u2
    have ea : atV a d = (a * d / 10000, 0) := by simp [atV, h0, h2]
    have eb : atV b d = (b * d / 10000, 0) := by simp [atV, h1, h2]
    have e1 : tgV a b d = (b * d / 10000 - a * d / 10000, 0) := by simp [tgV, h0, h1, h2]
    have e2 : tgV b a d = (a * d / 10000 - b * d / 10000, 0) := by simp [tgV, h0, h1, h2]
    have hF : inB 50000 1 1000000000 = true := by decide
    have ca : dctV 50000 a d = (dcV 50000 a d, 0) := by simp [dctV, h0, h2, hF]
    have cb : dctV 50000 b d = (dcV 50000 b d, 0) := by simp [dctV, h1, h2, hF]
    obtain ⟨p, hp⟩ : ∃ p, p = a * d / 10000 := ⟨_, rfl⟩
    obtain ⟨q, hq⟩ : ∃ q, q = b * d / 10000 := ⟨_, rfl⟩
    rw [← hp] at ea e1 e2
    rw [← hq] at eb e1 e2
    have p0 : 0 ≤ p ∧ p ≤ 1000000000 := by omega
    have q0 : 0 ≤ q ∧ q ≤ 1000000000 := by omega
    by_cases hab : a < b
    · have m1 : dcV 50000 b d ≤ dcV 50000 a d := by
        have : a * d ≤ b * d := Int.mul_le_mul_of_nonneg_right (by omega) (by omega)
        unfold dcV; omega
      have m2 := (dcV_bd 50000 b d (by omega) mb.1).1
      clear hp hq ma mb
      go_wp2_with (first | (go_at_call 24; refine (timeGiven_any _ _ _ _).mono ?_; rintro e w' ⟨rfl, rfl⟩) | (go_at_call 23; refine (sTimeGiven_any _ _ _ _).mono ?_; rintro e w' ⟨rfl, rfl⟩) | (go_at_call 20; refine (allowedTime_any _ _ _).mono ?_; rintro e w' ⟨rfl, rfl⟩) | (go_at_call 30; refine (distanceCorrected_any _ _ _ _).mono ?_; rintro e w' ⟨rfl, rfl⟩))
      go_ret
      exact ⟨rfl, hb1⟩
    by_cases hab2 : a = b
    · subst hab2
      have m2 := (dcV_bd 50000 a d (by omega) ma.1).1
      have : p = q := by rw [hp, hq]
      subst this
      clear hp hq ma mb
      go_wp2_with (first | (go_at_call 24; refine (timeGiven_any _ _ _ _).mono ?_; rintro e w' ⟨rfl, rfl⟩) | (go_at_call 23; refine (sTimeGiven_any _ _ _ _).mono ?_; rintro e w' ⟨rfl, rfl⟩) | (go_at_call 20; refine (allowedTime_any _ _ _).mono ?_; rintro e w' ⟨rfl, rfl⟩) | (go_at_call 30; refine (distanceCorrected_any _ _ _ _).mono ?_; rintro e w' ⟨rfl, rfl⟩))
      go_ret
      exact ⟨rfl, hb1⟩
    · have hab3 : b < a := by omega
      clear hab hab2
      have m1 : dcV 50000 a d ≤ dcV 50000 b d := by
        have : b * d ≤ a * d := Int.mul_le_mul_of_nonneg_right (by omega) (by omega)
        unfold dcV; omega
      have m2 := (dcV_bd 50000 a d (by omega) ma.1).1
      clear hp hq ma mb
      go_wp2_with (first | (go_at_call 24; refine (timeGiven_any _ _ _ _).mono ?_; rintro e w' ⟨rfl, rfl⟩) | (go_at_call 23; refine (sTimeGiven_any _ _ _ _).mono ?_; rintro e w' ⟨rfl, rfl⟩) | (go_at_call 20; refine (allowedTime_any _ _ _).mono ?_; rintro e w' ⟨rfl, rfl⟩) | (go_at_call 30; refine (distanceCorrected_any _ _ _ _).mono ?_; rintro e w' ⟨rfl, rfl⟩))
      go_ret
      exact ⟨rfl, hb1⟩
  · have e1 : tgV a b d = (0, 2) := by
      cases h0 : inB a 0 1000000 <;> cases h1 : inB b 0 1000000 <;> cases h2 : inB d 1 10000000 <;> simp_all [tgV]
    clear hv
    go_wp2_with (first | (go_at_call 24; refine (timeGiven_any _ _ _ _).mono ?_; rintro e w' ⟨rfl, rfl⟩) | (go_at_call 23; refine (sTimeGiven_any _ _ _ _).mono ?_; rintro e w' ⟨rfl, rfl⟩))
    go_ret
    exact ⟨rfl, hb1⟩

/-! ### THE ROW's STEP: WRITTEN OUT: LEAVE IT -/
set_option maxRecDepth 100000 in
theorem lifted (os : Os) (started : os.Started) (H : Type) (enc : TypeId × Value → H) :
    ReturnsInHanded {} Try.checked os 14 .any (Rows.fnAllowedSpec.pre6 enc Try.prog Try.f14 Rows.fnAllowedRow.domain false) (Rows.fnAllowedSpec.post enc Try.prog Try.f14 false true false false) := by
  refine returnsInHanded_of_change (C := Try.checked) own started (by kernel_rfl) Try.func14
    (ChangeSpec.witness6 (enc := enc) (C := Try.checked) false ⟨#[], #[.slice none 0 0], []⟩ 8 (by kernel_rfl) (by kernel_rfl) (by kernel_rfl) (by kernel_rfl)) ?_
  intro W base args ds gs before hval0 hW hcnd _
  have hval : ∀ (j : Nat) t v, Try.f14.params[j]? = some t → args[j]? = some v → Value.okWide Try.prog W .any base t v := hval0
  have hW' := hW
  obtain ⟨p, q, hA0, hV, rfl, hfz, hnd⟩ := hW
  have hA : DataW.TrodAll enc Try.prog W 0 (fun _ => true) true Try.f14.params.toList args.toList ds p := hA0
  rw [Try.params14] at hA hval
  obtain ⟨v0, vs0, d0, ds0, p0, q0, hargs, rfl, rfl, h0, r0⟩ := trodAll_cons hA
  obtain ⟨rfl, rfl, rfl⟩ := trodAll_nil r0
  obtain rfl : args = #[v0] := by cases args; simp_all
  obtain ⟨rfl, rfl⟩ := trodVars_none hV
  obtain ⟨a0, len0, cap0, rfl⟩ := okWide_slice Try.underlying30 (hval 0 30 v0 rfl rfl)
  have k0 := h0
  have lt0 : ∀ x ∈ p0, x.block < W.heap.size := by obtain ⟨m, hm⟩ := k0; exact DataW.trod_lt m _ _ _ hm
  obtain ⟨z0, w0⟩ : ∃ zs, IsRow .u8 W a0 len0 cap0 zs := by
    obtain ⟨fuel, hf⟩ := h0
    rcases open_ints Try.underlying30 Try.underlying5 (by kernel_rfl) hf with ⟨hcs, _⟩ | ⟨x, l, c, zs, hcs, _, hl, hm, hz, _, hcell, hwz⟩
    · simp [Value.cells] at hcs
      obtain ⟨rfl, rfl, rfl⟩ := hcs
      exact ⟨[], .inl ⟨rfl, rfl, rfl, rfl⟩⟩
    · simp [Value.cells] at hcs
      obtain ⟨rfl, rfl, rfl⟩ := hcs
      exact ⟨zs, .inr ⟨_, rfl, hl, hm, by simpa using hz, hcell, hwz⟩⟩
  clear hA0 hval0
  refine (walk a0 len0 cap0 z0 W w0).mono fun e W' ⟨he, bel⟩ => ?_
  subst he
  exact ⟨_, rfl, _, _, _, [], _, [], hW', trodAll_mk1 (shut_bool Try.underlying4 _), (trodAll_cons_mk (Below.trod laidOut (by kernel_rfl) (of_decide_eq_true (by kernel_rfl)) k0 bel lt0) trodAll_mk0), rfl, bel.frame _, fun h => by cases h⟩

theorem over : Rows.fnAllowedRow.holds Try.pinned (OpenSpec.ofChange Rows.fnAllowedSpec) :=
  OpenClaim.holds_of_wide 14 Try.f14 rfl rfl rfl rfl rfl rfl rfl ⟨rfl, rfl, rfl, rfl, rfl⟩ rfl rfl rfl rfl rfl (by kernel_rfl) Try.func14 (by kernel_rfl)
    (of_decide_eq_true (by kernel_rfl)) (by unfold Func.isWrapper; first | (rw [if_pos (by decide +kernel)]; kernel_rfl) | (rw [if_neg (by decide +kernel)]; exact ⟨rfl, rfl⟩))
    (fun os started H enc _ => lifted os started H enc)

/-- THE STATEMENT -/
theorem proved : Rows.FnAllowedSaid := over
#print axioms proved
end Go.Proofs.Ytpligajegdaidaa.fnAllowed
