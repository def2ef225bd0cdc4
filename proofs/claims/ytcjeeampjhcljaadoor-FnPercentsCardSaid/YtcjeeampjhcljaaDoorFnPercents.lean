/- The law FnPercents: for every input the call returns true, and each argument reads afterwards as it read before. No condition. -/
import Derived.Test.YtcjeeampjhcljaaDoorPct
import Derived.Test.YtcjeeampjhcljaaDoorCards
import Derived.Test.YtcjeeampjhcljaaDoorTie
import Derived.Test.YtcjeeampjhcljaaDoorRows
import Derived.Deep.DeepHandedRow
import Derived.Lib.LaidTab
import Derived.WalkKit
import Derived.ProofKit
import Derived.OpenShut
import Derived.ShutString
import Derived.ChangeOld
import Derived.Below
namespace Go.Proofs.YtcjeeampjhcljaaDoor.fnPercents
open Go.ChangeShapes Go.WideShapes Go.ChangeAt Go.RowKit
open Go.ChangeMaps (open_string shut_string)
set_option linter.unusedVariables false

theorem own : ownKnob Tryd.prog.godebug = none := by kernel_rfl
theorem laidOut : laidOutB Tryd.prog = true := by kernel_rfl
theorem gTab : Tryd.prog.globalNamed "internal/strconv.uint64pow10" = some 0 := by kernel_rfl
theorem gTabType : (Tryd.prog.globals[0]?).map (·.type) = some 62 := by kernel_rfl
theorem cellsT : Tryd.prog.cellsOf 62 = 20 := by kernel_rfl
theorem cellsE : Tryd.prog.cellsOf 55 = 1 := by kernel_rfl
/-- What the row's list gives: the table of the powers of ten. -/
theorem table {W : World} (h : laidMetH Tryd.prog Rows.fnPercentsRow.laid W) : Lib.TabIs Tryd.prog W "internal/strconv.uint64pow10" .u64 Lib.pow10Tab := by
  obtain ⟨ps, h0, _, _⟩ := (show laidMet Tryd.prog Rows.fnPercentsRow.laid W from h)
  obtain ⟨_, _, _, _, _, _, _, _, _, _, h1, _⟩ := h0
  obtain ⟨_, _, _, _, _, _, _, _, _, _, h2, _⟩ := h1
  obtain ⟨g', t', cs, fuel, p, q, hg', ht', hvar, hd, _, _⟩ := h2
  obtain rfl := Option.some.inj (gTab.symm.trans hg')
  obtain rfl := Option.some.inj (gTabType.symm.trans ht')
  unfold Lib.TabIs
  rw [hvar, ← Lib.cells_of_tab (k := .u64) (zs := Lib.pow10Tab) Tryd.underlying62 Tryd.underlying55 cellsE cellsT hd]

/-- WHAT THE WALK IS TOLD OF A SLICE OF INTEGERS THAT CAME IN: it is nil; or it leads to a row of 'cap' cells, the numbers 'zs' (the first 'len' are its elements, the rest its spare room), each fitting its kind. -/
def IsRow (k : IntKind) (w : World) (a : Option Addr) (len cap : Nat) (zs : List Int) : Prop :=
  (a = none ∧ len = 0 ∧ cap = 0 ∧ zs = []) ∨
  ∃ x, a = some x ∧ len ≤ cap ∧ cap ≤ maxLen ∧ zs.length = cap ∧ (∀ i, i < zs.length → w.cell? (x.add i) = some (.int k (zs.getD i 0))) ∧ ∀ n ∈ zs, (Lit.int k n).wf = true

/-! ### STEP 1: THE WALK: the Go text returns true, AND WRITES NOTHING THAT WAS THERE: 'Below w.heap.size w w'' (Derived/Below.lean: '.refl', '.alloc', '.drew', '.setCell' at a new block, '.trans'). Open each 'IsRow' by 'rcases' AHEAD of 'go_enter'; part every test ahead of the walk. -/
set_option maxRecDepth 100000 in
set_option maxHeartbeats 8000000 in
theorem walk (a0 : Option Addr) (len0 cap0 : Nat) (z0 : List Int) (w : World) (w0 : IsRow .u8 w a0 len0 cap0 z0) (htab : Lib.TabIs Tryd.prog w "internal/strconv.uint64pow10" .u64 Lib.pow10Tab) :
    Calls Tryd.prog 4 #[.slice a0 len0 cap0] w fun e w' => e = .returned (.bool true) ∧ Below w.heap.size w w' := by
  have hT := Lib.tabBelow_of_tabIs htab
  obtain ⟨hc, hb⟩ := code_of w0
  by_cases hbig : 4096 < len0
  · go_enter Tryd.func4, Tryd.ntmps4
    go_wp2
    go_ret
    exact ⟨rfl, Below.refl _ _⟩
  replace hT := Lib.hid hT
  clear w0 htab
  go_enter Tryd.func4, Tryd.ntmps4
  go_wp2_with (first | (go_at_call 8; go_in) | fail)
  refine (drawPercentPoints_any _ _ _ _ _ hc (by omega) hb).mono ?_
  rintro e w1 ⟨b, q, rfl, b0, b1, q0, q1, hb1⟩
  have hc1 := (hc.below hb1).more hb1.size
  clear hc
  have hpp := fun W => percentPoints_any b q W
  have hspp := fun W => sPercentPoints_any b q W
  have hpp2 := fun W => percentPoints_any b (q + 1) W
  have hlaw := pp_law b q (by omega) (by omega)
  obtain ⟨n, hn⟩ : ∃ n, ppV b q = n := ⟨_, rfl⟩
  obtain ⟨n2, hn2⟩ : ∃ n, ppV b (q + 1) = n := ⟨_, rfl⟩
  rw [hn, hn2] at hlaw
  rw [hn] at hpp hspp
  rw [hn2] at hpp2
  clear hn hn2
  replace hpp := Lib.hid hpp
  replace hspp := Lib.hid hspp
  replace hpp2 := Lib.hid hpp2
  replace hlaw := Lib.hid hlaw
  go_wp2_with (first | (go_at_call 10; refine (hpp.out _).mono ?_; rintro e w' ⟨rfl, rfl⟩) | fail)
  refine (drawPenaltyText_any _ _ _ _ _ hc1 (by omega) hb).mono ?_
  rintro e w2 ⟨⟨r, bo, k, v, rfl⟩, hb2⟩
  obtain ⟨S, hS⟩ : ∃ S, penT r bo k v = S := ⟨_, rfl⟩
  replace hS := Lib.hid hS
  have hbb : Below w.heap.size w w2 := hb1.trans (hb2.mono (B' := w.heap.size) hb1.size)
  have hzz := hbb.size
  have hX := Whole.new w2 25 #[.int .i64 r, .int .i64 bo, .int .i64 k, .int .i64 v]
  have hbb2 := hbb.alloc hzz (.cells #[.int .i64 r, .int .i64 bo, .int .i64 k, .int .i64 v] 25)
  have hT2 := hT.out.on hbb
  clear hc1 hb1 hb2 hbb hT
  replace hX := Lib.hid hX
  go_wp2_with fail
  obtain ⟨w3, hw3⟩ : ∃ W, w2.alloc (.cells #[.int .i64 r, .int .i64 bo, .int .i64 k, .int .i64 v] 25) = W := ⟨_, rfl⟩
  have hX3 := hX.out
  rw [hw3] at hX3 hbb2 ⊢
  have hT3 := hT2.on (show Below w.heap.size w2 w3 from hw3 ▸ (Below.refl w.heap.size w2).alloc hzz _)
  clear hT2 hX hw3
  have hzz3 := hbb2.size
  have hXl := hX3.lt
  have hy0 : Hid (w3.cell? ⟨w2.heap.size, 0, none⟩ = some (.int .i64 r)) := Lib.hid (by simpa using hX3.cell 0)
  have hy1 : Hid (w3.cell? ⟨w2.heap.size, 1, none⟩ = some (.int .i64 bo)) := Lib.hid (by simpa using hX3.cell 1)
  have hy2 : Hid (w3.cell? ⟨w2.heap.size, 2, none⟩ = some (.int .i64 k)) := Lib.hid (by simpa using hX3.cell 2)
  have hy3 : Hid (w3.cell? ⟨w2.heap.size, 3, none⟩ = some (.int .i64 v)) := Lib.hid (by simpa using hX3.cell 3)
  have hip : Hid (∀ W : World, Below w3.heap.size w3 W → Calls Tryd.prog 7 #[.agg #[.int .i64 r, .int .i64 bo, .int .i64 k, .int .i64 v]] W fun e w' => e = .returned (.string S) ∧ Below W.heap.size W w') := Lib.hid (fun W hb => penaltyText_val r bo k v S hS W (fun W' hb' => hT3 W' ((hb.mono (B' := w.heap.size) hzz3).trans (hb'.mono (B' := w.heap.size) (Nat.le_trans hzz3 hb.size)))))
  have hsp : Hid (∀ W : World, Below w3.heap.size w3 W → Calls Tryd.prog 5 #[.agg #[.int .i64 r, .int .i64 bo, .int .i64 k, .int .i64 v]] W fun e w' => e = .returned (.string S) ∧ Below W.heap.size W w') := Lib.hid (fun W _ => sPenaltyText_val r bo k v S hS W)
  clear hX3 hT3 hS
  refine wp_region_inv (fun L x wx => Below w3.heap.size w3 wx ∧ Held pcPD (pcPG n b q r bo k v S) 12 L x wx) [19, 20, 21, 22, 23, 24, 25, 26, 27, 28, 29, 30] [[], [], [], [1, 2], [0, 3], [4, 3], [5], [6, 5, 5], [5], [8, 7, 5], [7, 9, 5], [5, 10]] (by kernel_rfl) (by kernel_rfl) (by kernel_rfl) ?_ ?_ ?_
  · intro x
    exact ⟨(Below.refl _ _).drew, Held.none⟩
  · rintro L x wx ⟨hB, hH⟩
    have hBz := hB.size
    refine ⟨InvAt.mk rfl (by simp) ?_, InvAt.mk rfl (by simp) ?_, InvAt.mk rfl (by simp) ?_, InvAt.mk rfl (by simp) ?_, InvAt.mk rfl (by simp) ?_, InvAt.mk rfl (by simp) ?_, InvAt.mk rfl (by simp) ?_, InvAt.mk rfl (by simp) ?_, InvAt.mk rfl (by simp) ?_, InvAt.mk rfl (by simp) ?_, InvAt.mk rfl (by simp) ?_, InvAt.mk rfl (by simp) ?_, trivial⟩
    · intro hL hd K hK
      simp only [fillA, fillL]
      go_simp
      exact hK (.int .i64 n) _ _ ⟨hB, hH.step 0 19 _ rfl (by decide) (fun j y h => h) rfl⟩ rfl
    · intro hL hd K hK
      simp only [fillA, fillL]
      go_simp
      exact hK (.int .i64 b) _ _ ⟨hB, hH.step 1 20 _ rfl (by decide) (fun j y h => h) rfl⟩ rfl
    · intro hL hd K hK
      simp only [fillA, fillL]
      go_simp
      exact hK (.int .i64 q) _ _ ⟨hB, hH.step 2 21 _ rfl (by decide) (fun j y h => h) rfl⟩ rfl
    · intro hL hd K hK
      have e1 : x 20 = .int .i64 b := hH 1 (by omega) (hd 1 (by simp))
      have e2 : x 21 = .int .i64 q := hH 2 (by omega) (hd 2 (by simp))
      simp only [fillA, fillL]
      simp only [e1, e2]
      simp only [fillA, fillL, e1, e2] at hK
      go_simp
      go_at_call 12
      refine (hspp.out wx).mono ?_
      rintro e wy ⟨rfl, rfl⟩
      exact hK (.int .i64 n) _ _ ⟨hB, hH.step 3 22 _ rfl (by decide) (fun j y h => h) rfl⟩ rfl
    · intro hL hd K hK
      have e0 : x 19 = .int .i64 n := hH 0 (by omega) (hd 0 (by simp))
      have e3 : x 22 = .int .i64 n := hH 3 (by omega) (hd 3 (by simp))
      simp only [fillA, fillL]
      simp only [e0, e3]
      simp only [fillA, fillL, e0, e3] at hK
      go_simp
      exact hK (.bool false) _ _ ⟨hB, hH.step 4 23 _ rfl (by decide) (fun j y h => h) rfl⟩ rfl
    · intro hL hd K hK
      have e4 : x 23 = .bool false := hH 4 (by omega) (hd 4 (by simp))
      simp only [fillA, fillL]
      simp only [e4]
      simp only [fillA, fillL, e4] at hK
      go_simp
      exact hK (.bool false) _ _ ⟨hB, hH.step 5 24 _ rfl (by decide) (fun j y h => h) rfl⟩ rfl
    · intro hL hd K hK
      have e5 : x 24 = .bool false := hH 5 (by omega) (hd 5 (by simp))
      have y0 := (hB.cell (by show _ < _; omega)).trans hy0.out
      have y1 := (hB.cell (by show _ < _; omega)).trans hy1.out
      have y2 := (hB.cell (by show _ < _; omega)).trans hy2.out
      have y3 := (hB.cell (by show _ < _; omega)).trans hy3.out
      simp only [fillA, fillL]
      simp only [e5]
      simp only [fillA, fillL, e5] at hK
      go_simp
      exact hK (.agg #[.int .i64 r, .int .i64 bo, .int .i64 k, .int .i64 v]) _ _ ⟨hB, hH.step 6 25 _ rfl (by decide) (fun j y h => h) rfl⟩ rfl
    · intro hL hd K hK
      have e5 : x 24 = .bool false := hH 5 (by omega) (hd 5 (by simp))
      have e6 : x 25 = .agg #[.int .i64 r, .int .i64 bo, .int .i64 k, .int .i64 v] := hH 6 (by omega) (hd 6 (by simp))
      simp only [fillA, fillL]
      simp only [e5, e6]
      simp only [fillA, fillL, e5, e6] at hK
      go_simp
      go_at_call 7
      refine (hip.out wx hB).mono ?_
      rintro e wy ⟨rfl, hby⟩
      exact hK (.string S) _ _ ⟨hB.trans (hby.mono hBz), hH.step 7 26 _ rfl (by decide) (fun j y h => pcP_any h) rfl⟩ rfl
    · intro hL hd K hK
      have e5 : x 24 = .bool false := hH 5 (by omega) (hd 5 (by simp))
      have y0 := (hB.cell (by show _ < _; omega)).trans hy0.out
      have y1 := (hB.cell (by show _ < _; omega)).trans hy1.out
      have y2 := (hB.cell (by show _ < _; omega)).trans hy2.out
      have y3 := (hB.cell (by show _ < _; omega)).trans hy3.out
      simp only [fillA, fillL]
      simp only [e5]
      simp only [fillA, fillL, e5] at hK
      go_simp
      exact hK (.agg #[.int .i64 r, .int .i64 bo, .int .i64 k, .int .i64 v]) _ _ ⟨hB, hH.step 8 27 _ rfl (by decide) (fun j y h => h) rfl⟩ rfl
    · intro hL hd K hK
      have e5 : x 24 = .bool false := hH 5 (by omega) (hd 5 (by simp))
      have e8 : x 27 = .agg #[.int .i64 r, .int .i64 bo, .int .i64 k, .int .i64 v] := hH 8 (by omega) (hd 8 (by simp))
      simp only [fillA, fillL]
      simp only [e5, e8]
      simp only [fillA, fillL, e5, e8] at hK
      go_simp
      go_at_call 5
      refine (hsp.out wx hB).mono ?_
      rintro e wy ⟨rfl, hby⟩
      exact hK (.string S) _ _ ⟨hB.trans (hby.mono hBz), hH.step 9 28 _ rfl (by decide) (fun j y h => pcP_any h) rfl⟩ rfl
    · intro hL hd K hK
      have e5 : x 24 = .bool false := hH 5 (by omega) (hd 5 (by simp))
      have e7 : x 26 = .string S := hH 7 (by omega) (hd 7 (by simp))
      have e9 : x 28 = .string S := hH 9 (by omega) (hd 9 (by simp))
      simp only [fillA, fillL]
      simp only [e5, e7, e9]
      simp only [fillA, fillL, e5, e7, e9] at hK
      go_simp
      exact hK (.bool false) _ _ ⟨hB, hH.step 10 29 _ rfl (by decide) (fun j y h => h) rfl⟩ rfl
    · intro hL hd K hK
      have e5 : x 24 = .bool false := hH 5 (by omega) (hd 5 (by simp))
      have e10 : x 29 = .bool false := hH 10 (by omega) (hd 10 (by simp))
      simp only [fillA, fillL]
      simp only [e5, e10]
      simp only [fillA, fillL, e5, e10] at hK
      go_simp
      exact hK (.bool false) _ _ ⟨hB, hH.step 11 30 _ rfl (by decide) (fun j y h => h) rfl⟩ rfl
  · rintro x wx ⟨hB, hH⟩
    have e11 : x 30 = .bool false := hH 11 (by omega) rfl
    have hbx : Below w.heap.size w wx := hbb2.trans (hB.mono (B' := w.heap.size) hzz3)
    clear hH hip hsp hspp hy0 hy1 hy2 hy3
    simp only [fillA, fillL, e11]
    obtain ⟨hbd, hl1, hl2⟩ := hlaw.out
    by_cases h : n < 0
    · have hl1 := hl1 (.inl h)
      rcases hl1 with h2 | h2
      · subst h2
        clear hl2 hlaw
        go_wp2
        go_ret
        exact ⟨rfl, hbx⟩
      · subst h2
        omega
    · by_cases h100 : q = 100
      · have hl1 := hl1 (.inr h100)
        have h2 : n = 10 * b := by omega
        subst h100
        have hw : IntKind.i64.wrap (10 * b) = n := by rw [IntKind.wrap_i64]; omega
        have hn1 : (n == -1) = false := by rw [beq_eq_false_iff_ne]; omega
        clear hl2 hlaw h2 hl1
        go_wp2
        go_ret
        exact ⟨rfl, hbx⟩
      · have hl2 := hl2 (by omega)
        have hq100 : (q == 100) = false := by rw [beq_eq_false_iff_ne]; exact h100
        have hw : IntKind.i64.wrap (q + 1) = q + 1 := by rw [IntKind.wrap_i64]; omega
        clear hl1 hlaw
        go_wp2_with (first | (go_at_call 10; refine (hpp2.out _).mono ?_; rintro e w' ⟨rfl, rfl⟩) | fail)
        go_ret
        exact ⟨rfl, hbx⟩

/-! ### THE ROW's STEP -/
/-- A world for the witness: the settled one, the tables holding what their initialisers lay. -/
noncomputable def laidWorld (os : Os) : World :=
  { World.holding Tryd.prog os ⟨#[], #[], []⟩ with heap := ((((World.holding Tryd.prog os ⟨#[], #[], []⟩).heap.modify 1 (fun
      | .cells _ t frozen => .cells #[.int .u8 0, .int .u8 1, .int .u8 28, .int .u8 2, .int .u8 29, .int .u8 14, .int .u8 24, .int .u8 3, .int .u8 30, .int .u8 22, .int .u8 20, .int .u8 15, .int .u8 25, .int .u8 17, .int .u8 4, .int .u8 8, .int .u8 31, .int .u8 27, .int .u8 13, .int .u8 23, .int .u8 21, .int .u8 19, .int .u8 16, .int .u8 7, .int .u8 26, .int .u8 12, .int .u8 18, .int .u8 6, .int .u8 11, .int .u8 5, .int .u8 10, .int .u8 9] t frozen
      | o => o)).modify 2 (fun
      | .cells _ t frozen => .cells #[.int .u8 0, .int .u8 1, .int .u8 56, .int .u8 2, .int .u8 57, .int .u8 49, .int .u8 28, .int .u8 3, .int .u8 61, .int .u8 58, .int .u8 42, .int .u8 50, .int .u8 38, .int .u8 29, .int .u8 17, .int .u8 4, .int .u8 62, .int .u8 47, .int .u8 59, .int .u8 36, .int .u8 45, .int .u8 43, .int .u8 51, .int .u8 22, .int .u8 53, .int .u8 39, .int .u8 33, .int .u8 30, .int .u8 24, .int .u8 18, .int .u8 12, .int .u8 5, .int .u8 63, .int .u8 55, .int .u8 48, .int .u8 27, .int .u8 60, .int .u8 41, .int .u8 37, .int .u8 16, .int .u8 46, .int .u8 35, .int .u8 44, .int .u8 21, .int .u8 52, .int .u8 32, .int .u8 23, .int .u8 11, .int .u8 54, .int .u8 26, .int .u8 40, .int .u8 15, .int .u8 34, .int .u8 20, .int .u8 31, .int .u8 10, .int .u8 25, .int .u8 14, .int .u8 19, .int .u8 9, .int .u8 13, .int .u8 8, .int .u8 7, .int .u8 6] t frozen
      | o => o)).modify 0 (fun
      | .cells _ t frozen => .cells #[.int .u64 1, .int .u64 10, .int .u64 100, .int .u64 1000, .int .u64 10000, .int .u64 100000, .int .u64 1000000, .int .u64 10000000, .int .u64 100000000, .int .u64 1000000000, .int .u64 10000000000, .int .u64 100000000000, .int .u64 1000000000000, .int .u64 10000000000000, .int .u64 100000000000000, .int .u64 1000000000000000, .int .u64 10000000000000000, .int .u64 100000000000000000, .int .u64 1000000000000000000, .int .u64 10000000000000000000] t frozen
      | o => o))}
theorem laid_met (os : Os) : laidMet Tryd.prog Rows.fnPercentsRow.laid ((laidWorld os).forCall (fun _ _ => 0) ⟨#[], #[.slice none 0 0], []⟩).memory :=
  laidMet_of_run' 8 (by kernel_rfl) (by kernel_rfl)
theorem reads (os : Os) {H : Type} (enc : TypeId × Value → H) : ∃ places, DataW.whole enc Tryd.prog ((laidWorld os).forCall (fun _ _ => 0) ⟨#[], #[.slice none 0 0], []⟩).memory Tryd.f4.params.toList Rows.fnPercentsSpec.vars false (#[.slice none 0 0] : Array Value).toList 8 = some ([.nil], [], places) :=
  ⟨[], by kernel_rfl⟩

set_option maxRecDepth 100000 in
theorem lifted (os : Os) (started : os.Started) (H : Type) (enc : TypeId × Value → H) (F : Stop.Interp) :
    ReturnsInHanded {} Tryd.checked os 4 .any ((OpenSpec.ofChange Rows.fnPercentsSpec).preRow enc Tryd.prog Tryd.f4 Rows.fnPercentsRow.domain false Rows.fnPercentsRow.laid) (((OpenSpec.ofChange Rows.fnPercentsSpec).at F).post enc Tryd.prog Tryd.f4 false true false false) := by
  obtain ⟨places, hx⟩ := reads os enc
  refine returnsInHanded_of_row (C := Tryd.checked) (s := OpenSpec.ofChange Rows.fnPercentsSpec) own started (by kernel_rfl) Tryd.func4
    (witness_row_at (enc := enc) (C := Tryd.checked) false (laidWorld os) #[.slice none 0 0] rfl (by kernel_rfl) (by kernel_rfl) (by kernel_rfl)
      (OpenSpec.preRow_of_cond 8 hx (by kernel_rfl) (fun k hk => by cases hk) (by kernel_rfl) (laid_met os))) ?_
  intro W base args ds gs before hval0 hW _ _ _ hL _ _
  have hval : ∀ (j : Nat) t v, Tryd.f4.params[j]? = some t → args[j]? = some v → Value.okWide Tryd.prog W .any base t v := hval0
  have hW' := hW
  obtain ⟨p, q, hA0, hV, rfl, hfz, hnd⟩ := hW
  have hA : DataW.TrodAll enc Tryd.prog W 0 (fun _ => true) true Tryd.f4.params.toList args.toList ds p := hA0
  rw [Tryd.params4] at hA hval
  obtain ⟨v0, vs0, d0, ds0, p0, q0, hargs, rfl, rfl, h0, r0⟩ := trodAll_cons hA
  obtain ⟨rfl, rfl, rfl⟩ := trodAll_nil r0
  obtain rfl : args = #[v0] := by cases args; simp_all
  obtain ⟨rfl, rfl⟩ := trodVars_none hV
  obtain ⟨a0, len0, cap0, rfl⟩ := okWide_slice Tryd.underlying28 (hval 0 28 v0 rfl rfl)
  have k0 := h0
  have lt0 : ∀ x ∈ p0, x.block < W.heap.size := by obtain ⟨m, hm⟩ := k0; exact DataW.trod_lt m _ _ _ hm
  obtain ⟨z0, w0⟩ : ∃ zs, IsRow .u8 W a0 len0 cap0 zs := by
    obtain ⟨fuel, hf⟩ := h0
    rcases open_ints Tryd.underlying28 Tryd.underlying5 (by kernel_rfl) hf with ⟨hcs, _⟩ | ⟨x, l, c, zs, hcs, _, hl, hm, hz, _, hcell, hwz⟩
    · simp [Value.cells] at hcs
      obtain ⟨rfl, rfl, rfl⟩ := hcs
      exact ⟨[], .inl ⟨rfl, rfl, rfl, rfl⟩⟩
    · simp [Value.cells] at hcs
      obtain ⟨rfl, rfl, rfl⟩ := hcs
      exact ⟨zs, .inr ⟨_, rfl, hl, hm, by simpa using hz, hcell, hwz⟩⟩
  clear hA0 hval0
  refine (walk a0 len0 cap0 z0 W w0 (table hL)).mono fun e W' ⟨he, bel⟩ => ?_
  subst he
  exact ⟨_, rfl, _, _, _, [], _, [], hW', trodAll_mk1 (shut_bool Tryd.underlying4 _), (trodAll_cons_mk (Below.trod laidOut (by kernel_rfl) (of_decide_eq_true (by kernel_rfl)) k0 bel lt0) trodAll_mk0), rfl, bel.frame _, fun h => by cases h⟩

theorem over : Rows.FnPercentsSaid :=
  OpenClaim.holds_of_cond 4 Tryd.f4 rfl rfl rfl rfl rfl rfl rfl ⟨rfl, rfl, rfl, rfl, rfl⟩ rfl rfl rfl rfl rfl (by kernel_rfl) Tryd.func4 (by kernel_rfl)
    (of_decide_eq_true (by kernel_rfl)) (by unfold Func.isWrapper; first | (rw [if_pos (by decide +kernel)]; kernel_rfl) | (rw [if_neg (by decide +kernel)]; exact ⟨rfl, rfl⟩))
    (fun os started H enc _ F => by rw [OpenClaim.pre_eq_preRow]; exact lifted os started H enc F)

theorem plain (f : FuncId) (fn : Func) (hf : Tryd.pinned.checked.prog.funcNamed "loop.example/g00887/laws.FnPercents" = some f) (hfn : Tryd.pinned.checked.prog.funcs[f]? = some fn) :
    false = Tryd.pinned.checked.prog.looks [] ∧ ∀ (j : Nat) t, fn.params[j]? = some t → Tryd.pinned.checked.prog.wantsStandIn t = false := by
  obtain rfl : f = 4 := Option.some.inj ((show Tryd.prog.funcNamed "loop.example/g00887/laws.FnPercents" = some 4 by kernel_rfl).symm.trans hf) |>.symm
  obtain rfl : fn = Tryd.f4 := (Option.some.inj (Tryd.func4.symm.trans hfn)).symm
  refine ⟨by kernel_rfl, fun j t ht => ?_⟩
  rw [Tryd.params4] at ht
  have ht' := Array.mem_of_getElem? ht
  simp only [List.mem_toArray, List.mem_cons, List.not_mem_nil, or_false] at ht'
  subst ht'
  exact (show Tryd.prog.wantsStandIn 28 = false by kernel_rfl)

/-- THE CARD -/
theorem proved : Rows.FnPercentsCardSaid :=
  Claim7.holds_tied_plain_at .later [] _ _ _ _ over (fun _ h => by cases h) (by kernel_rfl) (fun _ h => by cases h) fnPercents_row_tie rfl ⟨rfl, rfl⟩ (by kernel_rfl) rfl plain (by kernel_rfl)
#print axioms proved
end Go.Proofs.YtcjeeampjhcljaaDoor.fnPercents
