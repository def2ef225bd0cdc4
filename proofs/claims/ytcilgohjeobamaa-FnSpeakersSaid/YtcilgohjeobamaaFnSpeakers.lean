/- The law FnSpeakers: for every input the call returns true, and each argument reads afterwards as it read before. No condition. -/
import Derived.Test.YtcilgohjeobamaaSpk3
import Derived.Test.YtcilgohjeobamaaRows
import Derived.WalkKit
import Derived.ProofKit
import Derived.OpenShut
import Derived.ShutString
import Derived.ChangeOld
import Derived.Below
namespace Go.Proofs.Ytcilgohjeobamaa.fnSpeakers
open Go.ChangeShapes Go.WideShapes Go.ChangeAt Go.RowKit
open Go.ChangeMaps (open_string shut_string)
set_option linter.unusedVariables false

theorem own : ownKnob Try.prog.godebug = none := by kernel_rfl
theorem laidOut : laidOutB Try.prog = true := by kernel_rfl

/-- WHAT THE WALK IS TOLD OF A SLICE OF INTEGERS THAT CAME IN: it is nil; or it leads to a row of 'cap' cells, the numbers 'zs' (the first 'len' are its elements, the rest its spare room), each fitting its kind. -/
def IsRow (k : IntKind) (w : World) (a : Option Addr) (len cap : Nat) (zs : List Int) : Prop :=
  (a = none ∧ len = 0 ∧ cap = 0 ∧ zs = []) ∨
  ∃ x, a = some x ∧ len ≤ cap ∧ cap ≤ maxLen ∧ zs.length = cap ∧ (∀ i, i < zs.length → w.cell? (x.add i) = some (.int k (zs.getD i 0))) ∧ ∀ n ∈ zs, (Lit.int k n).wf = true

/-! ### STEP 1: THE WALK: the Go text returns true, AND WRITES NOTHING THAT WAS THERE: 'Below w.heap.size w w'' (Derived/Below.lean: '.refl', '.alloc', '.drew', '.setCell' at a new block, '.trans'). Open each 'IsRow' by 'rcases' AHEAD of 'go_enter'; part every test ahead of the walk. -/
set_option maxRecDepth 100000 in
set_option maxHeartbeats 8000000 in
theorem walk (a0 : Option Addr) (len0 cap0 : Nat) (z0 : List Int) (w : World) (w0 : IsRow .u8 w a0 len0 cap0 z0) :
    Calls Try.prog 9 #[.slice a0 len0 cap0] w fun e w' => e = .returned (.bool true) ∧ Below w.heap.size w w' := by
  obtain ⟨hc, hb⟩ := code_of w0
  by_cases hbig : 4096 < len0
  · go_enter Try.func9, Try.ntmps9
    go_wp2
    go_ret
    exact ⟨rfl, Below.refl _ _⟩
  obtain ⟨pb, pa, n, xs, D, hD⟩ := drawDecisiveSpeakers_ex len0 _ (by omega) hb
  replace hD := Lib.hid hD
  clear w0 hb
  obtain ⟨nd, hnd⟩ : ∃ z, D.length = z := ⟨_, rfl⟩
  unfold DrewJ at hD
  rw [hnd] at hD
  generalize lenD D = fl at hD
  generalize facD D = fx at hD
  generalize outD D = o at hD
  clear hnd
  obtain ⟨co, hco⟩ : ∃ z, codD pb pa n xs nd fl fx o = z := ⟨_, rfl⟩
  obtain ⟨L, hL⟩ : ∃ z, disL pb pa n xs nd fl fx o = z := ⟨_, rfl⟩
  obtain ⟨K, hK⟩ : ∃ z, L.length = z := ⟨_, rfl⟩
  replace hco := Lib.hid hco
  replace hL := Lib.hid hL
  replace hK := Lib.hid hK
  go_enter Try.func9, Try.ntmps9
  go_wp2_with (first | (go_at_call 16; go_in) | fail)
  refine (hD.out _ _ _ hc).mono ?_
  rintro e w1 ⟨A1, AD1, c1, cd1, fa1, fc1, rfl, n13, hnc1, hcm1, hI1, nd4, hnd1, hcd1, hM1, hb1⟩
  have hc1 := Lib.hid ((hc.below hb1).more hb1.size)
  clear hc
  go_wp2_with fail
  refine (decisive_val _ _ _ _ _ _ _ _ _ _ _ _ _ _ _ _ w1 hI1 (Nat.le_refl _) (by omega) hnc1 hM1 (Nat.le_refl _) (by unfold maxLen; omega) K L co hL hco hK).mono ?_
  rintro e w2 ⟨A2, c2, rfl, gn2, ho2, hb2⟩
  have hc2 := Lib.hid ((hc1.out.below hb2).more hb2.size)
  replace ho2 := Lib.hid ho2
  clear hc1 hI1 hM1
  go_wp2_with fail
  refine (hD.out _ _ _ hc2.out).mono ?_
  rintro e w3 ⟨A3, AD3, c3, cd3, fa3, fc3, rfl, -, hnc3, hcm3, hI3, -, hnd3, hcd3, hM3, hb3⟩
  have ho3 := Lib.hid (own_below ho2.out hb3)
  clear hD hc2 ho2
  replace hI3 := Lib.hid hI3
  replace hM3 := Lib.hid hM3
  go_wp2_with fail
  refine (sDecisive_val _ _ _ _ _ _ _ _ _ _ _ _ _ _ _ _ w3 hI3.out (Nat.le_refl _) (by omega) hM3.out (Nat.le_refl _) (by unfold maxLen; omega) K L co hL hco hK).mono ?_
  rintro e w4 ⟨A4, c4, rfl, gn4, ho4', hb4⟩
  have hI4 := Lib.hid ((hI3.out.below hb4).more hb4.size)
  have hM4 := Lib.hid ((hM3.out.below hb4).more hb4.size)
  have ho4 := own_below ho3.out hb4
  clear hI3 hM3 ho3
  have hl2 : Ints w4 w4.heap.size A2 K (fun j => L.getD j 0) := Ints.of_own ho4 (Nat.le_refl _) (by have := hK.out; simp; omega) (fun j hj => (cells_of ho4).2 j (by omega))
  have hl4 : Ints w4 w4.heap.size A4 K (fun j => L.getD j 0) := Ints.of_own ho4' (Nat.le_refl _) (by have := hK.out; simp; omega) (fun j hj => (cells_of ho4').2 j (by omega))
  have hlike := Lib.hid (likeInts_any A2 A4 K c2 K c4 w4.heap.size L L w4 hl2 hl4 hK.out hK.out (Nat.le_refl _) (by omega) (by omega) rfl)
  have z1 := hb1.size
  have z2 := hb2.size
  have z3 := hb3.size
  have z4 := hb4.size
  have hbb4 : Below w.heap.size w w4 := hb1.trans ((hb2.mono (by omega)).trans ((hb3.mono (by omega)).trans (hb4.mono (by omega))))
  clear hb1 hb2 hb3 hb4 hl4 ho4' ho4
  have hzz := hbb4.size
  replace hl2 := Lib.hid hl2
  go_wp2_with fail
  refine hlike.out.mono ?_
  rintro e w5 ⟨rfl, hb5⟩
  have hI5 := Lib.hid ((hI4.out.below hb5).more hb5.size)
  have hM5 := Lib.hid ((hM4.out.below hb5).more hb5.size)
  have hl5 := Lib.hid ((hl2.out.below hb5).more hb5.size)
  have z5 := hb5.size
  have hbb5 : Below w.heap.size w w5 := hbb4.trans (hb5.mono (by omega))
  clear hI4 hM4 hl2 hlike hb5 hbb4
  by_cases h0 : co = 0
  · subst h0
    obtain ⟨hst, hdm⟩ := codD_0 hco.out
    have hpt := codD_p hco.out
    have hrest := fun sp => rest_law (sp := sp) (o := o) hpt hst hdm
    have hhas : ∀ i, i < n → L.contains (xs (i * 3)) = !decide (outW n xs nd fl fx o (xs (i * 3)) = outW n xs nd fl fx o (-1)) := fun i hi => by
      rw [← hL.out]
      unfold disL
      rw [if_pos hco.out]
      exact asc_has (sp_range hpt hst hi)
    obtain ⟨vo, hvo⟩ : ∃ z, outW n xs nd fl fx o (-1) = z := ⟨_, rfl⟩
    obtain ⟨va, hva⟩ : ∃ va, heV pb pa n xs nd fl fx o = (vo, va, 0) := by
      rw [← hvo]
      unfold heV
      rw [if_pos hco.out]
      exact ⟨_, rfl⟩
    rw [hvo] at hhas
    generalize outW n xs nd fl fx o = W at hrest hhas
    replace hva := Lib.hid hva
    replace hrest := Lib.hid hrest
    replace hhas := Lib.hid hhas
    clear hvo hst hdm hpt hL hco
    go_wp2_with fail
    refine (decideHearing_val _ _ _ _ _ _ _ _ _ _ _ _ _ _ _ _ w5 hI5.out (Nat.le_refl _) (by omega) hnc3 hM5.out (Nat.le_refl _) (by unfold maxLen; omega) vo va 0 hva).mono ?_
    rintro e w6 ⟨rfl, hb6⟩
    have hI6 := Lib.hid ((hI5.out.below hb6).more hb6.size)
    have hM6 := Lib.hid ((hM5.out.below hb6).more hb6.size)
    have hl6 := Lib.hid ((hl5.out.below hb6).more hb6.size)
    have z6 := hb6.size
    have hbb6 : Below w.heap.size w w6 := hbb5.trans (hb6.mono (by omega))
    clear hI5 hM5 hl5 hb6 hbb5 hva
    obtain ⟨i0, hi, hz0', hz1', hz2'⟩ := info_parts infoStatement
    replace hi := Lib.hid hi
    replace hz0' := Lib.hid hz0'
    replace hz1' := Lib.hid hz1'
    replace hz2' := Lib.hid hz2'
    go_wp2_with fail
    go_loopw [14] (fun vi wr => ∃ i : Nat, i ≤ n ∧ vi = .int .i64 i ∧ Below w6.heap.size w6 wr) (fun vi _ => (n - intOf vi).toNat)
    case atStart => exact ⟨0, by omega, rfl, Below.refl _ _⟩
    case round =>
      obtain ⟨i, hi9, rfl, hbx⟩ := hrel
      rename World => wo
      have hzx := hbx.size
      by_cases hlt : i < n
      · obtain ⟨b, off, hA3, had3, hcode⟩ := hI6.out (by omega)
        have hcs : ∀ k, k < n → w6.cell? ⟨b, off + k * 3, none⟩ = some (.int .i64 (xs (k * 3))) ∧ w6.cell? ⟨b, off + k * 3 + 1, none⟩ = some (.int .i64 (xs (k * 3 + 1))) ∧ w6.cell? ⟨b, off + k * 3 + 2, none⟩ = some (.int .i64 (xs (k * 3 + 2))) := fun k hk => ⟨hcode (k * 3) (by omega), hcode (k * 3 + 1) (by omega), hcode (k * 3 + 2) (by omega)⟩
        have hhi := hhas.out i hlt
        have hri := hrest.out (xs (i * 3))
        have hgi := (hcs i hlt).1
        obtain ⟨sp, hsp⟩ : ∃ z, xs (i * 3) = z := ⟨_, rfl⟩
        rw [hsp] at hhi hri hgi
        obtain ⟨vr, hri⟩ := hri
        obtain ⟨ws, hws⟩ : ∃ z, W sp = z := ⟨_, rfl⟩
        rw [hws] at hri hhi
        replace hcs := Lib.hid hcs
        replace hhi := Lib.hid hhi
        replace hri := Lib.hid hri
        clear hcode hsp hws
        have hT := Whole.new wo 59 #[]
        have hbo := hbx.alloc hzx (.cells #[] 59)
        have ho0 : (wo.alloc (.cells #[] 59)).ownsRow w6.heap.size 59 3 (.slice (some ⟨wo.heap.size, 0, none⟩) 0 0) 0 (([] : List Int).map (Value.int .i64)) := own_empty hT hzx
        clear hT hbx
        subst hA3
        go_wp2_with fail
        go_loopw [15, 16] (fun v15 v16 wr => ∃ (k nz : Nat) (zs : List Int), k ≤ n ∧ v16 = .int .i64 k ∧ Hid (rsL xs sp k = zs) ∧ Hid (rsN xs sp k = nz) ∧ nz ≤ k ∧ wr.ownsRow w6.heap.size 59 3 v15 nz (zs.map (Value.int .i64)) ∧ Below w6.heap.size w6 wr) (fun _ vk _ => (n - intOf vk).toNat)
        case atStart => exact ⟨0, 0, [], by omega, rfl, Lib.hid rfl, Lib.hid rfl, by omega, ho0, hbo⟩
        case round =>
          obtain ⟨k, nz, zs, hk, rfl, hzs, hnz, hzl, hown, hbel⟩ := hrel
          clear ho0 hbo
          have hsz := hbel.size
          by_cases hlk : k < n
          · obtain ⟨q0, q1, q2⟩ := hcs.out k hlk
            have g0 : wr.cell? ⟨b, off + k * 3, none⟩ = some (.int .i64 (xs (k * 3))) := by rw [hbel.cell (by simp; omega)]; exact q0
            have g1 : wr.cell? ⟨b, off + k * 3 + 1, none⟩ = some (.int .i64 (xs (k * 3 + 1))) := by rw [hbel.cell (by simp; omega)]; exact q1
            have g2 : wr.cell? ⟨b, off + k * 3 + 2, none⟩ = some (.int .i64 (xs (k * 3 + 2))) := by rw [hbel.cell (by simp; omega)]; exact q2
            have gi : wr.cell? ⟨b, off + i * 3, none⟩ = some (.int .i64 sp) := by rw [hbel.cell (by simp; omega)]; exact hgi
            have hstep : rsL xs sp (k + 1) = if xs (k * 3) ≠ sp then zs ++ [xs (k * 3), xs (k * 3 + 1), xs (k * 3 + 2)] else zs := by rw [← hzs.out]; rfl
            have hstepN : rsN xs sp (k + 1) = if xs (k * 3) ≠ sp then nz + 1 else nz := by rw [← hnz.out]; rfl
            clear q0 q1 q2
            generalize xs (k * 3) = s1 at g0 hstep hstepN
            generalize xs (k * 3 + 1) = f1 at g1 hstep
            generalize xs (k * 3 + 2) = y1 at g2 hstep
            by_cases hne : s1 = sp
            · have hne1 : (s1 != sp) = false := by simpa using hne
              rw [if_neg (by simpa using hne)] at hstep hstepN
              replace hstep := Lib.hid hstep
              replace hstepN := Lib.hid hstepN
              clear hne
              go_wp2_with fail
              go_region
              all_goals go_wp2
              all_goals go_roundw
              all_goals first
                | exact ⟨k + 1, nz, zs, by omega, by go_num, hstep, hstepN, by omega, hown.drew, hbel.drew⟩
                | (simp [intOf]; omega)
                | fail
            · have hne1 : (s1 != sp) = true := by simpa using hne
              rw [if_pos hne] at hstep hstepN
              replace hstep := Lib.hid hstep
              replace hstepN := Lib.hid hstepN
              clear hne
              go_wp2_with fail
              go_region
              all_goals
                have hnew := Whole.new wr.drew 59 #[.int .i64 s1, .int .i64 f1, .int .i64 y1]
                go_wp2_with (at_builtin; refine wpList_append_own_at _ rfl _ _ 46 rfl w6.heap.size 59 i0 _ 3 24 Try.underlying46 hi.out hz0'.out hz1'.out hz2'.out rfl (by decide) _ _ _ rfl (hown.drew.alloc _) ⟨wr.heap.size, 0, none⟩ 1 1 [.int .i64 s1, .int .i64 f1, .int .i64 y1] rfl rfl ?c1 ?c2 ?c3 ?c4 ?c5 ?_)
                case c1 =>
                  intro j u hu
                  rw [add_zero_off]
                  refine Eq.trans (hnew.cell j) ?_
                  simpa using hu
                case c2 => simp [Value.oneCell']
                case c3 => simp only [maxLen]; omega
                case c4 => omega
                case c5 => simp; omega
                intro v' wy hown' hgrow _ hat
                have hby : Below w6.heap.size w6 wy := (hbel.drew.alloc (by simpa using hsz) _).trans (below_only hgrow (by simp; omega) (fun q hq => (hown.lt q hq).1))
                have hoy : wy.ownsRow w6.heap.size 59 3 v' (nz + 1) ((zs ++ [s1, f1, y1]).map (Value.int .i64)) := by simpa using hown'
                clear hown' hgrow hat
                go_wp2
                go_roundw
                case rel => exact ⟨k + 1, nz + 1, zs ++ [s1, f1, y1], by omega, by go_num, hstep, hstepN, by omega, hoy, hby⟩
                case measure => simp [intOf]; omega
          · obtain rfl : k = n := by omega
            obtain ⟨A10, c10, rfl, hnc10, hcm10⟩ := own_form hown
            have hIy : Ints wr wr.heap.size A10 (nz * 3) (xsOf zs) := Ints.of_own hown (Nat.le_refl _) (by have := (cells_of hown).1; simp at this ⊢; omega) (fun j hj => (cells_of hown).2 j (by have := (cells_of hown).1; simp at this ⊢; omega))
            have hri' := hri.out
            rw [hzs.out, hnz.out] at hri'
            replace hri' := Lib.hid hri'
            have hMr := hM6.out.below hbel
            have hlr := Lib.hid ((hl6.out.below hbel).more hsz)
            clear hown hri hzs hnz
            have gi : wr.cell? ⟨b, off + i * 3, none⟩ = some (.int .i64 sp) := by rw [hbel.cell (by simp; omega)]; exact hgi
            replace gi := Lib.hid gi
            go_wp2_with fail
            refine (decideHearing_val _ _ _ _ _ _ _ _ _ _ _ _ _ _ _ _ wr hIy (Nat.le_refl _) (by omega) hnc10 hMr hsz (by unfold maxLen; omega) ws vr 0 hri').mono ?_
            rintro e w8 ⟨rfl, hb8⟩
            have z8 := hb8.size
            have hl8 := hlr.out.below hb8
            have g8 : w8.cell? ⟨b, off + i * 3, none⟩ = some (.int .i64 sp) := by rw [hb8.cell (by simp; omega)]; exact gi.out
            have hb68 : Below w6.heap.size w6 w8 := hbel.trans (hb8.mono hsz)
            have hh := hasInt_any A2 K c2 wr.heap.size L sp w8 hl8 hK.out z8 (by omega)
            rw [hhi.out] at hh
            replace hh := Lib.hid hh
            clear hMr hlr hIy hb8 hl8 hri' hbel
            by_cases hww : ws = vo
            · have hw1 : (ws != vo) = false := by simpa using hww
              have hw2 : decide (ws = vo) = true := by simpa using hww
              rw [hw2] at hh
              go_wp2_with fail
              refine hh.out.mono ?_
              rintro e w9 ⟨rfl, hb9⟩
              go_wp2
              go_roundw
              case rel => exact ⟨i + 1, by omega, by go_num, hb68.trans (hb9.mono hb68.size)⟩
              case measure => simp [intOf]; omega
            · have hw1 : (ws != vo) = true := by simpa using hww
              have hw2 : decide (ws = vo) = false := by simpa using hww
              rw [hw2] at hh
              go_wp2_with fail
              refine hh.out.mono ?_
              rintro e w9 ⟨rfl, hb9⟩
              go_wp2
              go_roundw
              case rel => exact ⟨i + 1, by omega, by go_num, hb68.trans (hb9.mono hb68.size)⟩
              case measure => simp [intOf]; omega
      · obtain rfl : i = n := by omega
        go_wp2
        go_ret
        exact ⟨rfl, hbb6.trans (hbx.mono (by omega))⟩
  · have hd1 : (co == 0) = false := by rw [beq_eq_false_iff_ne]; exact h0
    have hd2 : (co != 0) = true := by rw [bne, hd1]; rfl
    go_wp2
    go_ret
    exact ⟨rfl, hbb5⟩

/-! ### THE ROW's STEP: WRITTEN OUT: LEAVE IT -/
set_option maxRecDepth 100000 in
theorem lifted (os : Os) (started : os.Started) (H : Type) (enc : TypeId × Value → H) :
    ReturnsInHanded {} Try.checked os 9 .any (Rows.fnSpeakersSpec.pre6 enc Try.prog Try.f9 Rows.fnSpeakersRow.domain false) (Rows.fnSpeakersSpec.post enc Try.prog Try.f9 false true false false) := by
  refine returnsInHanded_of_change (C := Try.checked) own started (by kernel_rfl) Try.func9
    (ChangeSpec.witness6 (enc := enc) (C := Try.checked) false ⟨#[], #[.slice none 0 0], []⟩ 8 (by kernel_rfl) (by kernel_rfl) (by kernel_rfl) (by kernel_rfl)) ?_
  intro W base args ds gs before hval0 hW hcnd _
  have hval : ∀ (j : Nat) t v, Try.f9.params[j]? = some t → args[j]? = some v → Value.okWide Try.prog W .any base t v := hval0
  have hW' := hW
  obtain ⟨p, q, hA0, hV, rfl, hfz, hnd⟩ := hW
  have hA : DataW.TrodAll enc Try.prog W 0 (fun _ => true) true Try.f9.params.toList args.toList ds p := hA0
  rw [Try.params9] at hA hval
  obtain ⟨v0, vs0, d0, ds0, p0, q0, hargs, rfl, rfl, h0, r0⟩ := trodAll_cons hA
  obtain ⟨rfl, rfl, rfl⟩ := trodAll_nil r0
  obtain rfl : args = #[v0] := by cases args; simp_all
  obtain ⟨rfl, rfl⟩ := trodVars_none hV
  obtain ⟨a0, len0, cap0, rfl⟩ := okWide_slice Try.underlying29 (hval 0 29 v0 rfl rfl)
  have k0 := h0
  have lt0 : ∀ x ∈ p0, x.block < W.heap.size := by obtain ⟨m, hm⟩ := k0; exact DataW.trod_lt m _ _ _ hm
  obtain ⟨z0, w0⟩ : ∃ zs, IsRow .u8 W a0 len0 cap0 zs := by
    obtain ⟨fuel, hf⟩ := h0
    rcases open_ints Try.underlying29 Try.underlying5 (by kernel_rfl) hf with ⟨hcs, _⟩ | ⟨x, l, c, zs, hcs, _, hl, hm, hz, _, hcell, hwz⟩
    · simp [Value.cells] at hcs
      obtain ⟨rfl, rfl, rfl⟩ := hcs
      exact ⟨[], .inl ⟨rfl, rfl, rfl, rfl⟩⟩
    · simp [Value.cells] at hcs
      obtain ⟨rfl, rfl, rfl⟩ := hcs
      exact ⟨zs, .inr ⟨_, rfl, hl, hm, by simpa using hz, hcell, hwz⟩⟩
  clear hA0 hval0
  refine (walk a0 len0 cap0 z0 W w0).mono fun e W' ⟨he, bel⟩ => ?_
  subst he
  exact ⟨_, rfl, _, _, _, [], _, [], hW', trodAll_mk1 (shut_bool Try.underlying4 _), (trodAll_cons_mk (Below.trod laidOut (by kernel_rfl) (of_decide_eq_true (by kernel_rfl)) k0 bel lt0) trodAll_mk0), rfl, bel.frame _, fun h => by cases h⟩

theorem over : Rows.fnSpeakersRow.holds Try.pinned (OpenSpec.ofChange Rows.fnSpeakersSpec) :=
  OpenClaim.holds_of_wide 9 Try.f9 rfl rfl rfl rfl rfl rfl rfl ⟨rfl, rfl, rfl, rfl, rfl⟩ rfl rfl rfl rfl rfl (by kernel_rfl) Try.func9 (by kernel_rfl)
    (of_decide_eq_true (by kernel_rfl)) (by unfold Func.isWrapper; first | (rw [if_pos (by decide +kernel)]; kernel_rfl) | (rw [if_neg (by decide +kernel)]; exact ⟨rfl, rfl⟩))
    (fun os started H enc _ => lifted os started H enc)

/-- THE STATEMENT -/
theorem proved : Rows.FnSpeakersSaid := over
#print axioms proved
end Go.Proofs.Ytcilgohjeobamaa.fnSpeakers
