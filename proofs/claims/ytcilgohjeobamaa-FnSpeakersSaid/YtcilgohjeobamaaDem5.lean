/- Decisions of hearings. -/
import Derived.Test.YtcilgohjeobamaaDem4
set_option linter.unusedSimpArgs false
set_option linter.unusedVariables false
namespace Go.Proofs.Ytcilgohjeobamaa
open Go.RowKit Go.Shelf

set_option maxRecDepth 100000 in
set_option maxHeartbeats 8000000 in
theorem decide_any (AF A : Option Addr) (cF n c BF B : Nat) (F : Nat → Int) (fa : Nat → Option Addr) (fl fc : Nat → Nat) (fx : Nat → Nat → Int) (o : Nat → Int) (w : World) (hF : Ints w BF AF 8 F) (hBF : BF ≤ w.heap.size) (hx : Dems w B A n fa fl fc fx o) (hB : B ≤ w.heap.size) (hok : ∀ i, i < n → fokB (fl i) (fx i) = true) (hn : n ≤ 12) (vo va : Int) (hv : decV F n fl fx o = (vo, va)) :
    Calls Try.prog 68 #[.slice AF 8 cF, .slice A n c] w fun e w' => e = .returned (.tuple #[.int .i64 vo, .int .i64 va]) ∧ Below w.heap.size w w' := by
  replace hx := Lib.hid hx
  replace hF := Lib.hid hF
  replace hok := Lib.hid hok
  replace hv := Lib.hid hv
  go_enter Try.func68, Try.ntmps68
  go_wp2_with fail
  go_loopw [10] (fun v8 wr => ∃ k : Nat, k ≤ n ∧ v8 = .int .i64 k ∧ Hid (decI F fl fx k = none) ∧ Below w.heap.size w wr) (fun v8 _ => (n - intOf v8).toNat)
  case atStart => exact ⟨0, by omega, rfl, Lib.hid rfl, Below.refl _ _⟩
  case round =>
    obtain ⟨k, hk, rfl, hno, hbel⟩ := hrel
    have hsz := hbel.size
    by_cases hlt : k < n
    · obtain ⟨b, off, rfl, hb, hc⟩ := hx.out.1 (by omega)
      obtain ⟨g0, g1⟩ := hc k hlt
      obtain ⟨hI, hfc, hfm⟩ := hx.out.2 k hlt
      rw [← hbel.cell (by simp; omega)] at g0 g1
      clear hc
      obtain ⟨q, hq⟩ : ∃ q, metB F (fl k) (fx k) = q := ⟨_, rfl⟩
      have hcall := fun W (hW : Below wr.heap.size wr W) => isMet_any AF (fa k) cF (fl k) (fc k) BF B F (fx k) (o k) W ((hF.out.below (hbel.mono hBF)).below (hW.mono (by omega))) (by have := hW.size; omega) ((hI.below (hbel.mono hB)).below (hW.mono (by omega))) (by have := hW.size; omega) (hok.out k hlt) q hq
      have hyes : q = true → (vo, va) = (o k, (k : Int)) := fun h => by rw [← hv.out]; exact decV_hit hlt hno.out (by rw [hq]; exact h)
      have hstep : q = false → decI F fl fx (k + 1) = none := fun h => decI_step hno.out (by rw [hq]; exact h)
      replace hyes := Lib.hid hyes
      replace hstep := Lib.hid hstep
      clear hI hfc hfm hq
      generalize fa k = A1 at g0 hcall
      generalize fc k = C1 at g0 hcall
      generalize fl k = F1 at g0 hcall
      generalize o k = O1 at g1 hcall hyes
      replace hcall := Lib.hid hcall
      cases q with
      | true =>
        have hy := hyes.out rfl
        injection hy with hy1 hy2
        subst hy1
        subst hy2
        go_wp2_with fail
        refine (hcall.out _ ((Below.refl _ _).alloc (Nat.le_refl _) _)).mono ?_
        rintro e w1 ⟨rfl, hb1⟩
        have hD := (Whole.new wr 33 #[.slice A1 F1 C1, .int .i64 vo]).below hb1 (by simp)
        have d1 := hD.cell 1
        simp at d1
        have hfin : Below w.heap.size w w1 := (hbel.alloc hsz _).trans (hb1.mono (by simp; omega))
        clear hD hb1
        go_wp2
        go_ret2
        exact ⟨rfl, hfin⟩
      | false =>
        have hst := Lib.hid (hstep.out rfl)
        go_wp2_with fail
        refine (hcall.out _ ((Below.refl _ _).alloc (Nat.le_refl _) _)).mono ?_
        rintro e w1 ⟨rfl, hb1⟩
        have hfin : Below w.heap.size w w1 := (hbel.alloc hsz _).trans (hb1.mono (by simp; omega))
        clear hb1
        go_wp2
        go_roundw
        case rel => exact ⟨k + 1, by omega, by go_num, hst, hfin⟩
        case measure => simp [intOf]; omega
    · obtain rfl : k = n := by omega
      have hvv : (vo, va) = (0, -1) := by rw [← hv.out]; unfold decV; rw [hno.out]
      injection hvv with h1 h2
      subst h1
      subst h2
      go_wp2
      go_ret2
      exact ⟨rfl, hbel⟩
set_option maxRecDepth 100000 in
set_option maxHeartbeats 8000000 in
theorem l18Decide_any (AF A : Option Addr) (cF n c BF B : Nat) (F : Nat → Int) (fa : Nat → Option Addr) (fl fc : Nat → Nat) (fx : Nat → Nat → Int) (o : Nat → Int) (w : World) (hF : Ints w BF AF 8 F) (hBF : BF ≤ w.heap.size) (hx : Dems w B A n fa fl fc fx o) (hB : B ≤ w.heap.size) (hok : ∀ i, i < n → fokB (fl i) (fx i) = true) (hn : n ≤ 12) (vo va : Int) (hv : decV F n fl fx o = (vo, va)) :
    Calls Try.prog 69 #[.slice AF 8 cF, .slice A n c] w fun e w' => e = .returned (.tuple #[.int .i64 vo, .int .i64 va]) ∧ Below w.heap.size w w' := by
  replace hx := Lib.hid hx
  replace hF := Lib.hid hF
  replace hok := Lib.hid hok
  replace hv := Lib.hid hv
  go_enter Try.func69, Try.ntmps69
  go_wp2_with fail
  go_loopw [6] (fun v8 wr => ∃ k : Nat, k ≤ n ∧ v8 = .int .i64 k ∧ Hid (decI F fl fx k = none) ∧ Below w.heap.size w wr) (fun v8 _ => (n - intOf v8).toNat)
  case atStart => exact ⟨0, by omega, rfl, Lib.hid rfl, Below.refl _ _⟩
  case round =>
    obtain ⟨k, hk, rfl, hno, hbel⟩ := hrel
    have hsz := hbel.size
    by_cases hlt : k < n
    · obtain ⟨b, off, rfl, hb, hc⟩ := hx.out.1 (by omega)
      obtain ⟨g0, g1⟩ := hc k hlt
      obtain ⟨hI, hfc, hfm⟩ := hx.out.2 k hlt
      rw [← hbel.cell (by simp; omega)] at g0 g1
      clear hc
      obtain ⟨q, hq⟩ : ∃ q, metB F (fl k) (fx k) = q := ⟨_, rfl⟩
      have hcall := fun W (hW : Below wr.heap.size wr W) => l18Met_any AF (fa k) cF (fl k) (fc k) BF B F (fx k) (o k) W ((hF.out.below (hbel.mono hBF)).below (hW.mono (by omega))) (by have := hW.size; omega) ((hI.below (hbel.mono hB)).below (hW.mono (by omega))) (by have := hW.size; omega) (hok.out k hlt) q hq
      have hyes : q = true → (vo, va) = (o k, (k : Int)) := fun h => by rw [← hv.out]; exact decV_hit hlt hno.out (by rw [hq]; exact h)
      have hstep : q = false → decI F fl fx (k + 1) = none := fun h => decI_step hno.out (by rw [hq]; exact h)
      replace hyes := Lib.hid hyes
      replace hstep := Lib.hid hstep
      clear hI hfc hfm hq
      generalize fa k = A1 at g0 hcall
      generalize fc k = C1 at g0 hcall
      generalize fl k = F1 at g0 hcall
      generalize o k = O1 at g1 hcall hyes
      replace hcall := Lib.hid hcall
      cases q with
      | true =>
        have hy := hyes.out rfl
        injection hy with hy1 hy2
        subst hy1
        subst hy2
        go_wp2_with fail
        refine (hcall.out _ (Below.refl _ _)).mono ?_
        rintro e w1 ⟨rfl, hb1⟩
        have hfin : Below w.heap.size w w1 := hbel.trans (hb1.mono hsz)
        rw [← hb1.cell (by simp; omega)] at g1 g0
        clear hb1
        go_wp2
        go_ret2
        exact ⟨rfl, hfin⟩
      | false =>
        have hst := Lib.hid (hstep.out rfl)
        go_wp2_with fail
        refine (hcall.out _ (Below.refl _ _)).mono ?_
        rintro e w1 ⟨rfl, hb1⟩
        have hfin : Below w.heap.size w w1 := hbel.trans (hb1.mono hsz)
        clear hb1
        go_wp2
        go_roundw
        case rel => exact ⟨k + 1, by omega, by go_num, hst, hfin⟩
        case measure => simp [intOf]; omega
    · obtain rfl : k = n := by omega
      have hvv : (vo, va) = (0, -1) := by rw [← hv.out]; unfold decV; rw [hno.out]
      injection hvv with h1 h2
      subst h1
      subst h2
      go_wp2
      go_ret2
      exact ⟨rfl, hbel⟩
end Go.Proofs.Ytcilgohjeobamaa
