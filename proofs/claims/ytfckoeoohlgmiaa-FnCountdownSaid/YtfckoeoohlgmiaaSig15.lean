/- The draws of logs, off a code. -/
import Derived.Test.YtfckoeoohlgmiaaSig14
import Derived.Test.YtfckoeoohlgmiaaSigLaw
import Derived.Deep.RegionLaw
import Derived.StillTailTactics
set_option linter.unusedSimpArgs false
set_option linter.unusedVariables false
namespace Go.Proofs.Ytfckoeoohlgmiaa
open Go.RowKit

/-- A log, drawn off a code. -/
def DrewX (w w' : World) (e : Ending) : Prop :=
  ∃ (A : Option Addr) (n c : Nat) (xs : Nat → Int), e = .returned (.slice A n c) ∧ n ≤ 41 ∧ n ≤ c ∧ c ≤ maxLen ∧ Ints w' w'.heap.size A (n * 2) xs ∧ (∀ j, j < n * 2 → -1 ≤ xs j ∧ xs j ≤ 1000000001) ∧ Below w.heap.size w w'
theorem DrewX.of {w w1 w2 : World} {B g m : Nat} {bs : Nat → Int} {e : Ending} (h : DrewL w1 w2 B g m bs 41 1000000001 e) (hb : Below w.heap.size w w1) (hg : w.heap.size ≤ g) : DrewX w w2 e := by
  obtain ⟨v, n, zs, rfl, hn, hown, hS, hgr, hzb⟩ := h
  obtain ⟨A, c, rfl, hnc, hcm⟩ := own_form hown
  obtain ⟨hzl, hzc⟩ := cells_of hown
  have hz := hb.size
  exact ⟨A, n, c, fun j => zs.getD j 0, rfl, hn, hnc, hcm, Ints.of_own hown (Nat.le_refl _) (by simp; omega) hzc, fun j hj => getD_all (P := fun y => -1 ≤ y ∧ y ≤ 1000000001) hzb (by omega), hb.trans (below_only hgr hz (fun k e => by injection e with e; omega))⟩
theorem drawFirstUnlawful_any (A : Option Addr) (m c : Nat) (bs : Nat → Int) (w : World) (hc : Nums .u8 w w.heap.size A m bs) (hm : m ≤ 100000) (hb : ∀ j, 0 ≤ bs j ∧ bs j ≤ 255) :
    Calls Try.prog 26 #[.slice A m c] w fun e w' => DrewX w w' e := by
  go_enter Try.func26, Try.ntmps26
  go_wp2_with fail
  refine (fromR _ _ _ _ _ _ hc (Nat.le_refl _) hm hb).mono ?_
  rintro e w1 ⟨rfl, hS1, hb1⟩
  go_wp2_with fail
  refine (l13DrawAny_any _ _ _ _ _ hS1).mono ?_
  rintro e w2 hd
  have hX := DrewX.of hd hb1 (Nat.le_refl _)
  obtain ⟨v, n, zs, rfl, _⟩ := hd
  go_wp2
  go_ret
  exact hX
theorem drawStartTime_any (A : Option Addr) (m c : Nat) (bs : Nat → Int) (w : World) (hc : Nums .u8 w w.heap.size A m bs) (hm : m ≤ 100000) (hb : ∀ j, 0 ≤ bs j ∧ bs j ≤ 255) :
    Calls Try.prog 30 #[.slice A m c] w fun e w' => DrewX w w' e := by
  go_enter Try.func30, Try.ntmps30
  go_wp2_with fail
  refine (fromR _ _ _ _ _ _ hc (Nat.le_refl _) hm hb).mono ?_
  rintro e w1 ⟨rfl, hS1, hb1⟩
  go_wp2_with fail
  refine (l13DrawAny_any _ _ _ _ _ hS1).mono ?_
  rintro e w2 hd
  have hX := DrewX.of hd hb1 (Nat.le_refl _)
  obtain ⟨v, n, zs, rfl, _⟩ := hd
  go_wp2
  go_ret
  exact hX
end Go.Proofs.Ytfckoeoohlgmiaa
