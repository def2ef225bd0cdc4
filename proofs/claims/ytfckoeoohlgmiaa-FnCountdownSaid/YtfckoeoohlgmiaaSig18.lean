/- The draw of a log and a time, off a code; the plain law on countdowns. -/
import Derived.Test.YtfckoeoohlgmiaaSig17
import Derived.Test.YtfckoeoohlgmiaaSig10
set_option linter.unusedSimpArgs false
set_option linter.unusedVariables false
namespace Go.Proofs.Ytfckoeoohlgmiaa
open Go.RowKit

theorem drawCountdownAt_any (A : Option Addr) (m c : Nat) (bs : Nat → Int) (w : World) (hc : Nums .u8 w w.heap.size A m bs) (hm : m ≤ 100000) (hb : ∀ j, 0 ≤ bs j ∧ bs j ≤ 255) :
    Calls Try.prog 29 #[.slice A m c] w fun e w' => DrewT w w' e := by
  go_enter Try.func29, Try.ntmps29
  go_wp2_with fail
  refine (fromR _ _ _ _ _ _ hc (Nat.le_refl _) hm hb).mono ?_
  rintro e w1 ⟨rfl, hS1, hb1⟩
  go_wp2_with fail
  refine (l13DrawTime_any _ _ _ _ _ hS1).mono ?_
  rintro e w2 ⟨A', n, c', zs, t, rfl, n41, t0, t1, hown, hg2⟩
  have hz1 := hb1.size
  obtain ⟨hzl, hzc⟩ := cells_of hown
  have hX : DrewT w w2 (.returned (.tuple #[.slice A' n c', .int .i64 t])) := ⟨A', n, c', fun j => zs.getD j 0, t, rfl, n41, t0, t1, Ints.of_own hown (Nat.le_refl _) (by simp; omega) hzc, hb1.trans (below_only hg2 hz1 (fun k e => by injection e with e; omega))⟩
  go_wp2
  go_ret2
  exact hX
/-- While a countdown runs, a millisecond shortens it by one. -/
theorem count_law {n : Nat} {xs : Nat → Int} {t x : Int} (h : countV n xs t = (x, 0)) (hx : x ≠ 0) (ht : t < 1000000000) : countV n xs (t + 1) = (x - 1, 0) ∧ 1 ≤ x ∧ x ≤ 1000300000 := by
  unfold countV at h
  by_cases hf : forC n xs t = 0
  · rw [if_pos hf] at h
    by_cases h3 : 1 ≤ (stA xs n).1 ∧ (stA xs n).1 ≤ 3
    · rw [if_pos h3] at h
      by_cases hl : (stA xs n).2 + 300000 - t < 0
      · rw [if_pos hl] at h; simp at h
      · rw [if_neg hl] at h
        have hxv : (stA xs n).2 + 300000 - t = x := by simpa using h
        obtain ⟨hc, hla, t0, t1⟩ := forC_0 hf
        have hla' : laterB n xs (t + 1) = true := by
          unfold laterB at hla ⊢
          simp only [Bool.and_eq_true, Bool.or_eq_true, decide_eq_true_eq] at hla ⊢
          refine ⟨by simp [inB]; omega, ?_⟩
          rcases hla.2 with h | h
          · exact .inl h
          · right; omega
        have hf' : forC n xs (t + 1) = 0 := by unfold forC; rw [if_pos hc, if_pos hla']
        have hbd := stA_in (isS_t (codeV_0 hc).1).2 n (Nat.le_refl _)
        refine ⟨?_, by omega, by omega⟩
        unfold countV
        rw [if_pos hf', if_pos h3, if_neg (by omega)]
        simp
        omega
    · rw [if_neg h3] at h; simp at h
  · rw [if_neg hf] at h
    simp at h
    exact absurd h.2 hf
end Go.Proofs.Ytfckoeoohlgmiaa
