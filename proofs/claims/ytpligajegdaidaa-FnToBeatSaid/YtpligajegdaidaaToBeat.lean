/- Plain lemmas on the time to beat and the factor to tie. -/
import Derived.Test.YtpligajegdaidaaArith2
import Derived.Test.YtpligajegdaidaaPick
namespace Go.Proofs.Ytpligajegdaidaa
open Go.RowKit
theorem firstF_spec (p : Int → Bool) (k : Nat) : ∀ (s r : Int), firstF p s k = some r → s ≤ r ∧ r < s + k ∧ p r = true := by
  induction k with
  | zero => intro s r h; cases h
  | succ k ih =>
    intro s r h
    unfold firstF at h
    by_cases hp : p s = true
    · rw [if_pos hp] at h
      injection h with h
      subst h
      exact ⟨by omega, by omega, hp⟩
    · rw [if_neg hp] at h
      have := ih (s + 1) r h
      exact ⟨by omega, by omega, this.2.2⟩

/-- The factor to tie: not to be had, or it reaches its target. -/
theorem tie_cases (y g : Int) : tieV y g = (0, 2) ∨ tieV y g = (0, 4) ∨ ∃ r, tieV y g = (r, 0) ∧ ctV y r = (corV y r, 0) ∧ g ≤ corV y r := by
  by_cases hv : inB y 1 1000000000 = true ∧ inB g 1 1000000000 = true
  · obtain ⟨h0, h1⟩ := hv
    have e1 : tieV y g = optV (firstF (fun f => decide (g ≤ corV y f)) 1 3000) := by simp [tieV, h0, h1]
    cases hq : firstF (fun f => decide (g ≤ corV y f)) 1 3000 with
    | none => right; left; rw [e1, hq]; rfl
    | some r =>
      right; right
      obtain ⟨r1, r2, r3⟩ := firstF_spec _ _ _ _ hq
      refine ⟨r, by rw [e1, hq]; rfl, ?_, by simpa using r3⟩
      have h2 : inB r 1 3000 = true := inB_mk (by omega) (by omega)
      simp [ctV, h0, h2]
  · left
    cases h0 : inB y 1 1000000000 <;> cases h1 : inB g 1 1000000000 <;> simp_all [tieV]
/-- The time to beat: not to be had, the greatest, or it is ahead and one more is not. -/
theorem beat_cases (t f o : Int) : tbV t f o = (0, 2) ∨ tbV t f o = (0, 4) ∨ tbV t f o = (1000000000, 0) ∨
    ∃ x, tbV t f o = (x, 0) ∧ 1 ≤ x ∧ x < 1000000000 ∧ cmpV x o t f = (-1, 0) ∧ ∃ s, cmpV (x + 1) o t f = (s, 0) ∧ 0 ≤ s := by
  by_cases hv : inB t 1 1000000000 = true ∧ inB f 1 3000 = true ∧ inB o 1 3000 = true
  · obtain ⟨h0, h1, h2⟩ := hv
    obtain ⟨l0, u0⟩ := inB_t h0
    obtain ⟨l1, u1⟩ := inB_t h1
    obtain ⟨l2, u2⟩ := inB_t h2
    have e1 : tbV t f o = if (t * f - 1) / o < 1 then (0, 4) else (min 1000000000 ((t * f - 1) / o), 0) := by simp [tbV, h0, h1, h2]
    by_cases c : (t * f - 1) / o < 1
    · right; left; rw [e1, if_pos c]
    · rw [if_neg c] at e1
      right; right
      have q1 := Int.ediv_mul_le (t * f - 1) (show o ≠ 0 by omega)
      have q2 := Int.lt_ediv_add_one_mul_self (t * f - 1) (show 0 < o by omega)
      generalize (t * f - 1) / o = q at *
      by_cases c2 : q < 1000000000
      · right
        refine ⟨q, by rw [e1]; congr 1; omega, by omega, c2, ?_, ?_⟩
        · have h3 : inB q 1 1000000000 = true := inB_mk (by omega) (by omega)
          simp only [cmpV, h0, h1, h2, h3, Bool.and_self, if_true, Prod.mk.injEq, and_true]
          unfold sgn; rw [if_pos (by omega)]
        · have h3 : inB (q + 1) 1 1000000000 = true := inB_mk (by omega) (by omega)
          refine ⟨sgn ((q + 1) * o - t * f), by simp only [cmpV, h0, h1, h2, h3, Bool.and_self, if_true], ?_⟩
          unfold sgn; rw [if_neg (by omega)]; split <;> omega
      · left; rw [e1]; congr 1; omega
  · left
    cases h0 : inB t 1 1000000000 <;> cases h1 : inB f 1 3000 <;> cases h2 : inB o 1 3000 <;> simp_all [tbV]
end Go.Proofs.Ytpligajegdaidaa
