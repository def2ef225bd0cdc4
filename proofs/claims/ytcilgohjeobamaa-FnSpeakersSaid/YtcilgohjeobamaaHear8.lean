/- FnFacts: what the facts of turned statements are (plain). -/
import Derived.Test.YtcilgohjeobamaaHear7
set_option linter.unusedSimpArgs false
set_option linter.unusedVariables false
namespace Go.Proofs.Ytcilgohjeobamaa
open Go.RowKit Go.Shelf

/-- What one statement adds to the sum about a fact. -/
def addV (xs : Nat → Int) (wo : Int) (f : Nat) (i : Nat) : Int := if xs (i * 3) ≠ wo ∧ xs (i * 3 + 1) = f then wtV (xs (i * 3)) * xs (i * 3 + 2) else 0
theorem sumF_sum (xs : Nat → Int) (wo : Int) (f : Nat) : ∀ n, sumF xs wo n f = ((List.range n).map (addV xs wo f)).sum := by
  intro n
  induction n with
  | zero => rfl
  | succ n ih =>
    rw [List.range_succ, List.map_append, List.sum_append, ← ih]
    have hs : sumF xs wo (n + 1) f = if xs (n * 3) ≠ wo ∧ xs (n * 3 + 1) = f then sumF xs wo n f + wtV (xs (n * 3)) * xs (n * 3 + 2) else sumF xs wo n f := rfl
    have ha : ([n].map (addV xs wo f)).sum = if xs (n * 3) ≠ wo ∧ xs (n * 3 + 1) = f then wtV (xs (n * 3)) * xs (n * 3 + 2) else 0 := by simp [addV]
    rw [hs, ha]
    split <;> simp
theorem sum_neg : ∀ l : List Int, (l.map (fun x => -x)).sum = -l.sum := by
  intro l
  induction l with
  | nil => rfl
  | cons a l ih => simp only [List.map_cons, List.sum_cons, ih]; omega
theorem sum_perm {l m : List Int} (h : l.Perm m) : l.sum = m.sum := by
  induction h with
  | nil => rfl
  | cons x _ ih => simp only [List.sum_cons, ih]
  | swap x y l => simp only [List.sum_cons]; omega
  | trans _ _ ih1 ih2 => exact ih1.trans ih2
/-- Statements turned and in another order: each fact turns. -/
theorem fact_turn {xs ys : Nat → Int} {wo : Int} {n : Nat} (p : List Nat) (hp : p.Perm (List.range n)) (hy : ∀ i, i < n → ys (i * 3) = xs (p.getD i 0 * 3) ∧ ys (i * 3 + 1) = xs (p.getD i 0 * 3 + 1) ∧ ys (i * 3 + 2) = -xs (p.getD i 0 * 3 + 2)) (f : Nat) : sumF ys wo n f = -sumF xs wo n f := by
  rw [sumF_sum, sumF_sum]
  have hl : p.length = n := by rw [hp.length_eq]; simp
  have h1 : (List.range n).map (addV ys wo f) = (p.map (addV xs wo f)).map (fun x => -x) := by
    apply List.ext_getElem
    · simp [hl]
    · intro i h1 h2
      simp at h1
      have hpi : p.getD i 0 = p[i]'(by omega) := by
        rw [List.getD_eq_getElem?_getD, List.getElem?_eq_getElem (by omega)]
        rfl
      obtain ⟨a, b, c⟩ := hy i h1
      rw [hpi] at a b c
      simp only [List.getElem_map, List.getElem_range]
      unfold addV
      rw [a, b, c]
      split
      · rw [Int.mul_neg]
      · rfl
  rw [h1, sum_neg, sum_perm (hp.map _)]
theorem sgnV_neg (n : Int) : sgnV (-n) = -sgnV n := by
  unfold sgnV
  split <;> split <;> (try split) <;> (try split) <;> omega
end Go.Proofs.Ytcilgohjeobamaa
