/- Plain laws on open times: what a deadline adds up to, and what the next opening is. -/
import Derived.Test.YtghpaegabppeaaaWin5
set_option linter.unusedSimpArgs false
set_option linter.unusedVariables false
namespace Go.Proofs.Ytghpaegabppeaaa
open Go.RowKit

def openT (xs : Nat → Int) (f t : Int) : Nat → Nat → Int
  | 0, _ => 0
  | k + 1, i => pieceV xs f t i + openT xs f t k (i + 1)
theorem openT_last (xs : Nat → Int) (f t : Int) : ∀ k i, openT xs f t (k + 1) i = openT xs f t k i + pieceV xs f t (i + k) := by
  intro k
  induction k with
  | zero => intro i; simp [openT]
  | succ k ih =>
    intro i
    rw [openT, ih (i + 1), openT, show i + 1 + k = i + (k + 1) by omega]
    omega
theorem openV_T (xs : Nat → Int) (f t : Int) : ∀ n, openV xs f t n = openT xs f t n 0 := by
  intro n
  induction n with
  | zero => rfl
  | succ n ih => rw [openT_last, ← ih, Nat.zero_add]; rfl
theorem win_lt {n : Nat} {xs : Nat → Int} (h : isL n xs = true) {i : Nat} : ∀ d, i + 1 + d < n → xs (i * 2 + 1) < xs ((i + 1 + d) * 2) := by
  intro d
  induction d with
  | zero =>
    intro hd
    obtain ⟨_, _, _, h4⟩ := okL_t ((isL_t h).2 (i + 1) hd)
    simp at h4
    exact h4
  | succ d ih =>
    intro hd
    have := ih (by omega)
    obtain ⟨_, _, _, h4⟩ := okL_t ((isL_t h).2 (i + 1 + (d + 1)) hd)
    obtain ⟨_, h2, _, _⟩ := okL_t ((isL_t h).2 (i + 1 + d) (by omega))
    rcases h4 with h4 | h4
    · omega
    · rw [show i + 1 + (d + 1) - 1 = i + 1 + d by omega] at h4
      omega
theorem win_lt' {n : Nat} {xs : Nat → Int} (h : isL n xs = true) {i j : Nat} (hij : i < j) (hj : j < n) : xs (i * 2 + 1) < xs (j * 2) := by
  have := win_lt h (i := i) (j - (i + 1)) (by omega)
  rwa [show i + 1 + (j - (i + 1)) = j by omega] at this
theorem openT_zero {xs : Nat → Int} {f r : Int} : ∀ k i, (∀ j, i ≤ j → j < i + k → r ≤ xs (j * 2)) → openT xs f r k i = 0 := by
  intro k
  induction k with
  | zero => intro i _; rfl
  | succ k ih =>
    intro i h
    rw [openT, ih (i + 1) (fun j h1 h2 => h j (by omega) (by omega))]
    have := h i (by omega) (by omega)
    unfold pieceV
    omega
theorem dl_open {n : Nat} {xs : Nat → Int} {f : Int} (h : isL n xs = true) : ∀ k i len r, i + k = n → 0 < len → dlF xs f k i len = some r → openT xs f r k i = len ∧ openT xs f (r - 1) k i = len - 1 ∧ f < r ∧ (0 < k → xs (i * 2) < r) := by
  intro k
  induction k with
  | zero => intro i len r _ _ hd; simp [dlF] at hd
  | succ k ih =>
    intro i len r hik hl hd
    obtain ⟨c1, c2, c3, c4⟩ := okL_t ((isL_t h).2 i (by omega))
    obtain ⟨m, hm⟩ : ∃ m, max f (xs (i * 2)) = m := ⟨_, rfl⟩
    by_cases h1 : len ≤ xs (i * 2 + 1) - m
    · rw [dlF_yes hm h1 hl] at hd
      obtain rfl : m + len = r := by simpa using hd
      have hz : ∀ r', r' ≤ xs (i * 2 + 1) → openT xs f r' k (i + 1) = 0 := fun r' hr => openT_zero k (i + 1) (fun j h1 h2 => by have := win_lt' h (i := i) (j := j) (by omega) (by omega); omega)
      rw [openT, openT, hz _ (by omega), hz _ (by omega)]
      unfold pieceV
      refine ⟨by omega, by omega, by omega, fun _ => by omega⟩
    · have hk : dlF xs f k (i + 1) (if 0 < xs (i * 2 + 1) - m then len - (xs (i * 2 + 1) - m) else len) = some r := by
        split
        · rename_i h2; rw [← dlF_less hm (by omega) h2]; exact hd
        · rename_i h2; rw [← dlF_none hm hl (by omega)]; exact hd
      obtain ⟨a1, a2, a3, a4⟩ := ih (i + 1) _ r (by omega) (by split <;> omega) hk
      have hk0 : 0 < k := by
        rcases Nat.eq_zero_or_pos k with e | e
        · subst e; simp [dlF] at hk
        · exact e
      have := a4 hk0
      have := win_lt' h (i := i) (j := i + 1) (by omega) (by omega)
      rw [openT, openT, a1, a2]
      unfold pieceV
      refine ⟨?_, ?_, by omega, fun _ => by omega⟩ <;> split <;> omega
theorem openV_same {xs : Nat → Int} {f : Int} : ∀ k, openV xs f f k = 0 := by
  intro k
  induction k with
  | zero => rfl
  | succ k ih => rw [openV, ih]; unfold pieceV; omega
/-- What the law on deadlines wants. -/
theorem dl_law {n : Nat} {xs : Nat → Int} {f len r : Int} (h : daV n xs f len = (r, 0)) :
    0 ≤ f ∧ f ≤ r ∧ r ≤ 1000000000 ∧ otV n xs f r = (len, 0) ∧ itV n xs f len r = (true, 0) ∧ (r = f → len = 0) ∧ (r ≠ f → otV n xs f (r - 1) = (len - 1, 0)) ∧ (r ≠ 1000000000 → itV n xs f len (r + 1) = (false, 0)) := by
  unfold daV at h
  cases hL : isL n xs with
  | false => simp [hL] at h
  | true =>
  cases hf : inB f 0 1000000000 with
  | false => simp [hL, hf] at h
  | true =>
  by_cases hl : 0 ≤ len
  · have hfb := inB_t hf
    cases hd : dlV n xs f len with
    | none => simp [hL, hf, hl, hd] at h
    | some q =>
      simp [hL, hf, hl, hd] at h
      subst h
      obtain ⟨b0, b1, b2⟩ := dlV_bd hL hfb.1 hfb.2 hl hd
      have hi : inB q 0 1000000000 = true := by simp [inB]; omega
      have hit : itV n xs f len q = (true, 0) := by simp [itV, hL, hf, hl, hi, hd]
      have hit2 : q ≠ 1000000000 → itV n xs f len (q + 1) = (false, 0) := by
        intro hne
        have hi2 : inB (q + 1) 0 1000000000 = true := by simp [inB]; omega
        simp [itV, hL, hf, hl, hi2, hd]
        omega
      unfold dlV at hd
      by_cases h0 : len = 0
      · rw [if_pos h0] at hd
        obtain rfl : f = q := by simpa using hd
        subst h0
        refine ⟨hfb.1, by omega, b1, ?_, hit, fun _ => rfl, fun e => absurd rfl e, hit2⟩
        unfold otV
        rw [if_pos hL, if_pos (by omega), openV_same]
      · rw [if_neg h0] at hd
        obtain ⟨o1, o2, o3, _⟩ := dl_open hL n 0 len q (by omega) (by omega) hd
        refine ⟨hfb.1, by omega, b1, ?_, hit, fun e => by omega, fun e => ?_, hit2⟩
        · unfold otV
          rw [if_pos hL, if_pos (by omega), openV_T, o1]
        · unfold otV
          rw [if_pos hL, if_pos (by omega), openV_T, o2]
  · have : daV n xs f len = (0, 2) := by simp [daV, hL, hf, hl]
    simp [hL, hf, hl] at h
theorem openV_add {n : Nat} {xs : Nat → Int} {f m t : Int} (h : isL n xs = true) (h1 : f ≤ m) (h2 : m ≤ t) : ∀ k, k ≤ n → openV xs f t k = openV xs f m k + openV xs m t k := by
  intro k
  induction k with
  | zero => intro _; rfl
  | succ k ih =>
    intro hk
    obtain ⟨c1, c2, c3, c4⟩ := okL_t ((isL_t h).2 k (by omega))
    rw [openV, openV, openV, ih (by omega)]
    unfold pieceV
    omega
theorem openV_zero {xs : Nat → Int} {f t : Int} : ∀ k, (∀ j, j < k → pieceV xs f t j = 0) → openV xs f t k = 0 := by
  intro k
  induction k with
  | zero => intro _; rfl
  | succ k ih => intro h; rw [openV, ih (fun j hj => h j (by omega)), h k (by omega)]; rfl
/-- What the law on the next opening wants. -/
theorem no_law {n : Nat} {xs : Nat → Int} {f t : Int} (hL : isL n xs = true) (h0 : 0 ≤ f) (h1 : f ≤ 1000000000) :
    (noV n xs f = (0, 4) ∧ openV xs f t n = 0) ∨ ∃ r, noV n xs f = (r, 0) ∧ f ≤ r ∧ r ≤ 1000000000 ∧ ioV n xs r = (true, 0) ∧ otV n xs f r = (0, 0) := by
  have hf : inB f 0 1000000000 = true := by simp [inB]; omega
  cases hx : nxF n xs f with
  | none =>
    left
    refine ⟨by simp [noV, hL, hf, hx], openV_zero n (fun j hj => ?_)⟩
    have := List.find?_eq_none.1 hx j (List.mem_range.2 hj)
    simp at this
    unfold pieceV
    omega
  | some i =>
    right
    unfold nxF at hx
    obtain ⟨p1, p2, p3⟩ := List.find?_range_eq_some.1 hx
    simp at p1 p2 p3
    obtain ⟨c1, c2, c3, c4⟩ := okL_t ((isL_t hL).2 i p2)
    have hnx : nxF n xs f = some i := hx
    have hr : inB (max f (xs (i * 2))) 0 1000000000 = true := by simp [inB]; omega
    refine ⟨max f (xs (i * 2)), by simp [noV, hL, hf, hnx], by omega, by omega, ?_, ?_⟩
    · unfold ioV
      rw [if_pos hL, if_pos hr, opB_of (i := i) (by omega) (by omega) n p2]
    · unfold otV
      rw [if_pos hL, if_pos (by omega), openV_zero n (fun j hj => ?_)]
      unfold pieceV
      rcases Nat.lt_trichotomy j i with e | e | e
      · have := p3 j e
        omega
      · subst e; omega
      · have := win_lt' hL e hj
        omega
end Go.Proofs.Ytghpaegabppeaaa
