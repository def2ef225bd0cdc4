/- Windows merged, plain: the order among windows that begin together is of no weight. -/
import Derived.Test.YtghpaegabppeaaaWin
set_option linter.unusedSimpArgs false
set_option linter.unusedVariables false
namespace Go.Proofs.Ytghpaegabppeaaa
open Go.RowKit

/-- One window more: the merged list is turned round. -/
def stepR (R : List (Int × Int)) (x : Int × Int) : List (Int × Int) :=
  match R with
  | [] => [x]
  | l :: r => if x.1 ≤ l.2 then (l.1, max l.2 x.2) :: r else x :: l :: r
theorem stepR_comm {x y : Int × Int} (R : List (Int × Int)) (h : x.1 = y.1) (hx : x.1 < x.2) (hy : y.1 < y.2) : stepR (stepR R x) y = stepR (stepR R y) x := by
  obtain ⟨a, b⟩ := x
  obtain ⟨c, d⟩ := y
  dsimp only at h hx hy
  subst h
  cases R with
  | nil =>
    simp only [stepR]
    rw [if_pos (by omega), if_pos (by omega)]
    congr 2
    omega
  | cons l r =>
    by_cases h1 : a ≤ l.2
    · simp only [stepR]
      rw [if_pos h1, if_pos h1]
      simp only
      rw [if_pos (by omega), if_pos (by omega)]
      congr 2
      omega
    · simp only [stepR]
      rw [if_neg h1, if_neg h1]
      simp only
      rw [if_pos (by omega), if_pos (by omega)]
      congr 2
      omega
theorem fold_front {a : Int × Int} (ha : a.1 < a.2) : ∀ (u : List (Int × Int)) (R : List (Int × Int)), (∀ x ∈ u, x.1 = a.1 ∧ x.1 < x.2) → (u ++ [a]).foldl stepR R = u.foldl stepR (stepR R a) := by
  intro u
  induction u with
  | nil => intro R _; rfl
  | cons x u ih =>
    intro R h
    obtain ⟨h1, h2⟩ := h x (List.mem_cons_self ..)
    show (u ++ [a]).foldl stepR (stepR R x) = u.foldl stepR (stepR (stepR R a) x)
    rw [ih _ (fun y hy => h y (List.mem_cons_of_mem _ hy)), stepR_comm R h1 h2 ha]
abbrev srtd (l : List (Int × Int)) : Prop := l.Pairwise (fun p q => p.1 ≤ q.1)
/-- Two lists of the same windows, each in the order of the beginnings, are merged alike. -/
theorem fold_perm : ∀ (l m : List (Int × Int)), l.Perm m → srtd l → srtd m → (∀ x ∈ l, x.1 < x.2) → ∀ R, l.foldl stepR R = m.foldl stepR R := by
  intro l
  induction l with
  | nil => intro m h _ _ _ R; rw [List.Perm.nil_eq h]
  | cons a t ih =>
    intro m h hl hm hv R
    obtain ⟨u, v, rfl⟩ := List.append_of_mem (h.mem_iff.1 (List.mem_cons_self ..))
    have ht : t.Perm (u ++ v) := (List.perm_cons a).1 (h.trans List.perm_middle)
    have hl' := List.pairwise_cons.1 hl
    have hm' := List.pairwise_append.1 hm
    have hm2 := List.pairwise_cons.1 hm'.2.1
    have hu : ∀ x ∈ u, x.1 = a.1 ∧ x.1 < x.2 := by
      intro x hx
      have h1 := hm'.2.2 x hx a (List.mem_cons_self ..)
      have h2 := hl'.1 x (ht.mem_iff.2 (List.mem_append_left _ hx))
      exact ⟨by omega, hv x (List.mem_cons_of_mem _ (ht.mem_iff.2 (List.mem_append_left _ hx)))⟩
    have e : u ++ a :: v = (u ++ [a]) ++ v := by simp
    rw [e, List.foldl_append, fold_front (hv a (List.mem_cons_self ..)) u R hu, ← List.foldl_append]
    refine ih (u ++ v) ht hl'.2 ?_ (fun x hx => hv x (List.mem_cons_of_mem _ hx)) (stepR R a)
    rw [srtd, List.pairwise_append]
    exact ⟨hm'.1, hm2.2, fun x hx y hy => hm'.2.2 x hx y (List.mem_cons_of_mem _ hy)⟩
/-- The windows of a row. -/
def prs (xs : Nat → Int) : Nat → List (Int × Int)
  | 0 => []
  | k + 1 => prs xs k ++ [(xs (k * 2), xs (k * 2 + 1))]
theorem prs_len (xs : Nat → Int) : ∀ k, (prs xs k).length = k := by
  intro k
  induction k with
  | zero => rfl
  | succ k ih => unfold prs; simp [ih]
theorem prs_mem {xs : Nat → Int} {p : Int × Int} : ∀ k, p ∈ prs xs k ↔ ∃ i, i < k ∧ p = (xs (i * 2), xs (i * 2 + 1)) := by
  intro k
  induction k with
  | zero => simp [prs]
  | succ k ih =>
    unfold prs
    rw [List.mem_append, ih, List.mem_singleton]
    constructor
    · rintro (⟨i, hi, e⟩ | e)
      · exact ⟨i, by omega, e⟩
      · exact ⟨k, by omega, e⟩
    · rintro ⟨i, hi, e⟩
      rcases Nat.lt_or_ge i k with h | h
      · exact .inl ⟨i, h, e⟩
      · obtain rfl : i = k := by omega
        exact .inr e
/-- The numbers of windows. -/
def flatW : List (Int × Int) → List Int
  | [] => []
  | p :: r => p.1 :: p.2 :: flatW r
theorem flatW_app (l m : List (Int × Int)) : flatW (l ++ m) = flatW l ++ flatW m := by
  induction l with
  | nil => rfl
  | cons p l ih => simp [flatW, ih]
theorem flatW_len (l : List (Int × Int)) : (flatW l).length = l.length * 2 := by
  induction l with
  | nil => rfl
  | cons p l ih => simp [flatW, ih]; omega
theorem flatW_take (l : List (Int × Int)) : ∀ k, flatW (l.take k) = (flatW l).take (k * 2) := by
  induction l with
  | nil => intro k; simp [flatW]
  | cons p l ih =>
    intro k
    cases k with
    | zero => rfl
    | succ k => rw [show (k + 1) * 2 = k * 2 + 1 + 1 by omega]; simp [flatW, ih]
theorem flatW_drop (l : List (Int × Int)) : ∀ k, flatW (l.drop k) = (flatW l).drop (k * 2) := by
  induction l with
  | nil => intro k; simp [flatW]
  | cons p l ih =>
    intro k
    cases k with
    | zero => rfl
    | succ k => rw [show (k + 1) * 2 = k * 2 + 1 + 1 by omega]; simp [flatW, ih]
theorem flatW_get (l : List (Int × Int)) : ∀ k, k < l.length → (flatW l).getD (k * 2) 0 = (l.getD k (0, 0)).1 ∧ (flatW l).getD (k * 2 + 1) 0 = (l.getD k (0, 0)).2 := by
  induction l with
  | nil => intro k h; simp at h
  | cons p l ih =>
    intro k h
    cases k with
    | zero => exact ⟨rfl, rfl⟩
    | succ k =>
      have := ih k (by simpa using h)
      rw [show (k + 1) * 2 = k * 2 + 1 + 1 by omega]
      simpa [flatW] using this
def okA (n : Nat) (xs : Nat → Int) : Bool := (List.range n).all fun i => okW (xs (i * 2)) (xs (i * 2 + 1))
theorem okA_all {n : Nat} {xs : Nat → Int} (h : ∀ i, i < n → okW (xs (i * 2)) (xs (i * 2 + 1)) = true) : okA n xs = true := List.all_eq_true.2 fun i hi => h i (List.mem_range.1 hi)
theorem okA_no {n : Nat} {xs : Nat → Int} {i : Nat} (hi : i < n) (h : okW (xs (i * 2)) (xs (i * 2 + 1)) = false) : okA n xs = false := List.all_eq_false.2 ⟨i, List.mem_range.2 hi, by rw [h]; simp⟩
theorem okA_t {n : Nat} {xs : Nat → Int} (h : okA n xs = true) : ∀ i, i < n → okW (xs (i * 2)) (xs (i * 2 + 1)) = true := by
  simpa [okA] using h
def codM (n : Nat) (xs : Nat → Int) : Int := if okA n xs = true then (if n ≤ 30 then 0 else 3) else 2
def mrgW (n : Nat) (xs : Nat → Int) : List (Int × Int) := (((prs xs n).mergeSort fun p q => decide (p.1 ≤ q.1)).foldl stepR []).reverse
def mrgL (n : Nat) (xs : Nat → Int) : List Int := if codM n xs = 0 then flatW (mrgW n xs) else []
theorem prs_ok {n : Nat} {xs : Nat → Int} (h : okA n xs = true) : ∀ p ∈ prs xs n, 0 ≤ p.1 ∧ p.1 < p.2 ∧ p.2 ≤ 1000000000 := by
  intro p hp
  obtain ⟨i, hi, rfl⟩ := (prs_mem n).1 hp
  exact okW_t (okA_t h i hi)
/-- The law: whatever way they are ordered. -/
theorem mrg_law {n : Nat} {xs : Nat → Int} {S : List (Int × Int)} (h : okA n xs = true) (hp : S.Perm (prs xs n)) (hs : srtd S) : (S.foldl stepR []).reverse = mrgW n xs := by
  unfold mrgW
  congr 1
  refine fold_perm _ _ (hp.trans (List.mergeSort_perm _ _).symm) hs ?_ (fun x hx => ?_) []
  · have := List.pairwise_mergeSort (le := fun p q : Int × Int => decide (p.1 ≤ q.1)) (fun a b c h1 h2 => by simp at *; omega) (fun a b => by simp; omega) (prs xs n)
    exact this.imp (fun h => by simpa using h)
  · exact (prs_ok h x (hp.mem_iff.1 hx)).2.1
theorem fold_len : ∀ (l : List (Int × Int)) (R : List (Int × Int)), (l.foldl stepR R).length ≤ R.length + l.length := by
  intro l
  induction l with
  | nil => intro R; exact Nat.le_refl _
  | cons x l ih =>
    intro R
    have := ih (stepR R x)
    have h2 : (stepR R x).length ≤ R.length + 1 := by
      unfold stepR
      split
      · simp
      · split <;> simp
    simp only [List.foldl_cons, List.length_cons]
    omega
/-- A window put in its place. -/
theorem ins_perm (S : List (Int × Int)) (x : Int × Int) (k : Nat) : (S.take k ++ x :: S.drop k).Perm (S ++ [x]) := by
  refine List.perm_middle.trans ?_
  rw [List.take_append_drop]
  exact (List.perm_append_singleton x S).symm
theorem ins_srtd {S : List (Int × Int)} {x : Int × Int} {k : Nat} (hs : srtd S) (hk : k ≤ S.length) (h1 : k = 0 ∨ (S.getD (k - 1) (0, 0)).1 ≤ x.1) (h2 : ∀ j, k ≤ j → j < S.length → x.1 ≤ (S.getD j (0, 0)).1) : srtd (S.take k ++ x :: S.drop k) := by
  have hs' := hs
  rw [← List.take_append_drop k S, srtd, List.pairwise_append] at hs'
  rw [srtd, List.pairwise_append, List.pairwise_cons]
  have hd : ∀ y ∈ S.drop k, x.1 ≤ y.1 := by
    intro y hy
    obtain ⟨j, hj, rfl⟩ := List.getElem_of_mem hy
    rw [List.length_drop] at hj
    have := h2 (k + j) (by omega) (by omega)
    rw [List.getD_eq_getElem?_getD, List.getElem?_eq_getElem (by omega)] at this
    simpa using this
  have ht : ∀ y ∈ S.take k, y.1 ≤ x.1 := by
    intro y hy
    obtain ⟨j, hj, rfl⟩ := List.getElem_of_mem hy
    rw [List.length_take] at hj
    rcases h1 with h1 | h1
    · omega
    · rw [List.getD_eq_getElem?_getD, List.getElem?_eq_getElem (by omega)] at h1
      rw [List.getElem_take]
      rcases Nat.lt_or_ge j (k - 1) with h3 | h3
      · have := List.pairwise_iff_getElem.1 hs j (k - 1) (by omega) (by omega) h3
        simp at h1
        omega
      · obtain rfl : j = k - 1 := by omega
        simpa using h1
  exact ⟨hs'.1, ⟨hd, hs'.2.1⟩, fun y hy z hz => by
    rcases List.mem_cons.1 hz with rfl | hz
    · exact ht y hy
    · exact hs'.2.2 y hy z hz⟩
end Go.Proofs.Ytghpaegabppeaaa
