/- The pace of a curve: plain facts, no program in sight. -/
import Derived.Test.YtjbioohpkmcmmaaCurve
namespace Go.Proofs.Ytjbioohpkmcmmaa
open Go.RowKit

def intp (a c p q wnd : Int) : Int := p + ((q - p) * (wnd - a)) / (c - a)
/-- The pace for a wind. -/
def paceV (n : Nat) (xs : Nat → Int) (wnd : Int) : Int :=
  match (List.range n).find? (fun i => decide (wnd ≤ xs (i * 2))) with
  | none => xs ((n - 1) * 2 + 1)
  | some 0 => xs 1
  | some (i + 1) => intp (xs (i * 2)) (xs ((i + 1) * 2)) (xs (i * 2 + 1)) (xs ((i + 1) * 2 + 1)) wnd
theorem paceV_none {n : Nat} {xs : Nat → Int} {wnd : Int} (h : ∀ i, i < n → xs (i * 2) < wnd) : paceV n xs wnd = xs ((n - 1) * 2 + 1) := by
  have : (List.range n).find? (fun i => decide (wnd ≤ xs (i * 2))) = none := by
    rw [List.find?_eq_none]; intro i hi; have := h i (List.mem_range.1 hi); simp; omega
  unfold paceV; rw [this]
theorem find_at {n i : Nat} {xs : Nat → Int} {wnd : Int} (hi : i < n) (h : wnd ≤ xs (i * 2)) (hb : ∀ j, j < i → xs (j * 2) < wnd) : (List.range n).find? (fun i => decide (wnd ≤ xs (i * 2))) = some i := by
  rw [List.find?_range_eq_some]
  exact ⟨by simpa using h, List.mem_range.2 hi, fun j hj => by have := hb j hj; simp; omega⟩
theorem paceV_zero {n : Nat} {xs : Nat → Int} {wnd : Int} (hn : 0 < n) (h : wnd ≤ xs 0) : paceV n xs wnd = xs 1 := by
  unfold paceV; rw [find_at (i := 0) hn (by simpa using h) (fun j hj => by omega)]
theorem paceV_succ {n i : Nat} {xs : Nat → Int} {wnd : Int} (hi : i + 1 < n) (h : wnd ≤ xs ((i + 1) * 2)) (hb : ∀ j, j < i + 1 → xs (j * 2) < wnd) :
    paceV n xs wnd = intp (xs (i * 2)) (xs ((i + 1) * 2)) (xs (i * 2 + 1)) (xs ((i + 1) * 2 + 1)) wnd := by
  unfold paceV; rw [find_at hi h hb]

theorem okC_t {xs : Nat → Int} {i : Nat} (h : okC xs i = true) : 0 ≤ xs (i * 2) ∧ xs (i * 2) ≤ 1000 ∧ 1 ≤ xs (i * 2 + 1) ∧ xs (i * 2 + 1) ≤ 1000000 ∧ (i = 0 ∨ (xs ((i - 1) * 2) < xs (i * 2) ∧ xs (i * 2 + 1) < xs ((i - 1) * 2 + 1))) := by
  unfold okC at h
  simp only [Bool.and_eq_true, Bool.or_eq_true, decide_eq_true_eq] at h
  obtain ⟨⟨h1, h2⟩, h3⟩ := h
  have a := inB_t h1
  have b := inB_t h2
  exact ⟨a.1, a.2, b.1, b.2, h3⟩
theorem isC_t {n : Nat} {xs : Nat → Int} (h : isC n xs = true) : 2 ≤ n ∧ n ≤ 12 ∧ ∀ i, i < n → okC xs i = true := by
  unfold isC at h
  simp only [Bool.and_eq_true, decide_eq_true_eq, List.all_eq_true, List.mem_range] at h
  exact ⟨h.1.1, h.1.2, h.2⟩
/-- The line between two points: from the one pace to the other, and never upward. -/
theorem intp_bd {a c p q wnd : Int} (h1 : a < wnd) (h2 : wnd ≤ c) (h3 : q ≤ p) : q ≤ intp a c p q wnd ∧ intp a c p q wnd ≤ p := by
  unfold intp
  have m0 : (q - p) * (wnd - a) ≤ 0 := Int.mul_nonpos_of_nonpos_of_nonneg (by omega) (by omega)
  have m1 : (q - p) * (c - a) ≤ (q - p) * (wnd - a) := Int.mul_le_mul_of_nonpos_left (by omega) (by omega)
  have d1 : q - p ≤ ((q - p) * (wnd - a)) / (c - a) := by rw [Int.le_ediv_iff_mul_le (by omega)]; exact m1
  have d2 : ((q - p) * (wnd - a)) / (c - a) < 1 := by rw [Int.ediv_lt_iff_lt_mul (by omega)]; omega
  omega
theorem intp_mono {a c p q wnd : Int} (h1 : a < c) (h3 : q ≤ p) : intp a c p q (wnd + 1) ≤ intp a c p q wnd := by
  unfold intp
  have m1 : (q - p) * (wnd + 1 - a) ≤ (q - p) * (wnd - a) := Int.mul_le_mul_of_nonpos_left (by omega) (by omega)
  have := Int.ediv_le_ediv (show 0 < c - a by omega) m1
  omega
theorem mul_neg_bd {x y X Y : Int} (h0 : x ≤ 0) (h1 : -X ≤ x) (h2 : 0 ≤ y) (h3 : y ≤ Y) : -(X * Y) ≤ x * y ∧ x * y ≤ 0 := by
  constructor
  · have := (Int.mul_le_mul (show -x ≤ X by omega) h3 h2 (by omega))
    rw [Int.neg_mul] at this; omega
  · exact Int.mul_nonpos_of_nonpos_of_nonneg h0 h2

/-- How the first point at or behind a wind lies. -/
theorem pace_cases (n : Nat) (xs : Nat → Int) (wnd : Int) : (∀ i, i < n → xs (i * 2) < wnd) ∨ ∃ i, i < n ∧ wnd ≤ xs (i * 2) ∧ ∀ j, j < i → xs (j * 2) < wnd := by
  induction n with
  | zero => left; intro i hi; omega
  | succ n ih =>
    rcases ih with h | ⟨i, hi, h1, h2⟩
    · by_cases hc : wnd ≤ xs (n * 2)
      · right; exact ⟨n, by omega, hc, h⟩
      · left; intro i hi
        by_cases e : i = n
        · subst e; omega
        · exact h i (by omega)
    · right; exact ⟨i, by omega, h1, h2⟩
theorem pace_desc {n : Nat} {xs : Nat → Int} (h : isC n xs = true) : ∀ i j, i ≤ j → j < n → xs (j * 2 + 1) ≤ xs (i * 2 + 1) := by
  obtain ⟨_, _, hok⟩ := isC_t h
  intro i j hij
  induction j with
  | zero => intro _; obtain rfl : i = 0 := by omega
            exact Int.le_refl _
  | succ j ih =>
    intro hj
    by_cases e : i = j + 1
    · subst e; exact Int.le_refl _
    · have h1 := ih (by omega) (by omega)
      obtain ⟨_, _, _, _, h2⟩ := okC_t (hok (j + 1) hj)
      rcases h2 with h2 | ⟨_, h2⟩
      · omega
      · simp only [Nat.add_sub_cancel] at h2; omega
theorem wind_asc {n : Nat} {xs : Nat → Int} (h : isC n xs = true) : ∀ i j, i < j → j < n → xs (i * 2) < xs (j * 2) := by
  obtain ⟨_, _, hok⟩ := isC_t h
  intro i j hij
  induction j with
  | zero => omega
  | succ j ih =>
    intro hj
    obtain ⟨_, _, _, _, h2⟩ := okC_t (hok (j + 1) hj)
    rcases h2 with h2 | ⟨h2, _⟩
    · omega
    · simp only [Nat.add_sub_cancel] at h2
      by_cases e : i = j
      · subst e; exact h2
      · have := ih (by omega) (by omega); omega
theorem paceV_bd {n : Nat} {xs : Nat → Int} (wnd : Int) (h : isC n xs = true) : xs ((n - 1) * 2 + 1) ≤ paceV n xs wnd ∧ paceV n xs wnd ≤ xs 1 ∧ 1 ≤ paceV n xs wnd ∧ paceV n xs wnd ≤ 1000000 := by
  obtain ⟨h1, h2, hok⟩ := isC_t h
  have a0 := okC_t (hok 0 (by omega))
  have aL := okC_t (hok (n - 1) (by omega))
  have d := pace_desc h
  simp only [Nat.zero_mul, Nat.zero_add] at a0
  have key : xs ((n - 1) * 2 + 1) ≤ paceV n xs wnd ∧ paceV n xs wnd ≤ xs 1 := by
    rcases pace_cases n xs wnd with hc | ⟨i, hi, hc1, hc2⟩
    · rw [paceV_none hc]
      have := d 0 (n - 1) (by omega) (by omega)
      simp only [Nat.zero_mul, Nat.zero_add] at this
      omega
    · cases i with
      | zero =>
        rw [paceV_zero hi (by simpa using hc1)]
        have := d 0 (n - 1) (by omega) (by omega)
        simp only [Nat.zero_mul, Nat.zero_add] at this
        omega
      | succ i =>
        rw [paceV_succ hi hc1 hc2]
        have := intp_bd (hc2 i (by omega)) hc1 (d i (i + 1) (by omega) hi)
        have l := d (i + 1) (n - 1) (by omega) (by omega)
        have u := d 0 i (by omega) (by omega)
        simp only [Nat.zero_mul, Nat.zero_add] at u
        omega
  omega
theorem paceV_mono {n : Nat} {xs : Nat → Int} (wnd : Int) (h : isC n xs = true) : paceV n xs (wnd + 1) ≤ paceV n xs wnd := by
  obtain ⟨h1, h2, hok⟩ := isC_t h
  have d := pace_desc h
  have asc := wind_asc h
  rcases pace_cases n xs wnd with hc | ⟨i, hi, hc1, hc2⟩
  · rw [paceV_none hc, paceV_none (fun i hi => by have := hc i hi; omega)]
    exact Int.le_refl _
  · cases i with
    | zero =>
      rw [paceV_zero (wnd := wnd) hi (by simpa using hc1)]
      exact (paceV_bd (wnd + 1) h).2.1
    | succ i =>
      rw [paceV_succ hi hc1 hc2]
      by_cases hw : wnd + 1 ≤ xs ((i + 1) * 2)
      · rw [paceV_succ hi hw (fun j hj => by have := hc2 j hj; omega)]
        exact intp_mono (asc i (i + 1) (by omega) hi) (d i (i + 1) (by omega) hi)
      · have hq : xs ((i + 1) * 2 + 1) ≤ intp (xs (i * 2)) (xs ((i + 1) * 2)) (xs (i * 2 + 1)) (xs ((i + 1) * 2 + 1)) wnd := (intp_bd (hc2 i (by omega)) hc1 (d i (i + 1) (by omega) hi)).1
        rcases pace_cases n xs (wnd + 1) with hd | ⟨j, hj, hd1, hd2⟩
        · rw [paceV_none hd]
          have := d (i + 1) (n - 1) (by omega) (by omega)
          omega
        · cases j with
          | zero =>
            exfalso
            have := asc 0 (i + 1) (by omega) hi
            simp only [Nat.zero_mul] at hd1 this
            omega
          | succ j =>
            have hij : i + 1 ≤ j := by
              rcases Nat.lt_or_ge j (i + 1) with hlt | hge
              · exfalso
                by_cases e : j = i
                · subst e; omega
                · have := asc (j + 1) (i + 1) (by omega) hi; omega
              · exact hge
            rw [paceV_succ hj hd1 hd2]
            have b := intp_bd (hd2 j (by omega)) hd1 (d j (j + 1) (by omega) hj)
            have := d (i + 1) j hij (by omega)
            omega

def paV (n : Nat) (xs : Nat → Int) (wnd : Int) : Int × Int := if isC n xs then (if inB wnd 0 1000 then (paceV n xs wnd, 0) else (0, 2)) else (0, 1)
/-- The time of a curve. -/
def cuV (n : Nat) (xs : Nat → Int) (wnd d : Int) : Int := -((-(paceV n xs wnd * d)) / 10000)
theorem cuV_other (n : Nat) (xs : Nat → Int) (wnd d : Int) : (paceV n xs wnd * d + 9999) / 10000 = cuV n xs wnd d := by unfold cuV; omega
def cvV (n : Nat) (xs : Nat → Int) (wnd d : Int) : Int × Int := if isC n xs then (if inB wnd 0 1000 && inB d 1 10000000 then (cuV n xs wnd d, 0) else (0, 2)) else (0, 1)
end Go.Proofs.Ytjbioohpkmcmmaa
