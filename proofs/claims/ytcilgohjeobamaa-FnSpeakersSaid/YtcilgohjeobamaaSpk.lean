/- Decisive speakers, plain: the list that is sorted and compacted is the list in ascending order. Sorting and compacting a row of the call's own. -/
import Derived.Test.YtcilgohjeobamaaSrt
import Derived.Test.YtcilgohjeobamaaDem6
import Derived.Sort.OwnSortedInts
set_option linter.unusedSimpArgs false
set_option linter.unusedVariables false
namespace Go.Proofs.Ytcilgohjeobamaa
open Go.RowKit Go.Shelf

/-- Two strictly ascending lists with the same members are one. -/
theorem strict_ext : ∀ (l m : List Int), l.Pairwise (· < ·) → m.Pairwise (· < ·) → (∀ x, x ∈ l ↔ x ∈ m) → l = m
  | [], [], _, _, _ => rfl
  | [], b :: m, _, _, h => by have := (h b).2 (List.mem_cons_self ..); cases this
  | a :: l, [], _, _, h => by have := (h a).1 (List.mem_cons_self ..); cases this
  | a :: l, b :: m, hl, hm, h => by
    rw [List.pairwise_cons] at hl hm
    have hab : a = b := by
      have h1 := (h a).1 (List.mem_cons_self ..)
      have h2 := (h b).2 (List.mem_cons_self ..)
      rcases List.mem_cons.1 h1 with e | e
      · exact e
      · rcases List.mem_cons.1 h2 with e' | e'
        · exact e'.symm
        · have := hm.1 a e
          have := hl.1 b e'
          omega
    subst hab
    have := strict_ext l m hl.2 hm.2 (fun x => by
      constructor
      · intro hx
        have hne := hl.1 x hx
        rcases List.mem_cons.1 ((h x).1 (List.mem_cons_of_mem _ hx)) with e | e
        · omega
        · exact e
      · intro hx
        have hne := hm.1 x hx
        rcases List.mem_cons.1 ((h x).2 (List.mem_cons_of_mem _ hx)) with e | e
        · omega
        · exact e)
    rw [this]
theorem compactUpTo_sorted (d : Array Int) (hs : ∀ i j, i ≤ j → j < d.size → d[i]! ≤ d[j]!) : ∀ m, m ≤ d.size →
    (Go.Lib.compactUpTo d m).Pairwise (· < ·) ∧ (∀ x, x ∈ Go.Lib.compactUpTo d m → ∃ j, j < m ∧ x = d[j]!) ∧ ∀ j, j < m → d[j]! ∈ Go.Lib.compactUpTo d m := by
  intro m
  induction m with
  | zero => intro _; simp [Go.Lib.compactUpTo]
  | succ m ih =>
    intro hm
    obtain ⟨h1, h2, h3⟩ := ih (by omega)
    rw [Go.Lib.compactUpTo_succ]
    by_cases hk : Go.Lib.keeps d m = true
    · rw [if_pos hk]
      refine ⟨?_, ?_, ?_⟩
      · rw [List.pairwise_append]
        refine ⟨h1, List.pairwise_singleton _ _, fun a ha b hb => ?_⟩
        rw [List.mem_singleton] at hb
        subst hb
        obtain ⟨j, hj, rfl⟩ := h2 a ha
        have h4 : d[j]! ≤ d[m - 1]! := hs j (m - 1) (by omega) (by omega)
        have h5 : d[m - 1]! ≤ d[m]! := hs (m - 1) m (by omega) (by omega)
        have h6 : d[m]! ≠ d[m - 1]! := by
          unfold Go.Lib.keeps at hk
          simp only [decide_eq_true_eq] at hk
          rcases hk with e | e
          · omega
          · exact e
        omega
      · intro x hx
        rcases List.mem_append.1 hx with hx | hx
        · obtain ⟨j, hj, e⟩ := h2 x hx
          exact ⟨j, by omega, e⟩
        · rw [List.mem_singleton] at hx
          exact ⟨m, by omega, hx⟩
      · intro j hj
        rcases Nat.lt_or_ge j m with h | h
        · exact List.mem_append_left _ (h3 j h)
        · obtain rfl : j = m := by omega
          exact List.mem_append_right _ (List.mem_singleton.2 rfl)
    · rw [if_neg hk, List.append_nil]
      have hm0 : ¬ (m = 0 ∨ d[m]! ≠ d[m - 1]!) := by
        intro h
        exact hk (by unfold Go.Lib.keeps; simpa using h)
      have hm1 : 0 < m := by
        rcases Nat.eq_zero_or_pos m with h | h
        · exact absurd (.inl h) hm0
        · exact h
      have he : d[m]! = d[m - 1]! := Classical.byContradiction fun h => hm0 (.inr h)
      refine ⟨h1, fun x hx => ?_, fun j hj => ?_⟩
      · obtain ⟨j, hj, e⟩ := h2 x hx
        exact ⟨j, by omega, e⟩
      · rcases Nat.lt_or_ge j m with h | h
        · exact h3 j h
        · obtain rfl : j = m := by omega
          rw [he]
          exact h3 (j - 1) (by omega)
theorem compact_sort (zs : List Int) : (Go.Lib.compact (zs.mergeSort fun x y => decide (x ≤ y))).Pairwise (· < ·) ∧ ∀ x, x ∈ Go.Lib.compact (zs.mergeSort fun x y => decide (x ≤ y)) ↔ x ∈ zs := by
  have hp := List.mergeSort_perm zs (fun x y => decide (x ≤ y))
  have hs : (zs.mergeSort fun x y => decide (x ≤ y)).Pairwise fun x y => decide (x ≤ y) = true :=
    List.pairwise_mergeSort (fun a b c h1 h2 => by simp at *; omega) (fun a b => by simp; omega) zs
  generalize (zs.mergeSort fun x y => decide (x ≤ y)) = ms at hp hs
  have hget : ∀ j, j < ms.length → ms.toArray[j]! = ms[j]! := fun j hj => by simp
  have hmon : ∀ i j, i ≤ j → j < ms.toArray.size → ms.toArray[i]! ≤ ms.toArray[j]! := by
    intro i j hij hj
    have hj' : j < ms.length := by simpa using hj
    rcases Nat.lt_or_ge i j with h | h
    · have := List.pairwise_iff_getElem.1 hs i j (by omega) hj' h
      simp only [decide_eq_true_eq] at this
      simpa [hj', show i < ms.length by omega] using this
    · obtain rfl : i = j := by omega
      omega
  obtain ⟨h1, h2, h3⟩ := compactUpTo_sorted ms.toArray hmon ms.length (by simp)
  refine ⟨h1, fun x => ⟨fun hx => ?_, fun hx => ?_⟩⟩
  · obtain ⟨j, hj, rfl⟩ := h2 x hx
    have : ms.toArray[j]! = ms[j] := by simp [hj]
    rw [this]
    exact hp.mem_iff.1 (List.getElem_mem _)
  · obtain ⟨j, hj, e⟩ := List.getElem_of_mem (hp.mem_iff.2 hx)
    have : ms.toArray[j]! = ms[j] := by simp [hj]
    have h4 := h3 j hj
    rw [this, e] at h4
    exact h4
/-- The outcome without a speaker. -/
def outW (n : Nat) (xs : Nat → Int) (nd : Nat) (fl : Nat → Nat) (fx : Nat → Nat → Int) (o : Nat → Int) (wo : Int) : Int := (decV (factV xs wo n) nd fl fx o).1
/-- The speakers of the first k statements without whom the outcome is another one. -/
def cndL (W : Int → Int) (xs : Nat → Int) : Nat → List Int
  | 0 => []
  | k + 1 => if W (xs (k * 3)) ≠ W (-1) then cndL W xs k ++ [xs (k * 3)] else cndL W xs k
theorem cndL_mem {W : Int → Int} {xs : Nat → Int} {s : Int} : ∀ k, s ∈ cndL W xs k ↔ ∃ i, i < k ∧ xs (i * 3) = s ∧ W s ≠ W (-1) := by
  intro k
  induction k with
  | zero => simp [cndL]
  | succ k ih =>
    unfold cndL
    by_cases h : W (xs (k * 3)) ≠ W (-1)
    · rw [if_pos h, List.mem_append, ih, List.mem_singleton]
      constructor
      · rintro (⟨i, hi, h1, h2⟩ | rfl)
        · exact ⟨i, by omega, h1, h2⟩
        · exact ⟨k, by omega, rfl, h⟩
      · rintro ⟨i, hi, h1, h2⟩
        rcases Nat.lt_or_ge i k with h3 | h3
        · exact .inl ⟨i, h3, h1, h2⟩
        · obtain rfl : i = k := by omega
          exact .inr h1.symm
    · rw [if_neg h, ih]
      constructor
      · rintro ⟨i, hi, h1, h2⟩
        exact ⟨i, by omega, h1, h2⟩
      · rintro ⟨i, hi, h1, h2⟩
        rcases Nat.lt_or_ge i k with h3 | h3
        · exact ⟨i, h3, h1, h2⟩
        · obtain rfl : i = k := by omega
          rw [h1] at h
          exact absurd h2 h
/-- The first k speakers (in ascending order) without whom the outcome is another one. -/
def ascL (W : Int → Int) : Nat → List Int
  | 0 => []
  | k + 1 => if W k ≠ W (-1) then ascL W k ++ [(k : Int)] else ascL W k
theorem ascL_mem {W : Int → Int} {s : Int} : ∀ k, s ∈ ascL W k ↔ 0 ≤ s ∧ s < k ∧ W s ≠ W (-1) := by
  intro k
  induction k with
  | zero => simp [ascL]; omega
  | succ k ih =>
    unfold ascL
    by_cases h : W k ≠ W (-1)
    · rw [if_pos h, List.mem_append, ih, List.mem_singleton]
      constructor
      · rintro (⟨h1, h2, h3⟩ | rfl)
        · exact ⟨h1, by omega, h3⟩
        · exact ⟨by omega, by omega, h⟩
      · rintro ⟨h1, h2, h3⟩
        by_cases e : s = k
        · exact .inr e
        · exact .inl ⟨h1, by omega, h3⟩
    · rw [if_neg h, ih]
      constructor
      · rintro ⟨h1, h2, h3⟩
        exact ⟨h1, by omega, h3⟩
      · rintro ⟨h1, h2, h3⟩
        by_cases e : s = k
        · rw [e] at h3; exact absurd h3 h
        · exact ⟨h1, by omega, h3⟩
theorem ascL_strict (W : Int → Int) : ∀ k, (ascL W k).Pairwise (· < ·) := by
  intro k
  induction k with
  | zero => exact List.Pairwise.nil
  | succ k ih =>
    unfold ascL
    by_cases h : W k ≠ W (-1)
    · rw [if_pos h, List.pairwise_append]
      refine ⟨ih, List.pairwise_singleton _ _, fun a ha b hb => ?_⟩
      rw [List.mem_singleton] at hb
      subst hb
      exact ((ascL_mem k).1 ha).2.1
    · rw [if_neg h]; exact ih
theorem ascL_len (W : Int → Int) : ∀ k, (ascL W k).length ≤ k := by
  intro k
  induction k with
  | zero => simp [ascL]
  | succ k ih => unfold ascL; split <;> (try simp) <;> omega
theorem cndL_len (W : Int → Int) (xs : Nat → Int) : ∀ k, (cndL W xs k).length ≤ k := by
  intro k
  induction k with
  | zero => simp [cndL]
  | succ k ih => unfold cndL; split <;> (try simp) <;> omega
theorem sumF_no {xs : Nat → Int} {wo : Int} {f : Nat} : ∀ k, (∀ i, i < k → xs (i * 3) ≠ wo ∧ xs (i * 3) ≠ -1) → sumF xs wo k f = sumF xs (-1) k f := by
  intro k
  induction k with
  | zero => intro _; rfl
  | succ k ih =>
    intro h
    obtain ⟨h1, h2⟩ := h k (by omega)
    unfold sumF
    rw [ih (fun i hi => h i (by omega))]
    by_cases e : xs (k * 3 + 1) = f
    · rw [if_pos ⟨h1, e⟩, if_pos ⟨h2, e⟩]
    · rw [if_neg (fun q => e q.2), if_neg (fun q => e q.2)]
/-- The law: both ways give one list. -/
theorem spk_law {pb pa : Int} {n : Nat} {xs : Nat → Int} {nd : Nat} {fl : Nat → Nat} {fx : Nat → Nat → Int} {o : Nat → Int} (hp : ptB pb pa = true) (hs : stB pb pa n xs = true) :
    Go.Lib.compact ((cndL (outW n xs nd fl fx o) xs n).mergeSort fun x y => decide (x ≤ y)) = ascL (outW n xs nd fl fx o) 200 := by
  obtain ⟨h1, h2⟩ := compact_sort (cndL (outW n xs nd fl fx o) xs n)
  have hsp : ∀ i, i < n → 0 ≤ xs (i * 3) ∧ xs (i * 3) < 200 := by
    intro i hi
    have := (stB_t hs).2 i hi
    unfold ptB inB at hp
    unfold okT inB at this
    simp only [Bool.and_eq_true, Bool.or_eq_true, beq_iff_eq, decide_eq_true_eq] at this hp
    omega
  refine strict_ext _ _ h1 (ascL_strict _ _) fun s => ?_
  rw [h2, cndL_mem, ascL_mem]
  constructor
  · rintro ⟨i, hi, rfl, h3⟩
    obtain ⟨h4, h5⟩ := hsp i hi
    exact ⟨h4, by omega, h3⟩
  · rintro ⟨h3, h4, h5⟩
    refine Classical.byContradiction fun hno => h5 ?_
    have hall : ∀ i, i < n → xs (i * 3) ≠ s ∧ xs (i * 3) ≠ -1 := fun i hi => ⟨fun e => hno ⟨i, hi, e, h5⟩, by have := hsp i hi; omega⟩
    have hf : factV xs s n = factV xs (-1) n := by
      funext f
      unfold factV
      rw [sumF_no n hall]
    unfold outW
    rw [hf]

theorem sortI_own {w : World} {base n c : Nat} {A : Option Addr} {zs : List Int} (h : w.ownsRow base 2 1 (.slice A n c) n (zs.map (Value.int .i64))) (hn : n ≤ 100000) :
    Calls Try.prog 71 #[.slice A n c] w fun e w' => e = .returned (.tuple #[]) ∧ w'.ownsRow base 2 1 (.slice A n c) n ((zs.mergeSort fun x y => decide (x ≤ y)).map (Value.int .i64)) ∧ w.grownBy w' (Value.slice A n c).ownBlock := by
  have hl := (cells_of h).1
  rw [Nat.mul_one] at hl
  rcases h.2 with ⟨hv, h0⟩ | ⟨g, cap, cur, hv, hb, hW, hnc, hcm, hcs, ht⟩
  · subst h0
    obtain rfl : zs = [] := List.length_eq_zero_iff.1 hl
    refine (Try.slices_Sort_int_none A c w).mono ?_
    rintro e w' ⟨rfl, rfl⟩
    exact ⟨rfl, by simpa using h, only_refl _ _⟩
  · injection hv with hA _ hc
    subst hA
    subst hc
    have hn' : zs.length ≤ 100000 := by omega
    subst hl
    refine (Try.slices_Sort_int g 0 c zs w (holds_of_blockI hW (by simpa using ht)) (Whole.lt hW) (by omega)).mono ?_
    rintro e w' ⟨rfl, q, os, rfl⟩
    exact ⟨rfl, ownsRow_sortedI (by simp) hb hW hnc hcm hcs, grownBy_sortedI _⟩
theorem compactI_own {w : World} {base n c : Nat} {A : Option Addr} {zs : List Int} (h : w.ownsRow base 2 1 (.slice A n c) n (zs.map (Value.int .i64))) (hn : n ≤ 100000) :
    Calls Try.prog 72 #[.slice A n c] w fun e w' => e = .returned (.slice A (Go.Lib.compact zs).length c) ∧ w'.ownsRow base 2 1 (.slice A (Go.Lib.compact zs).length c) (Go.Lib.compact zs).length ((Go.Lib.compact zs).map (Value.int .i64)) ∧ w.grownBy w' (Value.slice A n c).ownBlock := by
  have hl := (cells_of h).1
  rw [Nat.mul_one] at hl
  rcases h.2 with ⟨hv, h0⟩ | ⟨g, cap, cur, hv, hb, hW, hnc, hcm, hcs, ht⟩
  · subst h0
    obtain rfl : zs = [] := List.length_eq_zero_iff.1 hl
    refine (Try.slices_Compact_int_empty A c w).mono ?_
    rintro e w' ⟨rfl, rfl⟩
    exact ⟨rfl, h, only_refl _ _⟩
  · injection hv with hA _ hc
    subst hA
    subst hc
    have hn' : zs.length ≤ 100000 := by omega
    subst hl
    refine (Try.slices_Compact_int g 0 c zs w (holds_of_blockI hW (by simpa using ht)) (by omega) hnc).mono ?_
    rintro e w' ⟨rfl, q, rfl⟩
    have hle : (Go.Lib.compact zs).length ≤ zs.length := by
      unfold Go.Lib.compact Go.Lib.compactUpTo
      rw [List.length_map]
      exact Nat.le_trans (List.length_filter_le _ _) (by simp)
    have hlen : (Go.Lib.compact zs ++ List.replicate (zs.length - (Go.Lib.compact zs).length) 0).length = zs.length := by simp; omega
    have h1 := grownBy_sortedI (w := w) (g := g) (n := q) (os := #[]) (Go.Lib.compact zs ++ List.replicate (zs.length - (Go.Lib.compact zs).length) 0).toArray
    have h2 := ownsRow_sortedI (w := w) (base := base) (g := g) (cap := c) (n := q) (os := #[]) (ss := zs) (ts := Go.Lib.compact zs ++ List.replicate (zs.length - (Go.Lib.compact zs).length) 0) hlen hb hW hnc hcm hcs
    have hg : ∀ W : World, Go.Sort.grow W #[] = W := fun W => by unfold Go.Sort.grow; simp
    rw [hg] at h1 h2
    refine ⟨rfl, ?_, h1⟩
    obtain ⟨g', cap', cur', hv', hb', hW', hnc', hcm', hcs', ht'⟩ : ∃ g' cap' cur', Value.slice (some ⟨g, 0, none⟩) zs.length c = .slice (some ⟨g', 0, none⟩) zs.length cap' ∧ base ≤ g' ∧ Whole (Go.Sort.putRow (Value.int .i64) (Go.Sort.ahead w q) g 0 (Go.Lib.compact zs ++ List.replicate (zs.length - (Go.Lib.compact zs).length) 0).toArray) g' 2 cur' ∧ zs.length ≤ cap' ∧ cap' ≤ maxLen ∧ cur'.size = cap' * 1 ∧ cur'.toList.take (zs.length * 1) = (Go.Lib.compact zs ++ List.replicate (zs.length - (Go.Lib.compact zs).length) 0).map (Value.int .i64) := by
      rcases h2.2 with ⟨hv2, _⟩ | h3
      · cases hv2
      · exact h3
    injection hv' with hv1 _ hv3
    injection hv1 with hv1
    injection hv1 with hv1
    subst hv1
    subst hv3
    refine ⟨by simp, .inr ⟨g, c, cur', rfl, hb, hW', by omega, hcm, hcs', ?_⟩⟩
    have h5 := congrArg (List.take ((Go.Lib.compact zs).length * 1)) ht'
    rw [List.take_take, List.map_append, List.take_left' (by simp)] at h5
    rw [← h5]
    congr 1
    omega
end Go.Proofs.Ytcilgohjeobamaa
