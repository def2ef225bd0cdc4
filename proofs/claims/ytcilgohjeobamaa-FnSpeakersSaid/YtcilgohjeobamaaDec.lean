/- The law on decisions, plain. -/
import Derived.Test.YtcilgohjeobamaaDD2
import Derived.Test.YtcilgohjeobamaaDem7
set_option linter.unusedSimpArgs false
set_option linter.unusedVariables false
namespace Go.Proofs.Ytcilgohjeobamaa
open Go.RowKit

theorem metE_congr {F F' : Nat → Int} {f : Int} (h : ∀ j, j < 8 → F j = F' j) (hf : (1 ≤ f ∧ f ≤ 8) ∨ (-8 ≤ f ∧ f ≤ -1)) : metE F f = metE F' f := by
  unfold metE
  split
  · rw [h _ (by omega)]
  · split
    · rw [h _ (by omega)]
    · rfl
theorem metB_congr {F F' : Nat → Int} {n : Nat} {xs : Nat → Int} (h : ∀ j, j < 8 → F j = F' j) (hf : fokB n xs = true) : metB F n xs = metB F' n xs := by
  unfold metB
  have : ∀ i ∈ List.range n, metE F (xs i) = metE F' (xs i) := fun i hi => metE_congr h (fokB_rng hf (List.mem_range.1 hi))
  cases h2 : (List.range n).all (fun i => metE F' (xs i)) with
  | true => rw [List.all_eq_true] at h2 ⊢; intro i hi; rw [this i hi]; exact h2 i hi
  | false =>
    rw [List.all_eq_false] at h2 ⊢
    obtain ⟨i, hi, h3⟩ := h2
    exact ⟨i, hi, by rw [this i hi]; exact h3⟩
theorem heV_0 {pb pa : Int} {n : Nat} {xs : Nat → Int} {nd : Nat} {fl : Nat → Nat} {fx : Nat → Nat → Int} {o : Nat → Int} {vo va : Int} (h : heV pb pa n xs nd fl fx o = (vo, va, 0)) :
    ptB pb pa = true ∧ stB pb pa n xs = true ∧ dmsB nd fl fx o = true ∧ decV (factV xs (-1) n) nd fl fx o = (vo, va) := by
  unfold heV at h
  split at h
  · rename_i h0
    obtain ⟨h1, h2⟩ := codD_0 h0
    injection h with h3 h4
    injection h4 with h4 _
    refine ⟨?_, h1, h2, by rw [← h3, ← h4]⟩
    unfold codD at h0
    split at h0
    · assumption
    · omega
  · rename_i h0
    injection h with _ h4
    injection h4 with _ h5
    exact absurd h5 h0
theorem facts_get {pb pa : Int} {n : Nat} {xs : Nat → Int} (hp : ptB pb pa = true) (hs : stB pb pa n xs = true) : codF pb pa n xs = 0 ∧ facK pb pa n xs = 8 ∧ (∀ j, j < 8 → (facL pb pa n xs).getD j 0 = factV xs (-1) n j) ∧ allF 8 (fun j => (facL pb pa n xs).getD j 0) = true := by
  have h0 : codF pb pa n xs = 0 := by unfold codF; rw [if_pos hp, if_pos hs]
  have hg : ∀ j, j < 8 → (facL pb pa n xs).getD j 0 = factV xs (-1) n j := fun j hj => by
    unfold facL
    rw [if_pos h0, List.getD_eq_getElem?_getD, List.getElem?_map, List.getElem?_range hj]
    rfl
  refine ⟨h0, by unfold facK; rw [if_pos h0], hg, allF_all fun j hj => ?_⟩
  rw [hg j hj]
  unfold factV inB
  have := sgnV_bd (sumF xs (-1) n j)
  simp
  exact this
/-- The law. -/
theorem dec_law {pb pa : Int} {n : Nat} {xs : Nat → Int} {nd : Nat} {fl : Nat → Nat} {fx : Nat → Nat → Int} {o : Nat → Int} {vo va : Int} (h : heV pb pa n xs nd fl fx o = (vo, va, 0)) :
    0 ≤ vo ∧ vo ≤ 3 ∧ (∀ i, i < nd → ∃ q : Bool, miV (fun j => (facL pb pa n xs).getD j 0) 8 (o i) (fl i) (fx i) = q ∧ (q = true → 0 ≤ va ∧ va ≤ i) ∧ ((i : Int) = va → q = true)) := by
  obtain ⟨hp, hs, hd, hv⟩ := heV_0 h
  obtain ⟨h0, hK, hg, hall⟩ := facts_get hp hs
  obtain ⟨n12, hok⟩ := dmsB_t hd
  have hmi : ∀ i, i < nd → miV (fun j => (facL pb pa n xs).getD j 0) 8 (o i) (fl i) (fx i) = metB (factV xs (-1) n) (fl i) (fx i) := fun i hi => by
    unfold miV
    rw [hall, hok i hi, metB_congr (F := fun j => (facL pb pa n xs).getD j 0) (F' := factV xs (-1) n) hg (dmB_f (hok i hi))]
    simp
  unfold decV at hv
  cases hdI : decI (factV xs (-1) n) fl fx nd with
  | none =>
    rw [hdI] at hv
    injection hv with hv1 hv2
    subst hv1
    subst hv2
    refine ⟨by omega, by omega, fun i hi => ⟨_, rfl, fun hq => ?_, fun e => by omega⟩⟩
    rw [hmi i hi, decI_none _ hdI i hi] at hq
    cases hq
  | some j =>
    rw [hdI] at hv
    injection hv with hv1 hv2
    subst hv1
    subst hv2
    obtain ⟨hj, hm, hno⟩ := decI_lt _ _ hdI
    have ho := hok j hj
    unfold dmB inB at ho
    simp only [Bool.and_eq_true, decide_eq_true_eq] at ho
    refine ⟨ho.1.1, ho.1.2, fun i hi => ⟨_, rfl, fun hq => ?_, fun e => ?_⟩⟩
    · rw [hmi i hi] at hq
      rcases Nat.lt_or_ge i j with h1 | h1
      · rw [hno i h1] at hq; cases hq
      · omega
    · obtain rfl : i = j := by omega
      rw [hmi i hi]
      exact hm
theorem pen_by {pb pa o : Int} (hp : ptB pb pa = true) (h0 : 0 ≤ o) (h1 : o ≤ 3) : (penL pb pa o).contains pb = ((o == 2) || (o == 3)) ∧ (penL pb pa o).contains pa = ((o == 1) || (o == 3)) := by
  have hne : pb ≠ pa := by
    unfold ptB at hp
    simp at hp
    exact hp.2
  have hne1 : (pa == pb) = false := by rw [beq_eq_false_iff_ne]; exact fun e => hne e.symm
  have hne2 : (pb == pa) = false := by rw [beq_eq_false_iff_ne]; exact hne
  obtain rfl | rfl | rfl | rfl : o = 0 ∨ o = 1 ∨ o = 2 ∨ o = 3 := by omega
  · exact ⟨rfl, rfl⟩
  · simp [penL, hne]
  · have hne3 : ¬ pa = pb := fun e => hne e.symm
    simp [penL, hne3]
  · simp [penL]
    omega
end Go.Proofs.Ytcilgohjeobamaa
