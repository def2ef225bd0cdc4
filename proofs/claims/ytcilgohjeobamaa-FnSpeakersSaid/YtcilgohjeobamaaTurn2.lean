/- The law on facts, plain: statements turned and in another order. -/
import Derived.Test.YtcilgohjeobamaaTurn
set_option linter.unusedSimpArgs false
set_option linter.unusedVariables false
namespace Go.Proofs.Ytcilgohjeobamaa
open Go.RowKit

def pT (n b i : Nat) : Nat := (i + b) % n
theorem pT_perm (n b : Nat) : ((List.range n).map (pT n b)).Perm (List.range n) := by
  rcases Nat.eq_zero_or_pos n with h | h
  · subst h; simp
  have hb : b % n < n := Nat.mod_lt _ h
  have he : ∀ i, pT n b i = (i + b % n) % n := fun i => by unfold pT; rw [Nat.add_mod_mod]
  generalize b % n = c at hb he
  obtain ⟨d, rfl⟩ : ∃ d, n = d + c := ⟨n - c, by omega⟩
  have h1 : (List.range (d + c)).map (pT (d + c) b) = (List.range d).map (c + ·) ++ List.range c := by
    rw [List.range_add, List.map_append, List.map_map]
    congr 1
    · apply List.map_congr_left
      intro i hi
      rw [List.mem_range] at hi
      rw [he, Nat.mod_eq_of_lt (by omega)]
      omega
    · have h2 : ∀ i ∈ List.range c, (pT (d + c) b ∘ fun x => d + x) i = id i := by
        intro i hi
        rw [List.mem_range] at hi
        show pT (d + c) b (d + i) = i
        rw [he, show d + i + c = i + (d + c) by omega, Nat.add_mod_right, Nat.mod_eq_of_lt (by omega)]
      rw [List.map_congr_left h2, List.map_id]
  rw [h1, Nat.add_comm d c, List.range_add]
  exact List.perm_append_comm
theorem pT_inj {n b i j : Nat} (hi : i < n) (hj : j < n) (hij : i ≠ j) : pT n b i ≠ pT n b j := by
  have h : ((List.range n).map (pT n b)).Nodup := (pT_perm n b).nodup_iff.2 List.nodup_range
  have h1 := List.pairwise_iff_getElem.1 h
  rcases Nat.lt_or_gt_of_ne hij with h2 | h2
  · have := h1 i j (by simpa using hi) (by simpa using hj) h2
    simpa using this
  · have := h1 j i (by simpa using hj) (by simpa using hi) h2
    simpa using fun e => this (by simpa using e.symm)
theorem dupV_ex {xs : Nat → Int} {sp f : Int} : ∀ k, dupV xs sp f k = true → ∃ j, j < k ∧ xs (j * 3) = sp ∧ xs (j * 3 + 1) = f := by
  intro k
  induction k with
  | zero => intro h; cases h
  | succ k ih =>
    intro h
    unfold dupV at h
    rw [Bool.or_eq_true] at h
    rcases h with h | h
    · obtain ⟨j, h1, h2⟩ := ih h
      exact ⟨j, by omega, h2⟩
    · simp at h
      exact ⟨k, by omega, h⟩
/-- The statements turned, in the order p: the first k. -/
def tnL (xs : Nat → Int) (p : Nat → Nat) : Nat → List Int
  | 0 => []
  | k + 1 => tnL xs p k ++ [xs (p k * 3), xs (p k * 3 + 1), -xs (p k * 3 + 2)]
theorem tnL_len (xs : Nat → Int) (p : Nat → Nat) : ∀ k, (tnL xs p k).length = k * 3 := by
  intro k
  induction k with
  | zero => rfl
  | succ k ih => unfold tnL; simp [ih]; omega
theorem tnL_get (xs : Nat → Int) (p : Nat → Nat) : ∀ k i, i < k → xsOf (tnL xs p k) (i * 3) = xs (p i * 3) ∧ xsOf (tnL xs p k) (i * 3 + 1) = xs (p i * 3 + 1) ∧ xsOf (tnL xs p k) (i * 3 + 2) = -xs (p i * 3 + 2) := by
  intro k
  induction k with
  | zero => intro i h; omega
  | succ k ih =>
    intro i h
    have hl := tnL_len xs p k
    unfold xsOf tnL
    simp only [List.getD_eq_getElem?_getD]
    rcases Nat.lt_or_ge i k with h1 | h1
    · rw [List.getElem?_append_left (by omega), List.getElem?_append_left (by omega), List.getElem?_append_left (by omega)]
      have := ih i h1
      unfold xsOf at this
      simpa only [List.getD_eq_getElem?_getD] using this
    · obtain rfl : i = k := by omega
      rw [List.getElem?_append_right (by omega), List.getElem?_append_right (by omega), List.getElem?_append_right (by omega), hl]
      simp
theorem turn_ok {pb pa : Int} {n b : Nat} {xs ys : Nat → Int} (hs : stB pb pa n xs = true)
    (hy : ∀ i, i < n → ys (i * 3) = xs (pT n b i * 3) ∧ ys (i * 3 + 1) = xs (pT n b i * 3 + 1) ∧ ys (i * 3 + 2) = -xs (pT n b i * 3 + 2)) : stB pb pa n ys = true := by
  obtain ⟨h60, hok⟩ := stB_t hs
  rw [stB_all (fun i hi => ?_)]
  · simpa using h60
  · obtain ⟨y0, y1, y2⟩ := hy i hi
    have hp : pT n b i < n := Nat.mod_lt _ (by omega)
    have h1 := hok _ hp
    unfold okT at h1 ⊢
    rw [y0, y1, y2]
    simp only [Bool.and_eq_true] at h1 ⊢
    refine ⟨⟨h1.1.1, ?_⟩, ?_⟩
    · have := h1.1.2
      rw [Bool.or_eq_true, beq_iff_eq, beq_iff_eq] at this ⊢
      omega
    · cases hd : dupV ys (xs (pT n b i * 3)) (xs (pT n b i * 3 + 1)) i with
      | false => rfl
      | true =>
        exfalso
        obtain ⟨j, hj, e1, e2⟩ := dupV_ex _ hd
        obtain ⟨z0, z1, _⟩ := hy j (by omega)
        rw [z0] at e1
        rw [z1] at e2
        have hq : pT n b j < n := Nat.mod_lt _ (by omega)
        have hne := pT_inj (b := b) (show j < n by omega) hi (by omega)
        generalize pT n b i = p at *
        generalize pT n b j = q at *
        rcases Nat.lt_or_gt_of_ne hne with h2 | h2
        · have := dupV_of (xs := xs) e1 e2 p h2
          have h3 := h1.2
          rw [this] at h3
          cases h3
        · have h3 := hok q hq
          unfold okT at h3
          simp only [Bool.and_eq_true] at h3
          have := dupV_of (xs := xs) e1.symm e2.symm q h2
          have h3 := h3.2
          rw [this] at h3
          cases h3
theorem sgnV_bd (n : Int) : -1 ≤ sgnV n ∧ sgnV n ≤ 1 := by unfold sgnV; split <;> (try split) <;> omega
/-- The law. -/
theorem turn_law {pb pa : Int} {n b : Nat} {xs : Nat → Int} (h : codF pb pa n xs = 0) :
    codF pb pa n (xsOf (tnL xs (pT n b) n)) = 0 ∧ (facL pb pa n xs).length = 8 ∧ (facL pb pa n (xsOf (tnL xs (pT n b) n))).length = 8 ∧
    ∀ i, i < 8 → (facL pb pa n (xsOf (tnL xs (pT n b) n))).getD i 0 = -(facL pb pa n xs).getD i 0 ∧ -1 ≤ (facL pb pa n xs).getD i 0 ∧ (facL pb pa n xs).getD i 0 ≤ 1 := by
  have hy := fun i hi => tnL_get xs (pT n b) n i hi
  generalize xsOf (tnL xs (pT n b) n) = ys at hy ⊢
  have hp : ptB pb pa = true := by
    unfold codF at h
    cases hp : ptB pb pa with
    | true => rfl
    | false => rw [hp, if_neg (by simp)] at h; omega
  have hs : stB pb pa n xs = true := by
    unfold codF at h
    rw [if_pos hp] at h
    cases hs : stB pb pa n xs with
    | true => rfl
    | false => rw [hs, if_neg (by simp)] at h; omega
  have h2 : codF pb pa n ys = 0 := by
    unfold codF
    rw [if_pos hp, if_pos (turn_ok hs hy)]
  refine ⟨h2, ?_, ?_, ?_⟩
  · unfold facL; rw [if_pos h]; simp
  · unfold facL; rw [if_pos h2]; simp
  · intro i hi
    have e : ∀ (v : Nat → Int), ((List.range 8).map v).getD i 0 = v i := fun v => by
      rw [List.getD_eq_getElem?_getD, List.getElem?_map, List.getElem?_range hi]; rfl
    unfold facL
    rw [if_pos h, if_pos h2, e, e]
    unfold factV
    have hpl : ∀ i, i < n → ((List.range n).map (pT n b)).getD i 0 = pT n b i := fun i hi => by
      rw [List.getD_eq_getElem?_getD, List.getElem?_map, List.getElem?_range hi]; rfl
    rw [fact_turn (xs := xs) (ys := ys) _ (pT_perm n b) (fun i hi => by rw [hpl i hi]; exact hy i hi) i, sgnV_neg]
    exact ⟨rfl, sgnV_bd _⟩
theorem turn_says {pb pa : Int} {n p : Nat} {xs : Nat → Int} (h : codF pb pa n xs = 0) (hp : p < n) : xs (p * 3 + 2) = 1 ∨ xs (p * 3 + 2) = -1 := by
  have hs : stB pb pa n xs = true := by
    unfold codF at h
    cases hs : stB pb pa n xs with
    | true => rfl
    | false => rw [hs] at h; revert h; split <;> simp
  have h1 := (stB_t hs).2 p hp
  unfold okT at h1
  simp only [Bool.and_eq_true, Bool.or_eq_true, beq_iff_eq] at h1
  exact h1.1.2
theorem turnL_get (n b : Nat) (i : Nat) (hi : i < n) : (turnL n b n).getD i 0 = (pT n b i : Int) ∧ pT n b i < n := by
  refine ⟨?_, Nat.mod_lt _ (by omega)⟩
  unfold turnL pT
  rw [List.getD_eq_getElem?_getD, List.getElem?_map, List.getElem?_range hi]
  simp
def DrewL (pb pa : Int) (n : Nat) (xs : Nat → Int) (w w' : World) (e : Ending) : Prop :=
  ∃ (A : Option Addr) (c : Nat), e = .returned (.tuple #[.int .i64 pb, .int .i64 pa, .slice A n c]) ∧ n ≤ 13 ∧ n ≤ c ∧ c ≤ maxLen ∧ Ints w' w'.heap.size A (n * 3) xs ∧ Below w.heap.size w w'
theorem drawFindFacts_ex (m : Nat) (bs : Nat → Int) (hm : m ≤ 100000) (hb : ∀ j, 0 ≤ bs j ∧ bs j ≤ 255) : ∃ (pb pa : Int) (n : Nat) (xs : Nat → Int),
    ∀ (A : Option Addr) (c : Nat) (w : World), Nums .u8 w w.heap.size A m bs → Calls Try.prog 32 #[.slice A m c] w fun e w' => DrewL pb pa n xs w w' e := by
  obtain ⟨P, hP⟩ : ∃ P, drawF m bs (0, fromV bs (min m 64)) = P := ⟨_, rfl⟩
  obtain ⟨pb, pa, zs, s0⟩ := P
  obtain ⟨n0, hn0⟩ : ∃ n0, zs.length / 3 = n0 := ⟨_, rfl⟩
  refine ⟨pb, pa, n0, xsOf zs, ?_⟩
  intro A c w hc
  go_enter Try.func32, Try.ntmps32
  go_wp2_with fail
  refine (from_any _ _ _ _ _ _ hc (Nat.le_refl _) hm hb).mono ?_
  rintro e w1 ⟨rfl, hS1, hb1⟩
  have hz1 := hS1.lt
  have hz1' := hb1.size
  go_wp2_with fail
  refine (l18Draw_any _ _ _ _ _ _ hS1).mono ?_
  rw [hP]
  rintro e w2 ⟨v, n, rfl, hl, hn, hown, hS2, hg2⟩
  dsimp only at hl hown hS2
  obtain ⟨A', c', rfl, hnc, hcm⟩ := own_form hown
  obtain rfl : n0 = n := by omega
  have hI : Ints w2 w2.heap.size A' (n0 * 3) (xsOf zs) := Ints.of_own hown (Nat.le_refl _) (by simp; omega) (fun j hj => (cells_of hown).2 j (by omega))
  have hB := hb1.trans (below_only hg2 hz1' (fun k e => by injection e with e; omega))
  clear hown hS1 hS2 hg2
  dsimp only
  go_wp2
  go_ret3
  exact ⟨_, _, rfl, hn, hnc, hcm, hI, hB⟩
end Go.Proofs.Ytcilgohjeobamaa
