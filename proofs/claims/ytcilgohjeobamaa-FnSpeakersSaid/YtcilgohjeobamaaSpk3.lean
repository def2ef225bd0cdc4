/- Decisive speakers, plain: the statements without a speaker's, and the draw off a code. -/
import Derived.Test.YtcilgohjeobamaaSpk2
import Derived.Test.YtcilgohjeobamaaDD2
import Derived.Test.YtcilgohjeobamaaDec
set_option linter.unusedSimpArgs false
set_option linter.unusedVariables false
namespace Go.Proofs.Ytcilgohjeobamaa
open Go.RowKit Go.Shelf

/-- The first k statements without those of a speaker. -/
def rsL (xs : Nat → Int) (sp : Int) : Nat → List Int
  | 0 => []
  | k + 1 => if xs (k * 3) ≠ sp then rsL xs sp k ++ [xs (k * 3), xs (k * 3 + 1), xs (k * 3 + 2)] else rsL xs sp k
def rsN (xs : Nat → Int) (sp : Int) : Nat → Nat
  | 0 => 0
  | k + 1 => if xs (k * 3) ≠ sp then rsN xs sp k + 1 else rsN xs sp k
theorem rsN_le (xs : Nat → Int) (sp : Int) : ∀ k, rsN xs sp k ≤ k := by
  intro k
  induction k with
  | zero => exact Nat.le_refl _
  | succ k ih => unfold rsN; split <;> omega
theorem rsL_len (xs : Nat → Int) (sp : Int) : ∀ k, (rsL xs sp k).length = rsN xs sp k * 3 := by
  intro k
  induction k with
  | zero => rfl
  | succ k ih => unfold rsL rsN; split <;> simp [ih]; omega
theorem xsOf_app {l m : List Int} {j : Nat} (h : j < l.length) : xsOf (l ++ m) j = xsOf l j := by
  unfold xsOf
  simp only [List.getD_eq_getElem?_getD]
  rw [List.getElem?_append_left h]
theorem xsOf_new {l m : List Int} {j : Nat} : xsOf (l ++ m) (l.length + j) = xsOf m j := by
  unfold xsOf
  simp only [List.getD_eq_getElem?_getD]
  rw [List.getElem?_append_right (by omega), show l.length + j - l.length = j by omega]
theorem dupV_congr {xs ys : Nat → Int} {sp f : Int} : ∀ k, (∀ j, j < k * 3 → ys j = xs j) → dupV ys sp f k = dupV xs sp f k := by
  intro k
  induction k with
  | zero => intro _; rfl
  | succ k ih =>
    intro h
    unfold dupV
    rw [ih (fun j hj => h j (by omega)), h (k * 3) (by omega), h (k * 3 + 1) (by omega)]
theorem sumF_congr {xs ys : Nat → Int} {wo : Int} {f : Nat} : ∀ k, (∀ j, j < k * 3 → ys j = xs j) → sumF ys wo k f = sumF xs wo k f := by
  intro k
  induction k with
  | zero => intro _; rfl
  | succ k ih =>
    intro h
    unfold sumF
    rw [ih (fun j hj => h j (by omega)), h (k * 3) (by omega), h (k * 3 + 1) (by omega), h (k * 3 + 2) (by omega)]
theorem okT_congr {pb pa : Int} {xs ys : Nat → Int} {i : Nat} (h : ∀ j, j < i * 3 + 3 → ys j = xs j) : okT pb pa ys i = okT pb pa xs i := by
  unfold okT
  rw [h (i * 3) (by omega), h (i * 3 + 1) (by omega), h (i * 3 + 2) (by omega), dupV_congr i (fun j hj => h j (by omega))]
/-- The three facts about the rest. -/
theorem rs_law {pb pa sp : Int} {xs : Nat → Int} : ∀ k, (∀ i, i < k → okT pb pa xs i = true) → (∀ i, i < k → xs (i * 3) ≠ -1) →
    (∀ i, i < rsN xs sp k → okT pb pa (xsOf (rsL xs sp k)) i = true) ∧ (∀ a b, dupV (xsOf (rsL xs sp k)) a b (rsN xs sp k) = true → dupV xs a b k = true) ∧ ∀ f, sumF (xsOf (rsL xs sp k)) (-1) (rsN xs sp k) f = sumF xs sp k f := by
  intro k
  induction k with
  | zero => intro _ _; exact ⟨fun i hi => absurd hi (Nat.not_lt_zero i), fun _ _ h => (by cases h), fun f => rfl⟩
  | succ k ih =>
    intro h h1
    obtain ⟨i1, i2, i3⟩ := ih (fun i hi => h i (by omega)) (fun i hi => h1 i (by omega))
    have hl := rsL_len xs sp k
    by_cases hs : xs (k * 3) ≠ sp
    · have e1 : rsL xs sp (k + 1) = rsL xs sp k ++ [xs (k * 3), xs (k * 3 + 1), xs (k * 3 + 2)] := by
        show (if _ then _ else _) = _
        rw [if_pos hs]
      have e2 : rsN xs sp (k + 1) = rsN xs sp k + 1 := by
        show (if _ then _ else _) = _
        rw [if_pos hs]
      have hpre : ∀ j, j < rsN xs sp k * 3 → xsOf (rsL xs sp (k + 1)) j = xsOf (rsL xs sp k) j := fun j hj => by rw [e1, xsOf_app (by omega)]
      have n0 : xsOf (rsL xs sp (k + 1)) (rsN xs sp k * 3) = xs (k * 3) := by rw [e1, ← hl, ← Nat.add_zero (rsL xs sp k).length, xsOf_new]; rfl
      have n1 : xsOf (rsL xs sp (k + 1)) (rsN xs sp k * 3 + 1) = xs (k * 3 + 1) := by rw [e1, ← hl, xsOf_new]; rfl
      have n2 : xsOf (rsL xs sp (k + 1)) (rsN xs sp k * 3 + 2) = xs (k * 3 + 2) := by rw [e1, ← hl, xsOf_new]; rfl
      rw [e2]
      generalize xsOf (rsL xs sp (k + 1)) = ys at hpre n0 n1 n2
      generalize xsOf (rsL xs sp k) = zs at *
      generalize rsN xs sp k = m at *
      refine ⟨fun i hi => ?_, fun a b hd => ?_, fun f => ?_⟩
      · rcases Nat.lt_or_ge i m with hlt | hge
        · rw [okT_congr (fun j hj => hpre j (by omega))]
          exact i1 i hlt
        · obtain rfl : i = m := by omega
          have h2 := h k (by omega)
          unfold okT at h2 ⊢
          rw [n0, n1, n2]
          simp only [Bool.and_eq_true] at h2 ⊢
          refine ⟨h2.1, ?_⟩
          rw [dupV_congr i hpre]
          cases hd : dupV zs (xs (k * 3)) (xs (k * 3 + 1)) i with
          | false => rfl
          | true =>
            have h3 := h2.2
            rw [i2 _ _ hd] at h3
            cases h3
      · unfold dupV at hd ⊢
        rw [dupV_congr m hpre, n0, n1, Bool.or_eq_true] at hd
        rw [Bool.or_eq_true]
        rcases hd with hd | hd
        · exact .inl (i2 _ _ hd)
        · exact .inr hd
      · unfold sumF
        rw [sumF_congr m hpre, n0, n1, n2, i3 f]
        by_cases e : xs (k * 3 + 1) = f
        · rw [if_pos ⟨h1 k (by omega), e⟩, if_pos ⟨hs, e⟩]
        · rw [if_neg (fun q => e q.2), if_neg (fun q => e q.2)]
    · have e1 : rsL xs sp (k + 1) = rsL xs sp k := by
        show (if _ then _ else _) = _
        rw [if_neg hs]
      have e2 : rsN xs sp (k + 1) = rsN xs sp k := by
        show (if _ then _ else _) = _
        rw [if_neg hs]
      rw [e1, e2]
      refine ⟨i1, fun a b hd => ?_, fun f => ?_⟩
      · unfold dupV
        rw [i2 _ _ hd, Bool.true_or]
      · rw [i3 f]
        conv => rhs; unfold sumF
        rw [if_neg (fun q => hs q.1)]
/-- The law: without a speaker's statements the answer is the one that the search looks at. -/
theorem rest_law {pb pa sp : Int} {n : Nat} {xs : Nat → Int} {nd : Nat} {fl : Nat → Nat} {fx : Nat → Nat → Int} {o : Nat → Int} (hp : ptB pb pa = true) (hs : stB pb pa n xs = true) (hd : dmsB nd fl fx o = true) :
    ∃ va, heV pb pa (rsN xs sp n) (xsOf (rsL xs sp n)) nd fl fx o = (outW n xs nd fl fx o sp, va, 0) := by
  obtain ⟨h60, hok⟩ := stB_t hs
  have hne : ∀ i, i < n → xs (i * 3) ≠ -1 := by
    intro i hi
    have := hok i hi
    unfold ptB inB at hp
    unfold okT inB at this
    simp only [Bool.and_eq_true, Bool.or_eq_true, beq_iff_eq, decide_eq_true_eq] at this hp
    omega
  obtain ⟨h1, -, h3⟩ := rs_law (sp := sp) n hok hne
  have hst : stB pb pa (rsN xs sp n) (xsOf (rsL xs sp n)) = true := by
    rw [stB_all h1]
    have := rsN_le xs sp n
    simp; omega
  have hf : factV (xsOf (rsL xs sp n)) (-1) (rsN xs sp n) = factV xs sp n := by
    funext f
    unfold factV
    rw [h3]
  unfold heV
  rw [if_pos (by unfold codD; rw [if_pos hp, if_pos (by rw [hst, hd]; rfl)]), hf]
  exact ⟨_, rfl⟩
theorem sp_range {pb pa : Int} {n i : Nat} {xs : Nat → Int} (hp : ptB pb pa = true) (hs : stB pb pa n xs = true) (hi : i < n) : 0 ≤ xs (i * 3) ∧ xs (i * 3) < 200 := by
  have := (stB_t hs).2 i hi
  unfold ptB inB at hp
  unfold okT inB at this
  simp only [Bool.and_eq_true, Bool.or_eq_true, beq_iff_eq, decide_eq_true_eq] at this hp
  omega
theorem asc_has {W : Int → Int} {s : Int} (h : 0 ≤ s ∧ s < 200) : (ascL W 200).contains s = !decide (W s = W (-1)) := by
  cases e : (ascL W 200).contains s with
  | true =>
    have := ((ascL_mem 200).1 (List.contains_iff_mem.1 e)).2.2
    simpa using this
  | false =>
    have h2 : ¬ s ∈ ascL W 200 := fun q => by rw [List.contains_iff_mem.2 q] at e; cases e
    rw [ascL_mem] at h2
    have : W s = W (-1) := Classical.byContradiction fun q => h2 ⟨h.1, by omega, q⟩
    simp [this]
theorem drawDecisiveSpeakers_ex (m : Nat) (bs : Nat → Int) (hm : m ≤ 100000) (hb : ∀ j, 0 ≤ bs j ∧ bs j ≤ 255) : ∃ (pb pa : Int) (n : Nat) (xs : Nat → Int) (D : List (List Int × Int)),
    ∀ (A : Option Addr) (c : Nat) (w : World), Nums .u8 w w.heap.size A m bs → Calls Try.prog 41 #[.slice A m c] w fun e w' => DrewJ pb pa n xs D w w' e := by
  obtain ⟨pb, pa, n, xs, D, h⟩ := drawDecideHearing_ex m bs hm hb
  refine ⟨pb, pa, n, xs, D, fun A c w hc => ?_⟩
  replace h := Lib.hid h
  go_enter Try.func41, Try.ntmps41
  go_wp2_with fail
  refine (h.out A c w hc).mono ?_
  rintro e w1 ⟨A', AD, c', cd, fa, fc, rfl, hn, hnc, hcm, hI, hk, hnd, hcd, hDm, hB⟩
  clear h
  go_wp2
  refine bodyPost_ret (results_four rfl ..) rfl ?_
  exact ⟨A', AD, c', cd, fa, fc, rfl, hn, hnc, hcm, hI, hk, hnd, hcd, hDm, hB⟩
end Go.Proofs.Ytcilgohjeobamaa
