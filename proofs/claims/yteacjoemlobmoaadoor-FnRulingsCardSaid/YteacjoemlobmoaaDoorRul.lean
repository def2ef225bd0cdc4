/- What can be added to a history, plain; the comparison of two lists of rulings. -/
import Derived.Test.YteacjoemlobmoaaDoorDH
import Derived.Test.YteacjoemlobmoaaDoorApp5
import Derived.Test.YteacjoemlobmoaaDoorApT
import Derived.Test.YteacjoemlobmoaaDoorIntL
set_option linter.unusedSimpArgs false
set_option linter.unusedVariables false
namespace Go.Proofs.YteacjoemlobmoaaDoor
open Go.RowKit Go.Shelf

theorem runS_congr {xs ys : Nat → Int} : ∀ n, (∀ j, j < n * 3 → xs j = ys j) → runS xs n = runS ys n := by
  intro n
  induction n with
  | zero => intro _; rfl
  | succ n ih =>
    intro h
    have e := ih (fun j hj => h j (by omega))
    have e0 := h (n * 3) (by omega)
    have e1 := h (n * 3 + 1) (by omega)
    have e2 := h (n * 3 + 2) (by omega)
    have e3 : n = 0 ∨ xs ((n - 1) * 3) = ys ((n - 1) * 3) := by
      rcases Nat.eq_zero_or_pos n with h0 | h0
      · exact .inl h0
      · exact .inr (h _ (by omega))
    have ho : okR xs (runS ys n).1 n = okR ys (runS ys n).1 n := by
      unfold okR
      rw [e0, e1, e2]
      rcases e3 with rfl | e3
      · rfl
      · rw [e3]
    show (if _ then _ else _) = (if _ then _ else _)
    rw [e, ho, e0, e1]
theorem addX_get (n : Nat) (xs : Nat → Int) (t k u : Int) : (∀ j, j < n * 3 → (addX n xs t k u).getD j 0 = xs j) ∧ (addX n xs t k u).getD (n * 3) 0 = t ∧ (addX n xs t k u).getD (n * 3 + 1) 0 = k ∧ (addX n xs t k u).getD (n * 3 + 2) 0 = u := by
  have hl : ((List.range (n * 3)).map xs).length = n * 3 := by simp
  unfold addX
  refine ⟨fun j hj => ?_, ?_, ?_, ?_⟩
  · rw [List.getD_eq_getElem?_getD, List.getElem?_append_left (by omega), List.getElem?_map, List.getElem?_range hj]; rfl
  all_goals
    rw [List.getD_eq_getElem?_getD, List.getElem?_append_right (by omega), hl]
    simp
theorem mayTo_mem {s : St} {t : Int} {k : Int} : ∀ m, k ∈ mayTo s t m ↔ ∃ i : Nat, i < m ∧ k = (i : Int) + 1 ∧ mayB s.1 s.2.1 s.2.2.1 s.2.2.2.1 s.2.2.2.2 k t = true := by
  intro m
  induction m with
  | zero => simp [mayTo]
  | succ m ih =>
    unfold mayTo
    by_cases h : mayB s.1 s.2.1 s.2.2.1 s.2.2.2.1 s.2.2.2.2 ((m : Int) + 1) t = true
    · rw [if_pos h, List.mem_append, ih, List.mem_singleton]
      constructor
      · rintro (⟨i, hi, e, h1⟩ | rfl)
        · exact ⟨i, by omega, e, h1⟩
        · exact ⟨m, by omega, rfl, h⟩
      · rintro ⟨i, hi, e, h1⟩
        rcases Nat.lt_or_ge i m with h2 | h2
        · exact .inl ⟨i, h2, e, h1⟩
        · obtain rfl : i = m := by omega
          exact .inr e
    · rw [if_neg h, ih]
      constructor
      · rintro ⟨i, hi, e, h1⟩
        exact ⟨i, by omega, e, h1⟩
      · rintro ⟨i, hi, e, h1⟩
        rcases Nat.lt_or_ge i m with h2 | h2
        · exact ⟨i, h2, e, h1⟩
        · obtain rfl : i = m := by omega
          rw [e] at h1
          exact absurd h1 h
/-- A ruling can be added exactly if its kind is possible at its time. -/
theorem rul_law {n : Nat} {xs : Nat → Int} {t k u : Int} (hh : hisB n xs = true) (hl : rulC n xs t = 0) (hr : rulB t k u = true) : (rulL n xs t).contains k = decide (addC n xs t k u = 0) := by
  have hlr : laterR n xs t = true := by
    cases h : laterR n xs t with
    | true => rfl
    | false => unfold rulC at hl; rw [if_pos hh, h] at hl; simp at hl
  have hrun : (runS xs n).2 = true := by
    unfold hisB at hh
    simp only [Bool.and_eq_true] at hh
    exact hh.1
  unfold rulL addC
  rw [if_pos hh, if_pos hlr, if_pos hh]
  have hle := hisB_le hh
  by_cases h20 : n = 20
  · rw [if_neg (by omega), if_pos h20]
    rfl
  · rw [if_pos (by omega), if_neg h20]
    obtain ⟨g0, g1, g2, g3⟩ := addX_get n xs t k u
    obtain ⟨ys, hys⟩ : ∃ ys : Nat → Int, (fun j => (addX n xs t k u).getD j 0) = ys := ⟨_, rfl⟩
    have hyj : ∀ j, ys j = (addX n xs t k u).getD j 0 := fun j => by rw [← hys]
    rw [hys]
    rw [← hyj] at g1 g2 g3
    replace g0 : ∀ j, j < n * 3 → ys j = xs j := fun j hj => (hyj j).trans (g0 j hj)
    clear hyj hys
    have hok : okR ys (runS xs n).1 n = mayB (runS xs n).1.1 (runS xs n).1.2.1 (runS xs n).1.2.2.1 (runS xs n).1.2.2.2.1 (runS xs n).1.2.2.2.2 k t := by
      unfold okR
      rw [g1, g2, g3, hr]
      have e : (decide (n = 0) || decide (ys ((n - 1) * 3) ≤ t)) = true := by
        unfold laterR at hlr
        simp only [Bool.and_eq_true, Bool.or_eq_true, decide_eq_true_eq] at hlr ⊢
        rcases hlr.2 with h | h
        · exact .inl h
        · rcases Nat.eq_zero_or_pos n with h0 | h0
          · exact .inl h0
          · right; rw [g0 _ (by omega)]; exact h
      rw [e]
      simp
    have hrc := runS_congr (xs := ys) (ys := xs) n g0
    have hhis : hisB (n + 1) ys = mayB (runS xs n).1.1 (runS xs n).1.2.1 (runS xs n).1.2.2.1 (runS xs n).1.2.2.2.1 (runS xs n).1.2.2.2.2 k t := by
      rw [← hok]
      cases ho : okR ys (runS xs n).1 n with
      | true =>
        have := run_yes (xs := ys) (i := n) (by rw [hrc]; exact hrun) (by rw [hrc]; exact ho)
        unfold hisB
        rw [this]
        simp; omega
      | false =>
        have := run_no (xs := ys) (i := n) (by rw [hrc]; exact hrun) (by rw [hrc]; exact ho) (Nat.lt_succ_self n)
        unfold hisB
        rw [this]
        simp
    have hk := rulT_t hr
    have hc : (mayTo (runS xs n).1 t 5).contains k = mayB (runS xs n).1.1 (runS xs n).1.2.1 (runS xs n).1.2.2.1 (runS xs n).1.2.2.2.1 (runS xs n).1.2.2.2.2 k t := by
      cases hm : mayB (runS xs n).1.1 (runS xs n).1.2.1 (runS xs n).1.2.2.1 (runS xs n).1.2.2.2.1 (runS xs n).1.2.2.2.2 k t with
      | true => exact List.contains_iff_mem.2 ((mayTo_mem 5).2 ⟨(k - 1).toNat, by omega, by omega, hm⟩)
      | false =>
        rw [← Bool.not_eq_true, List.contains_iff_mem, mayTo_mem]
        rintro ⟨i, -, -, h⟩
        rw [hm] at h
        cases h
    rw [hc, hhis]
    cases mayB (runS xs n).1.1 (runS xs n).1.2.1 (runS xs n).1.2.2.1 (runS xs n).1.2.2.2.1 (runS xs n).1.2.2.2.2 k t <;> rfl
/-- After a final outcome none can. -/
theorem fin_law {n : Nat} {xs : Nat → Int} {t f : Int} (hl : rulC n xs t = 0) (hf : finV n xs = (f, 0)) : t < f ∨ rulL n xs t = [] := by
  rcases Int.lt_or_le t f with h | h
  · exact .inl h
  · right
    have hh : hisB n xs = true := by
      cases hh : hisB n xs with
      | true => rfl
      | false => unfold rulC at hl; rw [hh] at hl; simp at hl
    unfold finV at hf
    rw [if_pos hh] at hf
    by_cases hd : (runS xs n).1.1 = true
    · rw [if_pos hd] at hf
      split at hf
      · cases hf
      · injection hf with hf _
        unfold rulL
        rw [if_pos hh]
        split
        · split
          · apply List.eq_nil_iff_forall_not_mem.2
            intro k hk
            obtain ⟨i, hi, rfl, hm⟩ := (mayTo_mem 5).1 hk
            unfold mayB at hm
            unfold fin2 fin1 at hf
            by_cases k1 : (i : Int) + 1 = 1
            · rw [if_pos k1, hd] at hm
              cases hm
            · rw [if_neg k1] at hm
              by_cases k5 : (i : Int) + 1 = 5
              · rw [if_pos k5] at hm
                simp only [Bool.and_eq_true, Bool.not_eq_true', decide_eq_true_eq] at hm
                rw [if_neg (by rw [hm.1.2]; simp)] at hf
                omega
              · rw [if_neg k5] at hm
                simp only [Bool.and_eq_true, Bool.not_eq_true', decide_eq_true_eq] at hm
                rw [if_neg (c := (runS xs n).1.2.2.2.1 = true) (by rw [hm.1.2]; simp)] at hf
                split at hf <;> omega
          · rfl
        · rfl
    · rw [if_neg hd] at hf
      cases hf
theorem addC_form {n : Nat} {xs : Nat → Int} {t k u : Int} : (hisB n xs = false ∧ addC n xs t k u = 1) ∨ (hisB n xs = true ∧ (addC n xs t k u = 0 ∨ addC n xs t k u = 3 ∨ addC n xs t k u = 5)) := by
  unfold addC
  cases hisB n xs with
  | false => left; simp
  | true =>
    right
    refine ⟨rfl, ?_⟩
    rw [if_pos rfl]
    split
    · exact .inr (.inl rfl)
    · split
      · exact .inl rfl
      · exact .inr (.inr rfl)
theorem rulC_form {n : Nat} {xs : Nat → Int} {t : Int} (hh : hisB n xs = true) : rulC n xs t = 0 ∨ rulC n xs t = 2 := by
  unfold rulC
  rw [if_pos hh]
  split
  · exact .inl rfl
  · exact .inr rfl
theorem apT_ne (t k u : Int) : (apT t k u != ByteArray.mk #[]) = rulB t k u := by
  unfold apT
  cases h : rulB t k u with
  | false => rw [if_neg (by simp)]; rfl
  | true =>
    rw [if_pos rfl]
    have key : ∀ S : ByteArray, 0 < S.size → (S != ByteArray.mk #[]) = true := fun S hS => by
      obtain ⟨d⟩ := S
      show (!(d == #[])) = true
      have hd : d ≠ #[] := fun e => by rw [e] at hS; exact absurd hS (by decide)
      rw [beq_eq_false_iff_ne.2 hd]
      rfl
    split <;> exact key _ (by simp only [ByteArray.size_append]; have : (ByteArray.mk #[32]).size = 1 := rfl; omega)
theorem addL_len {n : Nat} {xs : Nat → Int} {t k u : Int} : (addL n xs t k u).length = addK n xs t k u * 3 := by
  unfold addL addK addX
  split
  · simp; omega
  · rfl
set_option maxHeartbeats 4000000 in
theorem w6Rulings_any (A A2 : Option Addr) (n c c2 B : Nat) (xs : Nat → Int) (w : World) (hx : Ints w B A (n * 3) xs) (hy : Ints w B A2 (n * 3) xs) (hB : B ≤ w.heap.size) (hn : n ≤ 9223372036854775807) :
    Calls Tryd.prog 12 #[.slice A n c, .slice A2 n c2] w fun e w' => e = .returned (.bool true) ∧ Below w.heap.size w w' := by
  replace hx := Lib.hid hx
  replace hy := Lib.hid hy
  go_enter Tryd.func12, Tryd.ntmps12
  go_wp2_with fail
  go_loopw [5] (fun v wr => ∃ k : Nat, k ≤ n ∧ v = .int .i64 k ∧ Below w.heap.size w wr) (fun v _ => (n - intOf v).toNat)
  case atStart => exact ⟨0, by omega, rfl, Below.refl _ _⟩
  case round =>
    obtain ⟨k, hk, rfl, hbel⟩ := hrel
    have hsz := hbel.size
    by_cases hlt : k < n
    · obtain ⟨b, o, rfl, hadB, hcode⟩ := hx.out (by omega)
      obtain ⟨b2, o2, rfl, hadB2, hcode2⟩ := hy.out (by omega)
      have g0 : wr.cell? ⟨b, o + k * 3, none⟩ = some (.int .i64 (xs (k * 3))) := by rw [hbel.cell (by simp; omega)]; exact hcode (k * 3) (by omega)
      have g1 : wr.cell? ⟨b, o + k * 3 + 1, none⟩ = some (.int .i64 (xs (k * 3 + 1))) := by rw [hbel.cell (by simp; omega)]; exact hcode (k * 3 + 1) (by omega)
      have g2 : wr.cell? ⟨b, o + k * 3 + 2, none⟩ = some (.int .i64 (xs (k * 3 + 2))) := by rw [hbel.cell (by simp; omega)]; exact hcode (k * 3 + 2) (by omega)
      have q0 : wr.cell? ⟨b2, o2 + k * 3, none⟩ = some (.int .i64 (xs (k * 3))) := by rw [hbel.cell (by simp; omega)]; exact hcode2 (k * 3) (by omega)
      have q1 : wr.cell? ⟨b2, o2 + k * 3 + 1, none⟩ = some (.int .i64 (xs (k * 3 + 1))) := by rw [hbel.cell (by simp; omega)]; exact hcode2 (k * 3 + 1) (by omega)
      have q2 : wr.cell? ⟨b2, o2 + k * 3 + 2, none⟩ = some (.int .i64 (xs (k * 3 + 2))) := by rw [hbel.cell (by simp; omega)]; exact hcode2 (k * 3 + 2) (by omega)
      clear hcode hcode2
      generalize xs (k * 3) = z0 at g0 q0
      generalize xs (k * 3 + 1) = z1 at g1 q1
      generalize xs (k * 3 + 2) = z2 at g2 q2
      go_wp2
      try go_quiet (fail)
      try go_wp2
      go_roundw
      case rel => exact ⟨k + 1, by omega, by go_num, by first | exact hbel | exact below_dN hbel _⟩
      case measure => simp [intOf]; omega
    · obtain rfl : k = n := by omega
      go_wp2
      go_ret
      exact ⟨rfl, hbel⟩
end Go.Proofs.YteacjoemlobmoaaDoor
