/- IsCurve: the program's and the reference's return one value, a function of the numbers in the list. -/
import Derived.Test.YtjbioohpkmcmmaaSCurvePoint
import Derived.Test.YtjbioohpkmcmmaaBase
set_option linter.unusedSimpArgs false
namespace Go.Proofs.Ytjbioohpkmcmmaa
open Go.RowKit

theorem quiet_w {P : Program} {f : FuncId} {args : Array Value} {w : World} {n : Nat} {v : Value}
    (h : Calls P f args (w.drewN n) fun e w' => e = .returned v ∧ w.drewN n = w') : Calls P f args (w.drewN n) fun e w'' => e = .returned v ∧ ∃ m, w'' = w.drewN m :=
  h.mono fun _ _ ⟨he, hm⟩ => ⟨he, n, hm.symm⟩

/-- What a curve asks of its point i. -/
def okC (xs : Nat → Int) (i : Nat) : Bool := inB (xs (i * 2)) 0 1000 && inB (xs (i * 2 + 1)) 1 1000000 && (decide (i = 0) || (decide (xs ((i - 1) * 2) < xs (i * 2)) && decide (xs (i * 2 + 1) < xs ((i - 1) * 2 + 1))))
def isC (n : Nat) (xs : Nat → Int) : Bool := decide (2 ≤ n) && decide (n ≤ 12) && (List.range n).all (okC xs)
theorem isC_all {n : Nat} {xs : Nat → Int} (h : ∀ i, i < n → okC xs i = true) : isC n xs = (decide (2 ≤ n) && decide (n ≤ 12)) := by
  have : (List.range n).all (okC xs) = true := by rw [List.all_eq_true]; intro i hi; exact h i (List.mem_range.1 hi)
  unfold isC; rw [this, Bool.and_true]
theorem isC_no {n : Nat} {xs : Nat → Int} {i : Nat} (hi : i < n) (h : okC xs i = false) : isC n xs = false := by
  have : (List.range n).all (okC xs) = false := by rw [List.all_eq_false]; exact ⟨i, List.mem_range.2 hi, by rw [h]; simp⟩
  unfold isC; rw [this, Bool.and_false]
theorem isC_long {n : Nat} {xs : Nat → Int} (h : n < 2 ∨ 12 < n) : isC n xs = false := by
  have : (decide (2 ≤ n) && decide (n ≤ 12)) = false := by rcases h with h | h <;> simp <;> omega
  unfold isC; rw [this, Bool.false_and]
theorem ret_b {a b : Bool} (h : a = b) : Ending.returned (.bool a) = .returned (.bool b) := by rw [h]

set_option maxHeartbeats 4000000 in
theorem isCurve_any (A : Option Addr) (n c B : Nat) (xs : Nat → Int) (w : World) (hx : Ints w B A (n * 2) xs) (hB : B ≤ w.heap.size) (hn : n ≤ 9223372036854775807) :
    Calls Try.prog 10 #[.slice A n c] w fun e w' => e = .returned (.bool (isC n xs)) ∧ Below w.heap.size w w' := by
  generalize hv : isC n xs = v
  replace hv := Lib.hid hv
  replace hx := Lib.hid hx
  go_enter Try.func10, Try.ntmps10
  go_wp2
  go_loopw [7] (fun u wr => ∃ k : Nat, k ≤ n ∧ u = .int .i64 k ∧ Hid (∀ i, i < k → okC xs i = true) ∧ Below w.heap.size w wr) (fun u _ => (n - intOf u).toNat)
  case atStart => exact ⟨0, by omega, rfl, Lib.hid (fun i hi => by omega), Below.refl _ _⟩
  case round =>
    obtain ⟨k, hk1, rfl, hok, hbel⟩ := hrel
    by_cases h1 : k < n
    · obtain ⟨b, o, rfl, hadB, hcode⟩ := hx.out (by omega)
      have g0 : wr.cell? ⟨b, o + k * 2, none⟩ = some (.int .i64 (xs (k * 2))) := by rw [hbel.cell (by simp; omega)]; exact hcode (k * 2) (by omega)
      have g1 : wr.cell? ⟨b, o + k * 2 + 1, none⟩ = some (.int .i64 (xs (k * 2 + 1))) := by rw [hbel.cell (by simp; omega)]; exact hcode (k * 2 + 1) (by omega)
      have hsz := hbel.size
      cases h2 : inB (xs (k * 2)) 0 1000 with
      | false =>
        have hr : v = false := by rw [← hv.out]; exact isC_no h1 (by simp [okC, h2])
        subst hr
        clear hcode
        go_wp2
        go_quiet ((go_at_call 20; exact quiet_w (within_any _ _ _ _)))
        go_wp2
        go_ret
        exact ⟨rfl, below_dN (hbel.alloc hsz _) _⟩
      | true =>
      cases h3 : inB (xs (k * 2 + 1)) 1 1000000 with
      | false =>
        have hr : v = false := by rw [← hv.out]; exact isC_no h1 (by simp [okC, h2, h3])
        subst hr
        clear hcode
        go_wp2
        go_quiet ((go_at_call 20; exact quiet_w (within_any _ _ _ _)))
        go_wp2
        go_ret
        exact ⟨rfl, below_dN (hbel.alloc hsz _) _⟩
      | true =>
      by_cases hk0 : k = 0
      · have hk0' : decide (0 < k) = false := by simp; omega
        replace hk0 := Lib.hid hk0
        clear hcode
        go_wp2
        go_quiet ((go_at_call 20; exact quiet_w (within_any _ _ _ _)))
        go_wp2
        go_roundw
        case rel =>
          refine ⟨k + 1, by omega, by go_num, Lib.hid (fun i hi => ?_), below_dN (hbel.alloc hsz _) _⟩
          have := hk0.out
          obtain rfl : i = k := by omega
          unfold okC; rw [h2, h3]; simp [this]
        case measure => simp [intOf]; omega
      · obtain ⟨k, rfl⟩ : ∃ k', k = k' + 1 := ⟨k - 1, by omega⟩
        clear hk0
        have p0 : ∀ o1, (wr.alloc o1).cell? ⟨b, o + k * 2, none⟩ = some (.int .i64 (xs (k * 2))) := fun o1 => by
          rw [World.cell?_alloc_lt _ _ _ (by simp; omega), hbel.cell (by simp; omega)]; exact hcode (k * 2) (by omega)
        have p1 : ∀ o1, (wr.alloc o1).cell? ⟨b, o + k * 2 + 1, none⟩ = some (.int .i64 (xs (k * 2 + 1))) := fun o1 => by
          rw [World.cell?_alloc_lt _ _ _ (by simp; omega), hbel.cell (by simp; omega)]; exact hcode (k * 2 + 1) (by omega)
        have hwr : IntKind.i64.wrap (k : Int) = k := IntWalk.i64_in _ (by omega)
        clear hcode
        by_cases h4 : xs ((k + 1) * 2) ≤ xs (k * 2)
        · have hr : v = false := by rw [← hv.out]; exact isC_no h1 (by simp [okC, h2, h3]; omega)
          subst hr
          go_wp2
          go_quiet ((go_at_call 20; exact quiet_w (within_any _ _ _ _)))
          clear hwr
          go_wp2
          go_ret
          exact ⟨rfl, below_dN (hbel.alloc hsz _) _⟩
        have d4 : decide (xs ((k + 1) * 2) ≤ xs (k * 2)) = false := by simpa using h4
        by_cases h5 : xs (k * 2 + 1) ≤ xs ((k + 1) * 2 + 1)
        · have hr : v = false := by rw [← hv.out]; exact isC_no h1 (by simp [okC, h2, h3]; omega)
          subst hr
          go_wp2
          go_quiet ((go_at_call 20; exact quiet_w (within_any _ _ _ _)))
          clear hwr
          go_wp2
          go_ret
          exact ⟨rfl, below_dN (hbel.alloc hsz _) _⟩
        · have d5 : decide (xs (k * 2 + 1) ≤ xs ((k + 1) * 2 + 1)) = false := by simpa using h5
          go_wp2
          go_quiet ((go_at_call 20; exact quiet_w (within_any _ _ _ _)))
          clear hwr
          go_wp2
          go_roundw
          case rel =>
            refine ⟨k + 2, by omega, by go_num, Lib.hid (fun i hi => ?_), below_dN (hbel.alloc hsz _) _⟩
            by_cases e : i = k + 1
            · subst e; simp [okC, h2, h3]; omega
            · exact hok.out i (by omega)
          case measure => simp [intOf]; omega
    · obtain rfl : k = n := by omega
      have hr : v = (decide (2 ≤ k) && decide (k ≤ 12)) := by rw [← hv.out]; exact isC_all hok.out
      subst hr
      go_wp2
      all_goals (go_ret; exact ⟨ret_b (by first | rfl | (rw [Bool.eq_iff_iff]; simp only [Bool.and_eq_true, decide_eq_true_eq, Bool.false_eq_true, iff_false, true_iff, iff_true, false_iff]; omega)), hbel⟩)

set_option maxHeartbeats 4000000 in
theorem sIsCurve_any (A : Option Addr) (n c B : Nat) (xs : Nat → Int) (w : World) (hx : Ints w B A (n * 2) xs) (hB : B ≤ w.heap.size) (hn : n ≤ 9223372036854775807) :
    Calls Try.prog 8 #[.slice A n c] w fun e w' => e = .returned (.bool (isC n xs)) ∧ Below w.heap.size w w' := by
  generalize hv : isC n xs = v
  replace hv := Lib.hid hv
  replace hx := Lib.hid hx
  by_cases hn2 : n < 2
  · have hr : v = false := by rw [← hv.out]; exact isC_long (by omega)
    subst hr
    go_enter Try.func8, Try.ntmps8
    go_wp2
    go_ret
    exact ⟨rfl, Below.refl _ _⟩
  by_cases hn3 : 12 < n
  · have hr : v = false := by rw [← hv.out]; exact isC_long (by omega)
    subst hr
    go_enter Try.func8, Try.ntmps8
    go_wp2
    go_ret
    exact ⟨rfl, Below.refl _ _⟩
  go_enter Try.func8, Try.ntmps8
  go_wp2
  go_loopw [3] (fun u wr => ∃ k : Nat, k ≤ n ∧ u = .int .i64 k ∧ Hid (∀ i, i < k → okC xs i = true) ∧ Below w.heap.size w wr) (fun u _ => (n - intOf u).toNat)
  case atStart => exact ⟨0, by omega, rfl, Lib.hid (fun i hi => by omega), Below.refl _ _⟩
  case round =>
    obtain ⟨k, hk1, rfl, hok, hbel⟩ := hrel
    by_cases h1 : k < n
    · obtain ⟨b, o, rfl, hadB, hcode⟩ := hx.out (by omega)
      have g0 : wr.cell? ⟨b, o + k * 2, none⟩ = some (.int .i64 (xs (k * 2))) := by rw [hbel.cell (by simp; omega)]; exact hcode (k * 2) (by omega)
      have g1 : wr.cell? ⟨b, o + k * 2 + 1, none⟩ = some (.int .i64 (xs (k * 2 + 1))) := by rw [hbel.cell (by simp; omega)]; exact hcode (k * 2 + 1) (by omega)
      have hsz := hbel.size
      cases h2 : inB (xs (k * 2)) 0 1000 with
      | false =>
        have hr : v = false := by rw [← hv.out]; exact isC_no h1 (by simp [okC, h2])
        subst hr
        clear hcode
        go_wp2_with (go_at_call 18; refine (l01In_any _ _ _ _).mono ?_; rintro e w' ⟨rfl, rfl⟩)
        go_ret
        exact ⟨rfl, hbel⟩
      | true =>
      cases h3 : inB (xs (k * 2 + 1)) 1 1000000 with
      | false =>
        have hr : v = false := by rw [← hv.out]; exact isC_no h1 (by simp [okC, h2, h3])
        subst hr
        clear hcode
        go_wp2_with (go_at_call 18; refine (l01In_any _ _ _ _).mono ?_; rintro e w' ⟨rfl, rfl⟩)
        go_ret
        exact ⟨rfl, hbel⟩
      | true =>
      by_cases hk0 : k = 0
      · have hk0' : decide (0 < k) = false := by simp; omega
        replace hk0 := Lib.hid hk0
        clear hcode
        go_wp2_with (first | (go_at_call 18; refine (l01In_any _ _ _ _).mono ?_; rintro e w' ⟨rfl, rfl⟩) | fail)
        go_quiet (fail)
        go_wp2
        go_roundw
        case rel =>
          refine ⟨k + 1, by omega, by go_num, Lib.hid (fun i hi => ?_), below_dN hbel _⟩
          have := hk0.out
          obtain rfl : i = k := by omega
          unfold okC; rw [h2, h3]; simp [this]
        case measure => simp [intOf]; omega
      · obtain ⟨k, rfl⟩ : ∃ k', k = k' + 1 := ⟨k - 1, by omega⟩
        clear hk0
        have p0 : wr.cell? ⟨b, o + k * 2, none⟩ = some (.int .i64 (xs (k * 2))) := by rw [hbel.cell (by simp; omega)]; exact hcode (k * 2) (by omega)
        have p1 : wr.cell? ⟨b, o + k * 2 + 1, none⟩ = some (.int .i64 (xs (k * 2 + 1))) := by rw [hbel.cell (by simp; omega)]; exact hcode (k * 2 + 1) (by omega)
        have hwr : IntKind.i64.wrap (k : Int) = k := IntWalk.i64_in _ (by omega)
        replace hwr := Lib.hid hwr
        clear hcode
        by_cases h4 : xs ((k + 1) * 2) ≤ xs (k * 2)
        · have hr : v = false := by rw [← hv.out]; exact isC_no h1 (by simp [okC, h2, h3]; omega)
          subst hr
          go_wp2_with (first | (go_at_call 18; refine (l01In_any _ _ _ _).mono ?_; rintro e w' ⟨rfl, rfl⟩) | fail)
          have hwr := hwr.out
          go_quiet (fail)
          clear hwr
          go_wp2
          go_ret
          exact ⟨rfl, below_dN hbel _⟩
        have d4 : decide (xs ((k + 1) * 2) ≤ xs (k * 2)) = false := by simpa using h4
        by_cases h5 : xs (k * 2 + 1) ≤ xs ((k + 1) * 2 + 1)
        · have hr : v = false := by rw [← hv.out]; exact isC_no h1 (by simp [okC, h2, h3]; omega)
          subst hr
          go_wp2_with (first | (go_at_call 18; refine (l01In_any _ _ _ _).mono ?_; rintro e w' ⟨rfl, rfl⟩) | fail)
          have hwr := hwr.out
          go_quiet (fail)
          clear hwr
          go_wp2
          go_ret
          exact ⟨rfl, below_dN hbel _⟩
        · have d5 : decide (xs (k * 2 + 1) ≤ xs ((k + 1) * 2 + 1)) = false := by simpa using h5
          go_wp2_with (first | (go_at_call 18; refine (l01In_any _ _ _ _).mono ?_; rintro e w' ⟨rfl, rfl⟩) | fail)
          have hwr := hwr.out
          go_quiet (fail)
          clear hwr
          go_wp2
          go_roundw
          case rel =>
            refine ⟨k + 2, by omega, by go_num, Lib.hid (fun i hi => ?_), below_dN hbel _⟩
            by_cases e : i = k + 1
            · subst e; simp [okC, h2, h3]; omega
            · exact hok.out i (by omega)
          case measure => simp [intOf]; omega
    · obtain rfl : k = n := by omega
      have hr : v = true := by rw [← hv.out, isC_all hok.out]; simp; omega
      subst hr
      go_wp2
      go_ret
      exact ⟨rfl, hbel⟩
end Go.Proofs.Ytjbioohpkmcmmaa

