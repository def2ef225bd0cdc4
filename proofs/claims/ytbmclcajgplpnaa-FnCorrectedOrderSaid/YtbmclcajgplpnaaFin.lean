/- Finishes of a race: the program's and the reference's return one value. -/
import Derived.Test.YtbmclcajgplpnaaRat
import Derived.Test.YtbmclcajgplpnaaOver
import Derived.RegionTactic
import Derived.BigRegion
set_option linter.unusedSimpArgs false
set_option linter.unusedVariables false
namespace Go.Proofs.Ytbmclcajgplpnaa
open Go.RowKit

/-- A finish as described: boat, code, time. -/
def finB (b c t : Int) : Bool := inB b 0 15 && inB c 0 9 && (if c = 0 then inB t 1 1000000000 else (t == 0))
theorem finB_t {b c t : Int} (h : finB b c t = true) : 0 ≤ b ∧ b ≤ 15 ∧ 0 ≤ c ∧ c ≤ 9 ∧ (c = 0 → 1 ≤ t ∧ t ≤ 1000000000) := by
  unfold finB at h
  simp only [Bool.and_eq_true] at h
  have h1 := inB_t h.1.1
  have h2 := inB_t h.1.2
  refine ⟨h1.1, h1.2, h2.1, h2.2, fun h0 => ?_⟩
  have h3 := h.2
  rw [if_pos h0] at h3
  exact inB_t h3
def okF (xs : Nat → Int) (i : Nat) : Bool := (xs (i * 3) == (i : Int)) && finB (xs (i * 3)) (xs (i * 3 + 1)) (xs (i * 3 + 2))
def racB (m : Int) (n : Nat) (xs : Nat → Int) : Bool := (inB m 1 16 && ((n : Int) == m)) && (List.range n).all (okF xs)
theorem racB_all {m : Int} {n : Nat} {xs : Nat → Int} (h1 : inB m 1 16 = true) (h2 : (n : Int) = m) (h : ∀ i, i < n → okF xs i = true) : racB m n xs = true := by
  have : (List.range n).all (okF xs) = true := by rw [List.all_eq_true]; intro i hi; exact h i (List.mem_range.1 hi)
  unfold racB; rw [this, h1]; simp [h2]
theorem racB_no {m : Int} {n : Nat} {xs : Nat → Int} {i : Nat} (hi : i < n) (h : okF xs i = false) : racB m n xs = false := by
  have : (List.range n).all (okF xs) = false := by rw [List.all_eq_false]; exact ⟨i, List.mem_range.2 hi, by rw [h]; simp⟩
  unfold racB; rw [this, Bool.and_false]
theorem racB_t {m : Int} {n : Nat} {xs : Nat → Int} (h : racB m n xs = true) : 1 ≤ m ∧ m ≤ 16 ∧ (n : Int) = m ∧ ∀ i, i < n → finB (xs (i * 3)) (xs (i * 3 + 1)) (xs (i * 3 + 2)) = true := by
  unfold racB at h
  simp only [Bool.and_eq_true, beq_iff_eq, List.all_eq_true, List.mem_range] at h
  have a := inB_t h.1.1
  refine ⟨a.1, a.2, h.1.2, fun i hi => ?_⟩
  have b := h.2 i hi
  unfold okF at b
  simp only [Bool.and_eq_true, beq_iff_eq] at b
  exact b.2

theorem isBoat_any (n : Int) (w : World) :
    Calls Try.prog 79 #[.int .i64 n] w fun e w' => e = .returned (.bool (inB n 0 15)) ∧ w = w' := by
  go_enter Try.func79, Try.ntmps79
  go_wp2_with (go_at_call 41; refine (within_any _ _ _ _).mono ?_; rintro e w' ⟨rfl, rfl⟩)
  go_ret
  exact ⟨rfl, rfl⟩

set_option maxHeartbeats 4000000 in
theorem isFinish_any (b c t : Int) (w : World) :
    Calls Try.prog 73 #[.agg #[.int .i64 b, .int .i64 c, .int .i64 t]] w fun e w' => e = .returned (.bool (finB b c t)) ∧ Below w.heap.size w w' := by
  cases h1 : inB b 0 15 with
  | false =>
    have hv : finB b c t = false := by simp [finB, h1]
    rw [hv]
    clear hv
    cases h2 : (c == 0) with
    | false =>
      go_enter Try.func73, Try.ntmps73
      go_wp2_with (first | (go_at_call 79; refine (isBoat_any _ _).mono ?_; rintro e w' ⟨rfl, rfl⟩) | (go_at_call 41; refine (within_any _ _ _ _).mono ?_; rintro e w' ⟨rfl, rfl⟩))
      go_ret
      exact ⟨rfl, (Below.refl _ _).alloc (Nat.le_refl _) _⟩
    | true =>
      obtain rfl : c = 0 := by simpa using h2
      clear h2
      go_enter Try.func73, Try.ntmps73
      go_wp2_with (first | (go_at_call 79; refine (isBoat_any _ _).mono ?_; rintro e w' ⟨rfl, rfl⟩) | (go_at_call 41; refine (within_any _ _ _ _).mono ?_; rintro e w' ⟨rfl, rfl⟩))
      go_ret
      exact ⟨rfl, (Below.refl _ _).alloc (Nat.le_refl _) _⟩
  | true =>
  cases h2 : (c == 0) with
  | true =>
    obtain rfl : c = 0 := by simpa using h2
    clear h2
    have h9 : inB 0 0 9 = true := by decide
    have hv : finB b 0 t = inB t 1 1000000000 := by simp [finB, h1, h9]
    rw [hv]
    clear hv h9
    go_enter Try.func73, Try.ntmps73
    go_wp2_with (first | (go_at_call 79; refine (isBoat_any _ _).mono ?_; rintro e w' ⟨rfl, rfl⟩) | (go_at_call 41; refine (within_any _ _ _ _).mono ?_; rintro e w' ⟨rfl, rfl⟩))
    go_ret
    exact ⟨rfl, (Below.refl _ _).alloc (Nat.le_refl _) _⟩
  | false =>
  have h0 : c ≠ 0 := by simpa using h2
  cases h3 : inB c 0 9 with
  | false =>
    have hv : finB b c t = false := by simp [finB, h1, h3]
    have h4 : inB c 1 9 = false := by rcases inB_f h3 with h | h <;> exact inB_no (by omega)
    rw [hv]
    clear hv
    go_enter Try.func73, Try.ntmps73
    go_wp2_with (first | (go_at_call 79; refine (isBoat_any _ _).mono ?_; rintro e w' ⟨rfl, rfl⟩) | (go_at_call 41; refine (within_any _ _ _ _).mono ?_; rintro e w' ⟨rfl, rfl⟩))
    go_ret
    exact ⟨rfl, (Below.refl _ _).alloc (Nat.le_refl _) _⟩
  | true =>
    have hv : finB b c t = (t == 0) := by simp [finB, h1, h3, h0]
    have h4 : inB c 1 9 = true := by have := inB_t h3; exact inB_mk (by omega) (by omega)
    rw [hv]
    clear hv h0
    go_enter Try.func73, Try.ntmps73
    go_wp2_with (first | (go_at_call 79; refine (isBoat_any _ _).mono ?_; rintro e w' ⟨rfl, rfl⟩) | (go_at_call 41; refine (within_any _ _ _ _).mono ?_; rintro e w' ⟨rfl, rfl⟩))
    go_ret
    exact ⟨rfl, (Below.refl _ _).alloc (Nat.le_refl _) _⟩
theorem isFinish_val (b c t : Int) (v : Bool) (h : finB b c t = v) (w : World) :
    Calls Try.prog 73 #[.agg #[.int .i64 b, .int .i64 c, .int .i64 t]] w fun e w' => e = .returned (.bool v) ∧ Below w.heap.size w w' := by
  rw [← h]; exact isFinish_any b c t w

set_option maxHeartbeats 4000000 in
theorem sIsFinish_any (b c t : Int) (w : World) :
    Calls Try.prog 71 #[.agg #[.int .i64 b, .int .i64 c, .int .i64 t]] w fun e w' => e = .returned (.bool (finB b c t)) ∧ Below w.heap.size w w' := by
  cases h1 : inB b 0 15 with
  | false =>
    have hv : finB b c t = false := by simp [finB, h1]
    rw [hv]
    clear hv
    cases h2 : (c == 0) with
    | false =>
      go_enter Try.func71, Try.ntmps71
      go_wp2_with (go_at_call 38; refine (l01In_any _ _ _ _).mono ?_; rintro e w' ⟨rfl, rfl⟩)
      go_ret
      exact ⟨rfl, (Below.refl _ _).alloc (Nat.le_refl _) _⟩
    | true =>
      obtain rfl : c = 0 := by simpa using h2
      clear h2
      go_enter Try.func71, Try.ntmps71
      go_wp2_with (go_at_call 38; refine (l01In_any _ _ _ _).mono ?_; rintro e w' ⟨rfl, rfl⟩)
      go_ret
      exact ⟨rfl, (Below.refl _ _).alloc (Nat.le_refl _) _⟩
  | true =>
  cases h2 : (c == 0) with
  | true =>
    obtain rfl : c = 0 := by simpa using h2
    clear h2
    have h9 : inB 0 0 9 = true := by decide
    have hv : finB b 0 t = inB t 1 1000000000 := by simp [finB, h1, h9]
    rw [hv]
    clear hv h9
    go_enter Try.func71, Try.ntmps71
    go_wp2_with (go_at_call 38; refine (l01In_any _ _ _ _).mono ?_; rintro e w' ⟨rfl, rfl⟩)
    go_ret
    exact ⟨rfl, (Below.refl _ _).alloc (Nat.le_refl _) _⟩
  | false =>
  have h0 : c ≠ 0 := by simpa using h2
  cases h3 : inB c 0 9 with
  | false =>
    have hv : finB b c t = false := by simp [finB, h1, h3]
    have h4 : inB c 1 9 = false := by rcases inB_f h3 with h | h <;> exact inB_no (by omega)
    rw [hv]
    clear hv
    go_enter Try.func71, Try.ntmps71
    go_wp2_with (go_at_call 38; refine (l01In_any _ _ _ _).mono ?_; rintro e w' ⟨rfl, rfl⟩)
    go_ret
    exact ⟨rfl, (Below.refl _ _).alloc (Nat.le_refl _) _⟩
  | true =>
    have hv : finB b c t = (t == 0) := by simp [finB, h1, h3, h0]
    have h4 : inB c 1 9 = true := by have := inB_t h3; exact inB_mk (by omega) (by omega)
    rw [hv]
    clear hv h0
    go_enter Try.func71, Try.ntmps71
    go_wp2_with (go_at_call 38; refine (l01In_any _ _ _ _).mono ?_; rintro e w' ⟨rfl, rfl⟩)
    go_ret
    exact ⟨rfl, (Below.refl _ _).alloc (Nat.le_refl _) _⟩
theorem sIsFinish_val (b c t : Int) (v : Bool) (h : finB b c t = v) (w : World) :
    Calls Try.prog 71 #[.agg #[.int .i64 b, .int .i64 c, .int .i64 t]] w fun e w' => e = .returned (.bool v) ∧ Below w.heap.size w w' := by
  rw [← h]; exact sIsFinish_any b c t w

set_option maxHeartbeats 4000000 in
theorem areFinishes_any (m : Int) (A : Option Addr) (n c B : Nat) (xs : Nat → Int) (w : World) (hx : Ints w B A (n * 3) xs) (hB : B ≤ w.heap.size) (hn : n ≤ 9223372036854775807) :
    Calls Try.prog 54 #[.int .i64 m, .slice A n c] w fun e w' => e = .returned (.bool (racB m n xs)) ∧ Below w.heap.size w w' := by
  generalize hv : racB m n xs = v
  replace hv := Lib.hid hv
  replace hx := Lib.hid hx
  cases h1 : inB m 1 16 with
  | false =>
    have hr : v = false := by rw [← hv.out]; simp [racB, h1]
    subst hr
    go_enter Try.func54, Try.ntmps54
    go_wp2_with (first | (go_at_call 41; refine (within_any _ _ _ _).mono ?_; rintro e w' ⟨rfl, rfl⟩))
    go_ret
    exact ⟨rfl, Below.refl _ _⟩
  | true =>
  cases h2 : ((n : Int) != m) with
  | true =>
    have hr : v = false := by rw [← hv.out]; simp at h2; simp [racB, h2]
    subst hr
    go_enter Try.func54, Try.ntmps54
    go_wp2_with (first | (go_at_call 41; refine (within_any _ _ _ _).mono ?_; rintro e w' ⟨rfl, rfl⟩))
    go_ret
    exact ⟨rfl, Below.refl _ _⟩
  | false =>
  go_enter Try.func54, Try.ntmps54
  go_wp2_with (first | (go_at_call 41; refine (within_any _ _ _ _).mono ?_; rintro e w' ⟨rfl, rfl⟩))
  go_loopw [18] (fun u wr => ∃ k : Nat, k ≤ n ∧ u = .int .i64 k ∧ Hid (∀ i, i < k → okF xs i = true) ∧ Below w.heap.size w wr) (fun u _ => (n - intOf u).toNat)
  case atStart => exact ⟨0, by omega, rfl, Lib.hid (fun i hi => by omega), Below.refl _ _⟩
  case round =>
    obtain ⟨k, hk1, rfl, hok, hbel⟩ := hrel
    have hsz := hbel.size
    by_cases h3 : k < n
    · obtain ⟨b, o, rfl, hadB, hcode⟩ := hx.out (by omega)
      have g0 : wr.cell? ⟨b, o + k * 3, none⟩ = some (.int .i64 (xs (k * 3))) := by rw [hbel.cell (by simp; omega)]; exact hcode (k * 3) (by omega)
      have g1 : wr.cell? ⟨b, o + k * 3 + 1, none⟩ = some (.int .i64 (xs (k * 3 + 1))) := by rw [hbel.cell (by simp; omega)]; exact hcode (k * 3 + 1) (by omega)
      have g2 : wr.cell? ⟨b, o + k * 3 + 2, none⟩ = some (.int .i64 (xs (k * 3 + 2))) := by rw [hbel.cell (by simp; omega)]; exact hcode (k * 3 + 2) (by omega)
      clear hcode
      cases h4 : (xs (k * 3) != (k : Int)) with
      | true =>
        have hr : v = false := by rw [← hv.out]; exact racB_no h3 (by simp at h4; simp [okF, h4])
        subst hr
        go_wp2
        go_ret
        exact ⟨rfl, (hbel.alloc hsz _)⟩
      | false =>
      cases h5 : finB (xs (k * 3)) (xs (k * 3 + 1)) (xs (k * 3 + 2)) with
      | false =>
        have hr : v = false := by rw [← hv.out]; exact racB_no h3 (by simp [okF, h5])
        subst hr
        go_wp2_with fail
        refine (isFinish_val _ _ _ _ h5 _).mono ?_
        rintro e w2 ⟨rfl, hb2⟩
        have hbw : Below w.heap.size w w2 := (hbel.alloc hsz _).trans (hb2.mono (by first | omega | (simp; omega)))
        go_wp2
        go_ret
        exact ⟨rfl, hbw⟩
      | true =>
        go_wp2_with fail
        refine (isFinish_val _ _ _ _ h5 _).mono ?_
        rintro e w2 ⟨rfl, hb2⟩
        have hbw : Below w.heap.size w w2 := (hbel.alloc hsz _).trans (hb2.mono (by first | omega | (simp; omega)))
        go_wp2
        go_roundw
        case rel =>
          refine ⟨k + 1, by omega, by go_num, Lib.hid (fun i hi => ?_), hbw⟩
          by_cases e : i = k
          · subst e; unfold okF; rw [h5]; simpa using h4
          · exact hok.out i (by omega)
        case measure => simp [intOf]; omega
    · obtain rfl : k = n := by omega
      have hr : v = true := by rw [← hv.out]; exact racB_all h1 (by simpa using h2) hok.out
      subst hr
      go_wp2
      go_ret
      exact ⟨rfl, hbel⟩

set_option maxHeartbeats 4000000 in
theorem l22Race_any (m : Int) (A : Option Addr) (n c B : Nat) (xs : Nat → Int) (w : World) (hx : Ints w B A (n * 3) xs) (hB : B ≤ w.heap.size) (hn : n ≤ 9223372036854775807) :
    Calls Try.prog 50 #[.int .i64 m, .slice A n c] w fun e w' => e = .returned (.bool (racB m n xs)) ∧ Below w.heap.size w w' := by
  generalize hv : racB m n xs = v
  replace hv := Lib.hid hv
  replace hx := Lib.hid hx
  cases h1 : inB m 1 16 with
  | false =>
    have hr : v = false := by rw [← hv.out]; simp [racB, h1]
    subst hr
    go_enter Try.func50, Try.ntmps50
    go_wp2_with (first | (go_at_call 38; refine (l01In_any _ _ _ _).mono ?_; rintro e w' ⟨rfl, rfl⟩))
    go_ret
    exact ⟨rfl, Below.refl _ _⟩
  | true =>
  cases h2 : ((n : Int) != m) with
  | true =>
    have hr : v = false := by rw [← hv.out]; simp at h2; simp [racB, h2]
    subst hr
    go_enter Try.func50, Try.ntmps50
    go_wp2_with (first | (go_at_call 38; refine (l01In_any _ _ _ _).mono ?_; rintro e w' ⟨rfl, rfl⟩))
    go_ret
    exact ⟨rfl, Below.refl _ _⟩
  | false =>
  go_enter Try.func50, Try.ntmps50
  go_wp2_with (first | (go_at_call 38; refine (l01In_any _ _ _ _).mono ?_; rintro e w' ⟨rfl, rfl⟩))
  go_loopw [5] (fun u wr => ∃ k : Nat, k ≤ n ∧ u = .int .i64 k ∧ Hid (∀ i, i < k → okF xs i = true) ∧ Below w.heap.size w wr) (fun u _ => (n - intOf u).toNat)
  case atStart => exact ⟨0, by omega, rfl, Lib.hid (fun i hi => by omega), Below.refl _ _⟩
  case round =>
    obtain ⟨k, hk1, rfl, hok, hbel⟩ := hrel
    have hsz := hbel.size
    by_cases h3 : k < n
    · obtain ⟨b, o, rfl, hadB, hcode⟩ := hx.out (by omega)
      have g0 : wr.cell? ⟨b, o + k * 3, none⟩ = some (.int .i64 (xs (k * 3))) := by rw [hbel.cell (by simp; omega)]; exact hcode (k * 3) (by omega)
      have g1 : wr.cell? ⟨b, o + k * 3 + 1, none⟩ = some (.int .i64 (xs (k * 3 + 1))) := by rw [hbel.cell (by simp; omega)]; exact hcode (k * 3 + 1) (by omega)
      have g2 : wr.cell? ⟨b, o + k * 3 + 2, none⟩ = some (.int .i64 (xs (k * 3 + 2))) := by rw [hbel.cell (by simp; omega)]; exact hcode (k * 3 + 2) (by omega)
      clear hcode
      cases h4 : (xs (k * 3) != (k : Int)) with
      | true =>
        have hr : v = false := by rw [← hv.out]; exact racB_no h3 (by simp at h4; simp [okF, h4])
        subst hr
        go_wp2
        go_ret
        exact ⟨rfl, hbel⟩
      | false =>
      cases h5 : finB (xs (k * 3)) (xs (k * 3 + 1)) (xs (k * 3 + 2)) with
      | false =>
        have hr : v = false := by rw [← hv.out]; exact racB_no h3 (by simp [okF, h5])
        subst hr
        go_wp2_with fail
        refine (sIsFinish_val _ _ _ _ h5 _).mono ?_
        rintro e w2 ⟨rfl, hb2⟩
        have hbw : Below w.heap.size w w2 := hbel.trans (hb2.mono (by first | omega | (simp; omega)))
        go_wp2
        go_ret
        exact ⟨rfl, hbw⟩
      | true =>
        go_wp2_with fail
        refine (sIsFinish_val _ _ _ _ h5 _).mono ?_
        rintro e w2 ⟨rfl, hb2⟩
        have hbw : Below w.heap.size w w2 := hbel.trans (hb2.mono (by first | omega | (simp; omega)))
        go_wp2
        go_roundw
        case rel =>
          refine ⟨k + 1, by omega, by go_num, Lib.hid (fun i hi => ?_), hbw⟩
          by_cases e : i = k
          · subst e; unfold okF; rw [h5]; simpa using h4
          · exact hok.out i (by omega)
        case measure => simp [intOf]; omega
    · obtain rfl : k = n := by omega
      have hr : v = true := by rw [← hv.out]; exact racB_all h1 (by simpa using h2) hok.out
      subst hr
      go_wp2
      go_ret
      exact ⟨rfl, hbel⟩

/-- The code of finishes and ratings. -/
def codF (m : Int) (n : Nat) (xs : Nat → Int) (n2 : Nat) (ys : Nat → Int) : Int := if racB m n xs = true then (if isB m n2 ys = true then 0 else 2) else 1

set_option maxHeartbeats 2000000 in
theorem ratingsCode_any (m : Int) (A : Option Addr) (n c B : Nat) (xs : Nat → Int) (A2 : Option Addr) (n2 c2 B2 : Nat) (ys : Nat → Int) (w : World) (hx : Ints w B A (n * 3) xs) (hB : B ≤ w.heap.size) (hn : n ≤ 9223372036854775807) (hy : Ints w B2 A2 (n2 * 2) ys) (hB2 : B2 ≤ w.heap.size) (hn2 : n2 ≤ 9223372036854775807) :
    Calls Try.prog 47 #[.int .i64 m, .slice A n c, .slice A2 n2 c2] w fun e w' => e = .returned (.int .i64 (codF m n xs n2 ys)) ∧ Below w.heap.size w w' := by
  replace hx := Lib.hid hx
  replace hy := Lib.hid hy
  unfold codF
  cases h1 : racB m n xs with
  | false =>
    rw [if_neg (by simp)]
    go_enter Try.func47, Try.ntmps47
    go_wp2_with fail
    refine (areFinishes_any _ _ _ _ _ _ _ hx.out hB hn).mono ?_
    rintro e w1 ⟨rfl, hb1⟩
    have hz1 := hb1.size
    rw [h1]
    go_wp2
    go_ret
    exact ⟨rfl, hb1⟩
  | true =>
  rw [if_pos rfl]
  cases h2 : isB m n2 ys with
  | false =>
    rw [if_neg (by simp)]
    go_enter Try.func47, Try.ntmps47
    go_wp2_with fail
    refine (areFinishes_any _ _ _ _ _ _ _ hx.out hB hn).mono ?_
    rintro e w1 ⟨rfl, hb1⟩
    have hz1 := hb1.size
    rw [h1]
    go_wp2_with fail
    refine (isRatings_any _ _ _ _ _ _ _ (hy.out.below (hb1.mono hB2)) (by omega) hn2).mono ?_
    rintro e w2 ⟨rfl, hb2⟩
    have hz2 := hb2.size
    rw [h2]
    go_wp2
    go_ret
    exact ⟨rfl, hb1.trans (hb2.mono hz1)⟩
  | true =>
    rw [if_pos rfl]
    go_enter Try.func47, Try.ntmps47
    go_wp2_with fail
    refine (areFinishes_any _ _ _ _ _ _ _ hx.out hB hn).mono ?_
    rintro e w1 ⟨rfl, hb1⟩
    have hz1 := hb1.size
    rw [h1]
    go_wp2_with fail
    refine (isRatings_any _ _ _ _ _ _ _ (hy.out.below (hb1.mono hB2)) (by omega) hn2).mono ?_
    rintro e w2 ⟨rfl, hb2⟩
    have hz2 := hb2.size
    rw [h2]
    go_wp2
    go_ret
    exact ⟨rfl, hb1.trans (hb2.mono hz1)⟩

set_option maxHeartbeats 2000000 in
theorem l22Code_any (m : Int) (A : Option Addr) (n c B : Nat) (xs : Nat → Int) (A2 : Option Addr) (n2 c2 B2 : Nat) (ys : Nat → Int) (w : World) (hx : Ints w B A (n * 3) xs) (hB : B ≤ w.heap.size) (hn : n ≤ 9223372036854775807) (hy : Ints w B2 A2 (n2 * 2) ys) (hB2 : B2 ≤ w.heap.size) (hn2 : n2 ≤ 9223372036854775807) :
    Calls Try.prog 44 #[.int .i64 m, .slice A n c, .slice A2 n2 c2] w fun e w' => e = .returned (.int .i64 (codF m n xs n2 ys)) ∧ Below w.heap.size w w' := by
  replace hx := Lib.hid hx
  replace hy := Lib.hid hy
  unfold codF
  cases h1 : racB m n xs with
  | false =>
    rw [if_neg (by simp)]
    go_enter Try.func44, Try.ntmps44
    go_wp2_with fail
    refine (l22Race_any _ _ _ _ _ _ _ hx.out hB hn).mono ?_
    rintro e w1 ⟨rfl, hb1⟩
    have hz1 := hb1.size
    rw [h1]
    go_wp2
    go_ret
    exact ⟨rfl, hb1⟩
  | true =>
  rw [if_pos rfl]
  cases h2 : isB m n2 ys with
  | false =>
    rw [if_neg (by simp)]
    go_enter Try.func44, Try.ntmps44
    go_wp2_with fail
    refine (l22Race_any _ _ _ _ _ _ _ hx.out hB hn).mono ?_
    rintro e w1 ⟨rfl, hb1⟩
    have hz1 := hb1.size
    rw [h1]
    go_wp2_with fail
    refine (sIsRatings_any _ _ _ _ _ _ _ (hy.out.below (hb1.mono hB2)) (by omega) hn2).mono ?_
    rintro e w2 ⟨rfl, hb2⟩
    have hz2 := hb2.size
    rw [h2]
    go_wp2
    go_ret
    exact ⟨rfl, hb1.trans (hb2.mono hz1)⟩
  | true =>
    rw [if_pos rfl]
    go_enter Try.func44, Try.ntmps44
    go_wp2_with fail
    refine (l22Race_any _ _ _ _ _ _ _ hx.out hB hn).mono ?_
    rintro e w1 ⟨rfl, hb1⟩
    have hz1 := hb1.size
    rw [h1]
    go_wp2_with fail
    refine (sIsRatings_any _ _ _ _ _ _ _ (hy.out.below (hb1.mono hB2)) (by omega) hn2).mono ?_
    rintro e w2 ⟨rfl, hb2⟩
    have hz2 := hb2.size
    rw [h2]
    go_wp2
    go_ret
    exact ⟨rfl, hb1.trans (hb2.mono hz1)⟩

end Go.Proofs.Ytbmclcajgplpnaa
