/- IsRatings: the program's and the reference's return one value. -/
import Derived.Test.YtbmclcajgplpnaaSRating
import Derived.Test.YtbmclcajgplpnaaBase
set_option linter.unusedSimpArgs false
set_option linter.unusedVariables false
namespace Go.Proofs.Ytbmclcajgplpnaa
open Go.RowKit

theorem quiet_w {P : Program} {f : FuncId} {args : Array Value} {w : World} {n : Nat} {v : Value}
    (h : Calls P f args (w.drewN n) fun e w' => e = .returned v ∧ w.drewN n = w') : Calls P f args (w.drewN n) fun e w'' => e = .returned v ∧ ∃ m, w'' = w.drewN m :=
  h.mono fun _ _ ⟨he, hm⟩ => ⟨he, n, hm.symm⟩
theorem ret_b {a b : Bool} (h : a = b) : Ending.returned (.bool a) = .returned (.bool b) := by rw [h]

/-- What ratings ask of the one at i. -/
def okB (xs : Nat → Int) (i : Nat) : Bool := (xs (i * 2) == (i : Int)) && inB (xs (i * 2 + 1)) 1 3000
def isB (m : Int) (n : Nat) (xs : Nat → Int) : Bool := (inB m 1 16 && ((n : Int) == m)) && (List.range n).all (okB xs)
theorem isB_all {m : Int} {n : Nat} {xs : Nat → Int} (h1 : inB m 1 16 = true) (h2 : (n : Int) = m) (h : ∀ i, i < n → okB xs i = true) : isB m n xs = true := by
  have : (List.range n).all (okB xs) = true := by rw [List.all_eq_true]; intro i hi; exact h i (List.mem_range.1 hi)
  unfold isB; rw [this, h1]; simp [h2]
theorem isB_no {m : Int} {n : Nat} {xs : Nat → Int} {i : Nat} (hi : i < n) (h : okB xs i = false) : isB m n xs = false := by
  have : (List.range n).all (okB xs) = false := by rw [List.all_eq_false]; exact ⟨i, List.mem_range.2 hi, by rw [h]; simp⟩
  unfold isB; rw [this, Bool.and_false]
theorem isB_t {m : Int} {n : Nat} {xs : Nat → Int} (h : isB m n xs = true) : 1 ≤ m ∧ m ≤ 16 ∧ (n : Int) = m ∧ ∀ i, i < n → xs (i * 2) = (i : Int) ∧ 1 ≤ xs (i * 2 + 1) ∧ xs (i * 2 + 1) ≤ 3000 := by
  unfold isB at h
  simp only [Bool.and_eq_true, beq_iff_eq, List.all_eq_true, List.mem_range] at h
  have a := inB_t h.1.1
  refine ⟨a.1, a.2, h.1.2, fun i hi => ?_⟩
  have b := h.2 i hi
  unfold okB at b
  simp only [Bool.and_eq_true, beq_iff_eq] at b
  exact ⟨b.1, (inB_t b.2).1, (inB_t b.2).2⟩

set_option maxHeartbeats 4000000 in
theorem isRatings_any (m : Int) (A : Option Addr) (n c B : Nat) (xs : Nat → Int) (w : World) (hx : Ints w B A (n * 2) xs) (hB : B ≤ w.heap.size) (hn : n ≤ 9223372036854775807) :
    Calls Try.prog 12 #[.int .i64 m, .slice A n c] w fun e w' => e = .returned (.bool (isB m n xs)) ∧ Below w.heap.size w w' := by
  generalize hv : isB m n xs = v
  replace hv := Lib.hid hv
  replace hx := Lib.hid hx
  cases h1 : inB m 1 16 with
  | false =>
    have hr : v = false := by rw [← hv.out]; simp [isB, h1]
    subst hr
    go_enter Try.func12, Try.ntmps12
    go_wp2_with (first | (go_at_call 41; refine (within_any _ _ _ _).mono ?_; rintro e w' ⟨rfl, rfl⟩))
    go_ret
    exact ⟨rfl, Below.refl _ _⟩
  | true =>
  cases h2 : ((n : Int) != m) with
  | true =>
    have hr : v = false := by rw [← hv.out]; simp at h2; simp [isB, h2]
    subst hr
    go_enter Try.func12, Try.ntmps12
    go_wp2_with (first | (go_at_call 41; refine (within_any _ _ _ _).mono ?_; rintro e w' ⟨rfl, rfl⟩))
    go_ret
    exact ⟨rfl, Below.refl _ _⟩
  | false =>
  go_enter Try.func12, Try.ntmps12
  go_wp2_with (first | (go_at_call 41; refine (within_any _ _ _ _).mono ?_; rintro e w' ⟨rfl, rfl⟩))
  go_loopw [18] (fun u wr => ∃ k : Nat, k ≤ n ∧ u = .int .i64 k ∧ Hid (∀ i, i < k → okB xs i = true) ∧ Below w.heap.size w wr) (fun u _ => (n - intOf u).toNat)
  case atStart => exact ⟨0, by omega, rfl, Lib.hid (fun i hi => by omega), Below.refl _ _⟩
  case round =>
    obtain ⟨k, hk1, rfl, hok, hbel⟩ := hrel
    have hsz := hbel.size
    by_cases h3 : k < n
    · obtain ⟨b, o, rfl, hadB, hcode⟩ := hx.out (by omega)
      have g0 : wr.cell? ⟨b, o + k * 2, none⟩ = some (.int .i64 (xs (k * 2))) := by rw [hbel.cell (by simp; omega)]; exact hcode (k * 2) (by omega)
      have g1 : wr.cell? ⟨b, o + k * 2 + 1, none⟩ = some (.int .i64 (xs (k * 2 + 1))) := by rw [hbel.cell (by simp; omega)]; exact hcode (k * 2 + 1) (by omega)
      clear hcode
      cases h4 : (xs (k * 2) != (k : Int)) with
      | true =>
        have hr : v = false := by rw [← hv.out]; exact isB_no h3 (by simp at h4; simp [okB, h4])
        subst hr
        go_wp2_with (first | (go_at_call 42; refine (isFactor_any _ _).mono ?_; rintro e w' ⟨rfl, rfl⟩))
        go_ret
        exact ⟨rfl, hbel.alloc hsz _⟩
      | false =>
      cases h5 : inB (xs (k * 2 + 1)) 1 3000 with
      | false =>
        have hr : v = false := by rw [← hv.out]; exact isB_no h3 (by simp [okB, h5])
        subst hr
        go_wp2_with (first | (go_at_call 42; refine (isFactor_any _ _).mono ?_; rintro e w' ⟨rfl, rfl⟩))
        go_ret
        exact ⟨rfl, hbel.alloc hsz _⟩
      | true =>
        go_wp2_with (first | (go_at_call 42; refine (isFactor_any _ _).mono ?_; rintro e w' ⟨rfl, rfl⟩))
        go_roundw
        case rel =>
          refine ⟨k + 1, by omega, by go_num, Lib.hid (fun i hi => ?_), hbel.alloc hsz _⟩
          by_cases e : i = k
          · subst e; unfold okB; rw [h5]; simpa using h4
          · exact hok.out i (by omega)
        case measure => simp [intOf]; omega
    · obtain rfl : k = n := by omega
      have hr : v = true := by rw [← hv.out]; exact isB_all h1 (by simpa using h2) hok.out
      subst hr
      go_wp2
      go_ret
      exact ⟨rfl, hbel⟩

set_option maxHeartbeats 4000000 in
theorem sIsRatings_any (m : Int) (A : Option Addr) (n c B : Nat) (xs : Nat → Int) (w : World) (hx : Ints w B A (n * 2) xs) (hB : B ≤ w.heap.size) (hn : n ≤ 9223372036854775807) :
    Calls Try.prog 10 #[.int .i64 m, .slice A n c] w fun e w' => e = .returned (.bool (isB m n xs)) ∧ Below w.heap.size w w' := by
  generalize hv : isB m n xs = v
  replace hv := Lib.hid hv
  replace hx := Lib.hid hx
  cases h1 : inB m 1 16 with
  | false =>
    have hr : v = false := by rw [← hv.out]; simp [isB, h1]
    subst hr
    go_enter Try.func10, Try.ntmps10
    go_wp2_with (first | (go_at_call 38; refine (l01In_any _ _ _ _).mono ?_; rintro e w' ⟨rfl, rfl⟩))
    go_ret
    exact ⟨rfl, Below.refl _ _⟩
  | true =>
  cases h2 : ((n : Int) != m) with
  | true =>
    have hr : v = false := by rw [← hv.out]; simp at h2; simp [isB, h2]
    subst hr
    go_enter Try.func10, Try.ntmps10
    go_wp2_with (first | (go_at_call 38; refine (l01In_any _ _ _ _).mono ?_; rintro e w' ⟨rfl, rfl⟩))
    go_ret
    exact ⟨rfl, Below.refl _ _⟩
  | false =>
  go_enter Try.func10, Try.ntmps10
  go_wp2_with (first | (go_at_call 38; refine (l01In_any _ _ _ _).mono ?_; rintro e w' ⟨rfl, rfl⟩))
  go_loop [5] (fun u => ∃ k : Nat, k ≤ n ∧ u = .int .i64 k ∧ Hid (∀ i, i < k → okB xs i = true)) (fun u => (n - intOf u).toNat)
  case atStart => exact ⟨0, by omega, rfl, Lib.hid (fun i hi => by omega)⟩
  case round =>
    obtain ⟨k, hk1, rfl, hok⟩ := hrel
    by_cases h3 : k < n
    · obtain ⟨b, o, rfl, hadB, hcode⟩ := hx.out (by omega)
      have g0 := hcode (k * 2) (by omega)
      have g1 : w.cell? ⟨b, o + k * 2 + 1, none⟩ = some (.int .i64 (xs (k * 2 + 1))) := hcode (k * 2 + 1) (by omega)
      clear hcode
      cases h4 : (xs (k * 2) != (k : Int)) with
      | true =>
        have hr : v = false := by rw [← hv.out]; exact isB_no h3 (by simp at h4; simp [okB, h4])
        subst hr
        go_wp2_with (first | (go_at_call 39; refine (l22Factor_any _ _).mono ?_; rintro e w' ⟨rfl, rfl⟩))
        go_ret
        exact ⟨rfl, Below.refl _ _⟩
      | false =>
      cases h5 : inB (xs (k * 2 + 1)) 1 3000 with
      | false =>
        have hr : v = false := by rw [← hv.out]; exact isB_no h3 (by simp [okB, h5])
        subst hr
        go_wp2_with (first | (go_at_call 39; refine (l22Factor_any _ _).mono ?_; rintro e w' ⟨rfl, rfl⟩))
        go_ret
        exact ⟨rfl, Below.refl _ _⟩
      | true =>
        go_wp2_with (first | (go_at_call 39; refine (l22Factor_any _ _).mono ?_; rintro e w' ⟨rfl, rfl⟩))
        go_round
        case rel =>
          refine ⟨k + 1, by omega, by go_num, Lib.hid (fun i hi => ?_)⟩
          by_cases e : i = k
          · subst e; unfold okB; rw [h5]; simpa using h4
          · exact hok.out i (by omega)
        case measure => simp [intOf]; omega
    · obtain rfl : k = n := by omega
      have hr : v = true := by rw [← hv.out]; exact isB_all h1 (by simpa using h2) hok.out
      subst hr
      go_wp2
      go_ret
      exact ⟨rfl, Below.refl _ _⟩
end Go.Proofs.Ytbmclcajgplpnaa
