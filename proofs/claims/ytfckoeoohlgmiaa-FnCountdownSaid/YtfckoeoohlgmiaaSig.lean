/- IsSignals: the program's and the reference's return one value. -/
import Derived.Test.YtfckoeoohlgmiaaSSignal
import Derived.Test.YtfckoeoohlgmiaaBase
set_option linter.unusedSimpArgs false
set_option linter.unusedVariables false
namespace Go.Proofs.Ytfckoeoohlgmiaa
open Go.RowKit

theorem quiet_w {P : Program} {f : FuncId} {args : Array Value} {w : World} {n : Nat} {v : Value}
    (h : Calls P f args (w.drewN n) fun e w' => e = .returned v ∧ w.drewN n = w') : Calls P f args (w.drewN n) fun e w'' => e = .returned v ∧ ∃ m, w'' = w.drewN m :=
  h.mono fun _ _ ⟨he, hm⟩ => ⟨he, n, hm.symm⟩
theorem ret_b {a b : Bool} (h : a = b) : Ending.returned (.bool a) = .returned (.bool b) := by rw [h]

/-- What a log asks of its signal i. -/
def okS (xs : Nat → Int) (i : Nat) : Bool := inB (xs (i * 2)) 1 8 && inB (xs (i * 2 + 1)) 0 1000000000 && (decide (i = 0) || decide (xs ((i - 1) * 2 + 1) ≤ xs (i * 2 + 1)))
def isS (n : Nat) (xs : Nat → Int) : Bool := decide (n ≤ 40) && (List.range n).all (okS xs)
theorem isS_all {n : Nat} {xs : Nat → Int} (h : ∀ i, i < n → okS xs i = true) : isS n xs = decide (n ≤ 40) := by
  have : (List.range n).all (okS xs) = true := by rw [List.all_eq_true]; intro i hi; exact h i (List.mem_range.1 hi)
  unfold isS; rw [this, Bool.and_true]
theorem isS_no {n : Nat} {xs : Nat → Int} {i : Nat} (hi : i < n) (h : okS xs i = false) : isS n xs = false := by
  have : (List.range n).all (okS xs) = false := by rw [List.all_eq_false]; exact ⟨i, List.mem_range.2 hi, by rw [h]; simp⟩
  unfold isS; rw [this, Bool.and_false]
theorem isS_long {n : Nat} {xs : Nat → Int} (h : 40 < n) : isS n xs = false := by
  have : decide (n ≤ 40) = false := by simp; omega
  unfold isS; rw [this, Bool.false_and]
theorem isS_t {n : Nat} {xs : Nat → Int} (h : isS n xs = true) : n ≤ 40 ∧ ∀ i, i < n → okS xs i = true := by
  unfold isS at h
  simp only [Bool.and_eq_true, decide_eq_true_eq, List.all_eq_true, List.mem_range] at h
  exact h
theorem okS_t {xs : Nat → Int} {i : Nat} (h : okS xs i = true) : 1 ≤ xs (i * 2) ∧ xs (i * 2) ≤ 8 ∧ 0 ≤ xs (i * 2 + 1) ∧ xs (i * 2 + 1) ≤ 1000000000 ∧ (i = 0 ∨ xs ((i - 1) * 2 + 1) ≤ xs (i * 2 + 1)) := by
  unfold okS at h
  simp only [Bool.and_eq_true, Bool.or_eq_true, decide_eq_true_eq] at h
  have a := inB_t h.1.1
  have b := inB_t h.1.2
  exact ⟨a.1, a.2, b.1, b.2, h.2⟩

set_option maxHeartbeats 4000000 in
theorem isSignals_any (A : Option Addr) (n c B : Nat) (xs : Nat → Int) (w : World) (hx : Ints w B A (n * 2) xs) (hB : B ≤ w.heap.size) (hn : n ≤ 9223372036854775807) :
    Calls Try.prog 27 #[.slice A n c] w fun e w' => e = .returned (.bool (isS n xs)) ∧ Below w.heap.size w w' := by
  generalize hv : isS n xs = v
  replace hv := Lib.hid hv
  replace hx := Lib.hid hx
  go_enter Try.func27, Try.ntmps27
  go_wp2
  go_loopw [7] (fun u wr => ∃ k : Nat, k ≤ n ∧ u = .int .i64 k ∧ Hid (∀ i, i < k → okS xs i = true) ∧ Below w.heap.size w wr) (fun u _ => (n - intOf u).toNat)
  case atStart => exact ⟨0, by omega, rfl, Lib.hid (fun i hi => by omega), Below.refl _ _⟩
  case round =>
    obtain ⟨k, hk1, rfl, hok, hbel⟩ := hrel
    have hsz := hbel.size
    by_cases h1 : k < n
    · obtain ⟨b, o, rfl, hadB, hcode⟩ := hx.out (by omega)
      have g0 : wr.cell? ⟨b, o + k * 2, none⟩ = some (.int .i64 (xs (k * 2))) := by rw [hbel.cell (by simp; omega)]; exact hcode (k * 2) (by omega)
      have g1 : wr.cell? ⟨b, o + k * 2 + 1, none⟩ = some (.int .i64 (xs (k * 2 + 1))) := by rw [hbel.cell (by simp; omega)]; exact hcode (k * 2 + 1) (by omega)
      cases h2 : inB (xs (k * 2)) 1 8 with
      | false =>
        have hr : v = false := by rw [← hv.out]; exact isS_no h1 (by simp [okS, h2])
        subst hr
        clear hcode
        go_wp2
        go_quiet ((first | (go_at_call 44; exact quiet_w (within_any _ _ _ _)) | (go_at_call 49; exact quiet_w (isTime_any _ _))))
        go_wp2
        go_ret
        exact ⟨rfl, below_dN (hbel.alloc hsz _) _⟩
      | true =>
      cases h3 : inB (xs (k * 2 + 1)) 0 1000000000 with
      | false =>
        have hr : v = false := by rw [← hv.out]; exact isS_no h1 (by simp [okS, h2, h3])
        subst hr
        clear hcode
        go_wp2
        go_quiet ((first | (go_at_call 44; exact quiet_w (within_any _ _ _ _)) | (go_at_call 49; exact quiet_w (isTime_any _ _))))
        go_wp2
        go_ret
        exact ⟨rfl, below_dN (hbel.alloc hsz _) _⟩
      | true =>
      by_cases hk0 : k = 0
      · have hk0' : decide (0 < k) = false := by simp; omega
        replace hk0 := Lib.hid hk0
        clear hcode
        go_wp2
        go_quiet ((first | (go_at_call 44; exact quiet_w (within_any _ _ _ _)) | (go_at_call 49; exact quiet_w (isTime_any _ _))))
        go_wp2
        go_roundw
        case rel =>
          refine ⟨k + 1, by omega, by go_num, Lib.hid (fun i hi => ?_), below_dN (hbel.alloc hsz _) _⟩
          have := hk0.out
          obtain rfl : i = k := by omega
          unfold okS; rw [h2, h3]; simp [this]
        case measure => simp [intOf]; omega
      · obtain ⟨k, rfl⟩ : ∃ k', k = k' + 1 := ⟨k - 1, by omega⟩
        clear hk0
        have p1 : ∀ o1, (wr.alloc o1).cell? ⟨b, o + k * 2 + 1, none⟩ = some (.int .i64 (xs (k * 2 + 1))) := fun o1 => by
          rw [World.cell?_alloc_lt _ _ _ (by simp; omega), hbel.cell (by simp; omega)]; exact hcode (k * 2 + 1) (by omega)
        have hwr : IntKind.i64.wrap (k : Int) = k := IntWalk.i64_in _ (by omega)
        clear hcode
        by_cases h4 : xs ((k + 1) * 2 + 1) < xs (k * 2 + 1)
        · have hr : v = false := by rw [← hv.out]; exact isS_no h1 (by unfold okS; rw [h2, h3]; simp; omega)
          subst hr
          go_wp2
          go_quiet ((first | (go_at_call 44; exact quiet_w (within_any _ _ _ _)) | (go_at_call 49; exact quiet_w (isTime_any _ _))))
          clear hwr
          go_wp2
          go_ret
          exact ⟨rfl, below_dN (hbel.alloc hsz _) _⟩
        · have d4 : decide (xs ((k + 1) * 2 + 1) < xs (k * 2 + 1)) = false := by simpa using h4
          go_wp2
          go_quiet ((first | (go_at_call 44; exact quiet_w (within_any _ _ _ _)) | (go_at_call 49; exact quiet_w (isTime_any _ _))))
          clear hwr
          go_wp2
          go_roundw
          case rel =>
            refine ⟨k + 2, by omega, by go_num, Lib.hid (fun i hi => ?_), below_dN (hbel.alloc hsz _) _⟩
            by_cases e : i = k + 1
            · subst e; unfold okS; rw [h2, h3]; simp; omega
            · exact hok.out i (by omega)
          case measure => simp [intOf]; omega
    · obtain rfl : k = n := by omega
      have hr : v = decide (k ≤ 40) := by rw [← hv.out]; exact isS_all hok.out
      subst hr
      go_wp2
      all_goals (go_ret; exact ⟨ret_b (by first | rfl | (simp; omega)), hbel⟩)

set_option maxHeartbeats 4000000 in
theorem sIsSignals_any (A : Option Addr) (n c B : Nat) (xs : Nat → Int) (w : World) (hx : Ints w B A (n * 2) xs) (hB : B ≤ w.heap.size) (hn : n ≤ 9223372036854775807) :
    Calls Try.prog 35 #[.slice A n c] w fun e w' => e = .returned (.bool (isS n xs)) ∧ Below w.heap.size w w' := by
  generalize hv : isS n xs = v
  replace hv := Lib.hid hv
  replace hx := Lib.hid hx
  by_cases hn3 : 40 < n
  · have hr : v = false := by rw [← hv.out]; exact isS_long hn3
    subst hr
    go_enter Try.func35, Try.ntmps35
    go_wp2
    go_ret
    exact ⟨rfl, Below.refl _ _⟩
  go_enter Try.func35, Try.ntmps35
  go_wp2
  go_loopw [3] (fun u wr => ∃ k : Nat, k ≤ n ∧ u = .int .i64 k ∧ Hid (∀ i, i < k → okS xs i = true) ∧ Below w.heap.size w wr) (fun u _ => (n - intOf u).toNat)
  case atStart => exact ⟨0, by omega, rfl, Lib.hid (fun i hi => by omega), Below.refl _ _⟩
  case round =>
    obtain ⟨k, hk1, rfl, hok, hbel⟩ := hrel
    have hsz := hbel.size
    by_cases h1 : k < n
    · obtain ⟨b, o, rfl, hadB, hcode⟩ := hx.out (by omega)
      have g0 : wr.cell? ⟨b, o + k * 2, none⟩ = some (.int .i64 (xs (k * 2))) := by rw [hbel.cell (by simp; omega)]; exact hcode (k * 2) (by omega)
      have g1 : wr.cell? ⟨b, o + k * 2 + 1, none⟩ = some (.int .i64 (xs (k * 2 + 1))) := by rw [hbel.cell (by simp; omega)]; exact hcode (k * 2 + 1) (by omega)
      cases h2 : inB (xs (k * 2)) 1 8 with
      | false =>
        have hr : v = false := by rw [← hv.out]; exact isS_no h1 (by simp [okS, h2])
        subst hr
        clear hcode
        go_wp2_with (go_at_call 51; refine (l01In_any _ _ _ _).mono ?_; rintro e w' ⟨rfl, rfl⟩)
        go_ret
        exact ⟨rfl, hbel⟩
      | true =>
      cases h3 : inB (xs (k * 2 + 1)) 0 1000000000 with
      | false =>
        have hr : v = false := by rw [← hv.out]; exact isS_no h1 (by simp [okS, h2, h3])
        subst hr
        clear hcode
        go_wp2_with (go_at_call 51; refine (l01In_any _ _ _ _).mono ?_; rintro e w' ⟨rfl, rfl⟩)
        go_ret
        exact ⟨rfl, hbel⟩
      | true =>
      by_cases hk0 : k = 0
      · have hk0' : decide (0 < k) = false := by simp; omega
        replace hk0 := Lib.hid hk0
        clear hcode
        go_wp2_with (first | (go_at_call 51; refine (l01In_any _ _ _ _).mono ?_; rintro e w' ⟨rfl, rfl⟩) | fail)
        go_quiet (fail)
        go_wp2
        go_roundw
        case rel =>
          refine ⟨k + 1, by omega, by go_num, Lib.hid (fun i hi => ?_), below_dN hbel _⟩
          have := hk0.out
          obtain rfl : i = k := by omega
          unfold okS; rw [h2, h3]; simp [this]
        case measure => simp [intOf]; omega
      · obtain ⟨k, rfl⟩ : ∃ k', k = k' + 1 := ⟨k - 1, by omega⟩
        clear hk0
        have p1 : wr.cell? ⟨b, o + k * 2 + 1, none⟩ = some (.int .i64 (xs (k * 2 + 1))) := by rw [hbel.cell (by simp; omega)]; exact hcode (k * 2 + 1) (by omega)
        have hwr : IntKind.i64.wrap (k : Int) = k := IntWalk.i64_in _ (by omega)
        replace hwr := Lib.hid hwr
        clear hcode
        by_cases h4 : xs ((k + 1) * 2 + 1) < xs (k * 2 + 1)
        · have hr : v = false := by rw [← hv.out]; exact isS_no h1 (by unfold okS; rw [h2, h3]; simp; omega)
          subst hr
          go_wp2_with (first | (go_at_call 51; refine (l01In_any _ _ _ _).mono ?_; rintro e w' ⟨rfl, rfl⟩) | fail)
          have hwr := hwr.out
          go_quiet (fail)
          clear hwr
          go_wp2
          go_ret
          exact ⟨rfl, below_dN hbel _⟩
        · have d4 : decide (xs ((k + 1) * 2 + 1) < xs (k * 2 + 1)) = false := by simpa using h4
          go_wp2_with (first | (go_at_call 51; refine (l01In_any _ _ _ _).mono ?_; rintro e w' ⟨rfl, rfl⟩) | fail)
          have hwr := hwr.out
          go_quiet (fail)
          clear hwr
          go_wp2
          go_roundw
          case rel =>
            refine ⟨k + 2, by omega, by go_num, Lib.hid (fun i hi => ?_), below_dN hbel _⟩
            by_cases e : i = k + 1
            · subst e; unfold okS; rw [h2, h3]; simp; omega
            · exact hok.out i (by omega)
          case measure => simp [intOf]; omega
    · obtain rfl : k = n := by omega
      have hr : v = true := by rw [← hv.out, isS_all hok.out]; simp; omega
      subst hr
      go_wp2
      go_ret
      exact ⟨rfl, hbel⟩

end Go.Proofs.Ytfckoeoohlgmiaa
