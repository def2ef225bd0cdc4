/- Windows: IsWindows of the program and of the reference. -/
import Derived.Test.YtghpaegabppeaaaSWindow
import Derived.Test.YtghpaegabppeaaaBase
import Derived.Test.YtghpaegabppeaaaOver
import Derived.Test.YtghpaegabppeaaaNum
set_option linter.unusedSimpArgs false
set_option linter.unusedVariables false
namespace Go.Proofs.Ytghpaegabppeaaa
open Go.RowKit

/-- A window has times. -/
def okW (a b : Int) : Bool := decide (0 ≤ a ∧ a < b ∧ b ≤ 1000000000)
theorem okW_t {a b : Int} (h : okW a b = true) : 0 ≤ a ∧ a < b ∧ b ≤ 1000000000 := by simpa [okW] using h
theorem isWindow_any (a b : Int) (w : World) :
    Calls Try.prog 41 #[.agg #[.int .i64 a, .int .i64 b]] w fun e w' => e = .returned (.bool (okW a b)) ∧ Below w.heap.size w w' := by
  by_cases h1 : 0 ≤ a
  · by_cases h2 : a < b
    · by_cases h3 : b ≤ 1000000000
      · have e1 : okW a b = true := by simp [okW, h1, h2, h3]
        rw [e1]
        go_enter Try.func41, Try.ntmps41
        go_wp2
        go_ret
        exact ⟨rfl, (Below.refl _ _).alloc (Nat.le_refl _) _⟩
      · have e1 : okW a b = false := by simp [okW]; omega
        rw [e1]
        go_enter Try.func41, Try.ntmps41
        go_wp2
        go_ret
        exact ⟨rfl, (Below.refl _ _).alloc (Nat.le_refl _) _⟩
    · have e1 : okW a b = false := by simp [okW]; omega
      rw [e1]
      go_enter Try.func41, Try.ntmps41
      go_wp2
      go_ret
      exact ⟨rfl, (Below.refl _ _).alloc (Nat.le_refl _) _⟩
  · have e1 : okW a b = false := by simp [okW]; omega
    rw [e1]
    go_enter Try.func41, Try.ntmps41
    go_wp2
    go_ret
    exact ⟨rfl, (Below.refl _ _).alloc (Nat.le_refl _) _⟩
theorem isWindow_val (a b : Int) (v : Bool) (h : okW a b = v) (w : World) :
    Calls Try.prog 41 #[.agg #[.int .i64 a, .int .i64 b]] w fun e w' => e = .returned (.bool v) ∧ Below w.heap.size w w' := by
  rw [← h]; exact isWindow_any a b w
theorem l20Window_any (a b : Int) (w : World) :
    Calls Try.prog 39 #[.agg #[.int .i64 a, .int .i64 b]] w fun e w' => e = .returned (.bool (okW a b)) ∧ Below w.heap.size w w' := by
  cases h1 : inB a 0 1000000000 with
  | false =>
    have hf := inB_f h1
    have e1 : okW a b = false := by simp [okW]; omega
    rw [e1]
    go_enter Try.func39, Try.ntmps39
    go_wp2_with (go_at_call 44; refine (l01In_any _ _ _ _).mono ?_; rintro e w' ⟨rfl, rfl⟩)
    go_ret
    exact ⟨rfl, (Below.refl _ _).alloc (Nat.le_refl _) _⟩
  | true =>
    obtain ⟨l1, u1⟩ := inB_t h1
    have e1 : okW a b = inB b (a + 1) 1000000000 := by unfold okW inB; rw [decide_eq_decide]; omega
    rw [e1]
    clear e1
    generalize h2 : inB b (a + 1) 1000000000 = v
    go_enter Try.func39, Try.ntmps39
    go_wp2_with (go_at_call 44; refine (l01In_any _ _ _ _).mono ?_; rintro e w' ⟨rfl, rfl⟩)
    go_ret
    exact ⟨rfl, (Below.refl _ _).alloc (Nat.le_refl _) _⟩
theorem l20Window_val (a b : Int) (v : Bool) (h : okW a b = v) (w : World) :
    Calls Try.prog 39 #[.agg #[.int .i64 a, .int .i64 b]] w fun e w' => e = .returned (.bool v) ∧ Below w.heap.size w w' := by
  rw [← h]; exact l20Window_any a b w

/-- What a list of windows asks of its window i. -/
def okL (xs : Nat → Int) (i : Nat) : Bool := okW (xs (i * 2)) (xs (i * 2 + 1)) && (decide (i = 0) || decide (xs ((i - 1) * 2 + 1) < xs (i * 2)))
def isL (n : Nat) (xs : Nat → Int) : Bool := decide (n ≤ 30) && (List.range n).all (okL xs)
theorem isL_all {n : Nat} {xs : Nat → Int} (h : ∀ i, i < n → okL xs i = true) : isL n xs = decide (n ≤ 30) := by
  have : (List.range n).all (okL xs) = true := by rw [List.all_eq_true]; intro i hi; exact h i (List.mem_range.1 hi)
  unfold isL; rw [this, Bool.and_true]
theorem isL_no {n : Nat} {xs : Nat → Int} {i : Nat} (hi : i < n) (h : okL xs i = false) : isL n xs = false := by
  have : (List.range n).all (okL xs) = false := by rw [List.all_eq_false]; exact ⟨i, List.mem_range.2 hi, by rw [h]; simp⟩
  unfold isL; rw [this, Bool.and_false]
theorem isL_t {n : Nat} {xs : Nat → Int} (h : isL n xs = true) : n ≤ 30 ∧ ∀ i, i < n → okL xs i = true := by
  unfold isL at h
  simp only [Bool.and_eq_true, decide_eq_true_eq, List.all_eq_true, List.mem_range] at h
  exact h
theorem okL_t {xs : Nat → Int} {i : Nat} (h : okL xs i = true) : 0 ≤ xs (i * 2) ∧ xs (i * 2) < xs (i * 2 + 1) ∧ xs (i * 2 + 1) ≤ 1000000000 ∧ (i = 0 ∨ xs ((i - 1) * 2 + 1) < xs (i * 2)) := by
  unfold okL at h
  simp only [Bool.and_eq_true, Bool.or_eq_true, decide_eq_true_eq] at h
  have := okW_t h.1
  exact ⟨this.1, this.2.1, this.2.2, h.2⟩
theorem ret_b {a b : Bool} (h : a = b) : Ending.returned (.bool a) = .returned (.bool b) := by rw [h]

set_option maxHeartbeats 4000000 in
theorem isWindows_any (A : Option Addr) (n c B : Nat) (xs : Nat → Int) (w : World) (hx : Ints w B A (n * 2) xs) (hB : B ≤ w.heap.size) (hn : n ≤ 9223372036854775807) :
    Calls Try.prog 16 #[.slice A n c] w fun e w' => e = .returned (.bool (isL n xs)) ∧ Below w.heap.size w w' := by
  generalize hv : isL n xs = v
  replace hv := Lib.hid hv
  replace hx := Lib.hid hx
  go_enter Try.func16, Try.ntmps16
  go_wp2
  go_loopw [7] (fun u wr => ∃ k : Nat, k ≤ n ∧ u = .int .i64 k ∧ Hid (∀ i, i < k → okL xs i = true) ∧ Below w.heap.size w wr) (fun u _ => (n - intOf u).toNat)
  case atStart => exact ⟨0, by omega, rfl, Lib.hid (fun i hi => by omega), Below.refl _ _⟩
  case round =>
    obtain ⟨k, hk1, rfl, hok, hbel⟩ := hrel
    have hsz := hbel.size
    by_cases h1 : k < n
    · obtain ⟨b, o, rfl, hadB, hcode⟩ := hx.out (by omega)
      have g0 : wr.cell? ⟨b, o + k * 2, none⟩ = some (.int .i64 (xs (k * 2))) := by rw [hbel.cell (by simp; omega)]; exact hcode (k * 2) (by omega)
      have g1 : wr.cell? ⟨b, o + k * 2 + 1, none⟩ = some (.int .i64 (xs (k * 2 + 1))) := by rw [hbel.cell (by simp; omega)]; exact hcode (k * 2 + 1) (by omega)
      cases h2 : okW (xs (k * 2)) (xs (k * 2 + 1)) with
      | false =>
        have hr : v = false := by rw [← hv.out]; exact isL_no h1 (by simp [okL, h2])
        subst hr
        clear hcode
        go_wp2
        have F0 : ∀ u : Over (wr.alloc (.cells #[.int .i64 (xs (k * 2)), .int .i64 (xs (k * 2 + 1))] 51)), u.w.cell? ⟨wr.heap.size, 0, none⟩ = some (.int .i64 (xs (k * 2))) := fun u => u.cell (by simp) (by simp [go_sem])
        have F1 : ∀ u : Over (wr.alloc (.cells #[.int .i64 (xs (k * 2)), .int .i64 (xs (k * 2 + 1))] 51)), u.w.cell? ⟨wr.heap.size, 1, none⟩ = some (.int .i64 (xs (k * 2 + 1))) := fun u => u.cell (by simp) (by simp [go_sem])
        refine wp_region_over (by kernel_rfl) (by kernel_rfl) ?_
        repeat (go_big_quiet_step ((go_at_call 41; exact over_call (isWindow_val _ _ _ h2 _))))
        refine wpQuiet_nil ?_
        rintro _ ⟨u, rfl⟩
        clear F0 F1
        go_wp2
        go_ret
        exact ⟨rfl, (hbel.alloc hsz _).trans (u.ok.mono (by simp; omega))⟩
      | true =>
        by_cases hk0 : k = 0
        · have hk0' : decide (0 < k) = false := by simp; omega
          replace hk0 := Lib.hid hk0
          clear hcode
          go_wp2
          have F0 : ∀ u : Over (wr.alloc (.cells #[.int .i64 (xs (k * 2)), .int .i64 (xs (k * 2 + 1))] 51)), u.w.cell? ⟨wr.heap.size, 0, none⟩ = some (.int .i64 (xs (k * 2))) := fun u => u.cell (by simp) (by simp [go_sem])
          have F1 : ∀ u : Over (wr.alloc (.cells #[.int .i64 (xs (k * 2)), .int .i64 (xs (k * 2 + 1))] 51)), u.w.cell? ⟨wr.heap.size, 1, none⟩ = some (.int .i64 (xs (k * 2 + 1))) := fun u => u.cell (by simp) (by simp [go_sem])
          refine wp_region_over (by kernel_rfl) (by kernel_rfl) ?_
          repeat (go_big_quiet_step ((go_at_call 41; exact over_call (isWindow_val _ _ _ h2 _))))
          refine wpQuiet_nil ?_
          rintro _ ⟨u, rfl⟩
          clear F0 F1
          go_wp2
          go_roundw
          case rel =>
            refine ⟨k + 1, by omega, by go_num, Lib.hid (fun i hi => ?_), (hbel.alloc hsz _).trans (u.ok.mono (by simp; omega))⟩
            have := hk0.out
            obtain rfl : i = k := by omega
            unfold okL; rw [h2]; simp [this]
          case measure => simp [intOf]; omega
        · obtain ⟨k, rfl⟩ : ∃ k', k = k' + 1 := ⟨k - 1, by omega⟩
          clear hk0
          have hwr : IntKind.i64.wrap (k : Int) = k := IntWalk.i64_in _ (by omega)
          replace hwr := Lib.hid hwr
          have p1 : ∀ u : Over (wr.alloc (.cells #[.int .i64 (xs ((k + 1) * 2)), .int .i64 (xs ((k + 1) * 2 + 1))] 51)), u.w.cell? ⟨b, o + k * 2 + 1, none⟩ = some (.int .i64 (xs (k * 2 + 1))) := fun u => u.cell (by simp; omega) (by rw [World.cell?_alloc_lt _ _ _ (by simp; omega), hbel.cell (by simp; omega)]; exact hcode (k * 2 + 1) (by omega))
          clear hcode
          by_cases h4 : xs ((k + 1) * 2) ≤ xs (k * 2 + 1)
          · have hr : v = false := by rw [← hv.out]; exact isL_no h1 (by unfold okL; rw [h2]; simp; omega)
            subst hr
            go_wp2
            have hwr := hwr.out
            have F0 : ∀ u : Over (wr.alloc (.cells #[.int .i64 (xs ((k + 1) * 2)), .int .i64 (xs ((k + 1) * 2 + 1))] 51)), u.w.cell? ⟨wr.heap.size, 0, none⟩ = some (.int .i64 (xs ((k + 1) * 2))) := fun u => u.cell (by simp) (by simp [go_sem])
            have F1 : ∀ u : Over (wr.alloc (.cells #[.int .i64 (xs ((k + 1) * 2)), .int .i64 (xs ((k + 1) * 2 + 1))] 51)), u.w.cell? ⟨wr.heap.size, 1, none⟩ = some (.int .i64 (xs ((k + 1) * 2 + 1))) := fun u => u.cell (by simp) (by simp [go_sem])
            refine wp_region_over (by kernel_rfl) (by kernel_rfl) ?_
            repeat (go_big_quiet_step ((go_at_call 41; exact over_call (isWindow_val _ _ _ h2 _))))
            refine wpQuiet_nil ?_
            rintro _ ⟨u, rfl⟩
            clear F0 F1
            go_wp2
            go_ret
            exact ⟨rfl, (hbel.alloc hsz _).trans (u.ok.mono (by simp; omega))⟩
          · have d4 : decide (xs ((k + 1) * 2) ≤ xs (k * 2 + 1)) = false := by simpa using h4
            go_wp2
            have hwr := hwr.out
            have F0 : ∀ u : Over (wr.alloc (.cells #[.int .i64 (xs ((k + 1) * 2)), .int .i64 (xs ((k + 1) * 2 + 1))] 51)), u.w.cell? ⟨wr.heap.size, 0, none⟩ = some (.int .i64 (xs ((k + 1) * 2))) := fun u => u.cell (by simp) (by simp [go_sem])
            have F1 : ∀ u : Over (wr.alloc (.cells #[.int .i64 (xs ((k + 1) * 2)), .int .i64 (xs ((k + 1) * 2 + 1))] 51)), u.w.cell? ⟨wr.heap.size, 1, none⟩ = some (.int .i64 (xs ((k + 1) * 2 + 1))) := fun u => u.cell (by simp) (by simp [go_sem])
            refine wp_region_over (by kernel_rfl) (by kernel_rfl) ?_
            repeat (go_big_quiet_step ((go_at_call 41; exact over_call (isWindow_val _ _ _ h2 _))))
            refine wpQuiet_nil ?_
            rintro _ ⟨u, rfl⟩
            clear F0 F1
            go_wp2
            go_roundw
            case rel =>
              refine ⟨k + 2, by omega, by go_num, Lib.hid (fun i hi => ?_), (hbel.alloc hsz _).trans (u.ok.mono (by simp; omega))⟩
              by_cases e : i = k + 1
              · subst e; unfold okL; rw [h2]; simp; omega
              · exact hok.out i (by omega)
            case measure => simp [intOf]; omega
    · obtain rfl : k = n := by omega
      have hr : v = decide (k ≤ 30) := by rw [← hv.out]; exact isL_all hok.out
      subst hr
      go_wp2
      all_goals (go_ret; exact ⟨ret_b (by first | rfl | (simp; omega)), hbel⟩)

set_option maxHeartbeats 4000000 in
theorem sIsWindows_any (A : Option Addr) (n c B : Nat) (xs : Nat → Int) (w : World) (hx : Ints w B A (n * 2) xs) (hB : B ≤ w.heap.size) (hn : n ≤ 9223372036854775807) :
    Calls Try.prog 14 #[.slice A n c] w fun e w' => e = .returned (.bool (isL n xs)) ∧ Below w.heap.size w w' := by
  generalize hv : isL n xs = v
  replace hv := Lib.hid hv
  replace hx := Lib.hid hx
  go_enter Try.func14, Try.ntmps14
  go_wp2
  go_loopw [3] (fun u wr => ∃ k : Nat, k ≤ n ∧ u = .int .i64 k ∧ Hid (∀ i, i < k → okL xs i = true) ∧ Below w.heap.size w wr) (fun u _ => (n - intOf u).toNat)
  case atStart => exact ⟨0, by omega, rfl, Lib.hid (fun i hi => by omega), Below.refl _ _⟩
  case round =>
    obtain ⟨k, hk1, rfl, hok, hbel⟩ := hrel
    have hsz := hbel.size
    by_cases h1 : k < n
    · obtain ⟨b, o, rfl, hadB, hcode⟩ := hx.out (by omega)
      have g0 : wr.cell? ⟨b, o + k * 2, none⟩ = some (.int .i64 (xs (k * 2))) := by rw [hbel.cell (by simp; omega)]; exact hcode (k * 2) (by omega)
      have g1 : wr.cell? ⟨b, o + k * 2 + 1, none⟩ = some (.int .i64 (xs (k * 2 + 1))) := by rw [hbel.cell (by simp; omega)]; exact hcode (k * 2 + 1) (by omega)
      cases h2 : okW (xs (k * 2)) (xs (k * 2 + 1)) with
      | false =>
        have hr : v = false := by rw [← hv.out]; exact isL_no h1 (by simp [okL, h2])
        subst hr
        clear hcode
        go_wp2
        have F0 : ∀ u : Over wr, u.w.cell? ⟨b, o + k * 2, none⟩ = some (.int .i64 (xs (k * 2))) := fun u => u.cell (by simp; omega) g0
        have F1 : ∀ u : Over wr, u.w.cell? ⟨b, o + k * 2 + 1, none⟩ = some (.int .i64 (xs (k * 2 + 1))) := fun u => u.cell (by simp; omega) g1
        refine wp_region_over (by kernel_rfl) (by kernel_rfl) ?_
        repeat (go_big_quiet_step ((go_at_call 39; exact over_call (l20Window_val _ _ _ h2 _))))
        refine wpQuiet_nil ?_
        rintro _ ⟨u, rfl⟩
        clear F0 F1
        go_wp2
        go_ret
        exact ⟨rfl, hbel.trans (u.ok.mono hsz)⟩
      | true =>
        by_cases hk0 : k = 0
        · have hk0' : decide (0 < k) = false := by simp; omega
          replace hk0 := Lib.hid hk0
          clear hcode
          go_wp2
          have F0 : ∀ u : Over wr, u.w.cell? ⟨b, o + k * 2, none⟩ = some (.int .i64 (xs (k * 2))) := fun u => u.cell (by simp; omega) g0
          have F1 : ∀ u : Over wr, u.w.cell? ⟨b, o + k * 2 + 1, none⟩ = some (.int .i64 (xs (k * 2 + 1))) := fun u => u.cell (by simp; omega) g1
          refine wp_region_over (by kernel_rfl) (by kernel_rfl) ?_
          repeat (go_big_quiet_step ((go_at_call 39; exact over_call (l20Window_val _ _ _ h2 _))))
          refine wpQuiet_nil ?_
          rintro _ ⟨u, rfl⟩
          clear F0 F1
          go_wp2
          go_roundw
          case rel =>
            refine ⟨k + 1, by omega, by go_num, Lib.hid (fun i hi => ?_), hbel.trans (u.ok.mono hsz)⟩
            have := hk0.out
            obtain rfl : i = k := by omega
            unfold okL; rw [h2]; simp [this]
          case measure => simp [intOf]; omega
        · obtain ⟨k, rfl⟩ : ∃ k', k = k' + 1 := ⟨k - 1, by omega⟩
          clear hk0
          have hwr : IntKind.i64.wrap (k : Int) = k := IntWalk.i64_in _ (by omega)
          replace hwr := Lib.hid hwr
          have p1 : ∀ u : Over wr, u.w.cell? ⟨b, o + k * 2 + 1, none⟩ = some (.int .i64 (xs (k * 2 + 1))) := fun u => u.cell (by simp; omega) (by rw [hbel.cell (by simp; omega)]; exact hcode (k * 2 + 1) (by omega))
          clear hcode
          by_cases h4 : xs ((k + 1) * 2) ≤ xs (k * 2 + 1)
          · have hr : v = false := by rw [← hv.out]; exact isL_no h1 (by unfold okL; rw [h2]; simp; omega)
            subst hr
            go_wp2
            have hwr := hwr.out
            have F0 : ∀ u : Over wr, u.w.cell? ⟨b, o + (k + 1) * 2, none⟩ = some (.int .i64 (xs ((k + 1) * 2))) := fun u => u.cell (by simp; omega) g0
            have F1 : ∀ u : Over wr, u.w.cell? ⟨b, o + (k + 1) * 2 + 1, none⟩ = some (.int .i64 (xs ((k + 1) * 2 + 1))) := fun u => u.cell (by simp; omega) g1
            refine wp_region_over (by kernel_rfl) (by kernel_rfl) ?_
            repeat (go_big_quiet_step ((go_at_call 39; exact over_call (l20Window_val _ _ _ h2 _))))
            refine wpQuiet_nil ?_
            rintro _ ⟨u, rfl⟩
            clear F0 F1
            go_wp2
            go_ret
            exact ⟨rfl, hbel.trans (u.ok.mono hsz)⟩
          · have d4 : decide (xs ((k + 1) * 2) ≤ xs (k * 2 + 1)) = false := by simpa using h4
            go_wp2
            have hwr := hwr.out
            have F0 : ∀ u : Over wr, u.w.cell? ⟨b, o + (k + 1) * 2, none⟩ = some (.int .i64 (xs ((k + 1) * 2))) := fun u => u.cell (by simp; omega) g0
            have F1 : ∀ u : Over wr, u.w.cell? ⟨b, o + (k + 1) * 2 + 1, none⟩ = some (.int .i64 (xs ((k + 1) * 2 + 1))) := fun u => u.cell (by simp; omega) g1
            refine wp_region_over (by kernel_rfl) (by kernel_rfl) ?_
            repeat (go_big_quiet_step ((go_at_call 39; exact over_call (l20Window_val _ _ _ h2 _))))
            refine wpQuiet_nil ?_
            rintro _ ⟨u, rfl⟩
            clear F0 F1
            go_wp2
            go_roundw
            case rel =>
              refine ⟨k + 2, by omega, by go_num, Lib.hid (fun i hi => ?_), hbel.trans (u.ok.mono hsz)⟩
              by_cases e : i = k + 1
              · subst e; unfold okL; rw [h2]; simp; omega
              · exact hok.out i (by omega)
            case measure => simp [intOf]; omega
    · obtain rfl : k = n := by omega
      have hr : v = decide (k ≤ 30) := by rw [← hv.out]; exact isL_all hok.out
      subst hr
      go_wp2
      all_goals (go_ret; exact ⟨ret_b (by first | rfl | (simp; omega)), hbel⟩)

end Go.Proofs.Ytghpaegabppeaaa
