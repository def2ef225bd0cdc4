/- What is a list of demands: the program's and the reference's answer. -/
import Derived.Test.YtcilgohjeobamaaDem2
set_option linter.unusedSimpArgs false
set_option linter.unusedVariables false
namespace Go.Proofs.Ytcilgohjeobamaa
open Go.RowKit Go.Shelf

def dmsB (n : Nat) (fl : Nat → Nat) (fx : Nat → Nat → Int) (o : Nat → Int) : Bool := decide (n ≤ 12) && (List.range n).all (fun i => dmB (o i) (fl i) (fx i))
theorem dmsB_all {n : Nat} {fl : Nat → Nat} {fx : Nat → Nat → Int} {o : Nat → Int} (h : ∀ i, i < n → dmB (o i) (fl i) (fx i) = true) : dmsB n fl fx o = decide (n ≤ 12) := by
  unfold dmsB
  rw [List.all_eq_true.2 (fun i hi => h i (List.mem_range.1 hi)), Bool.and_true]
theorem dmsB_no {n : Nat} {fl : Nat → Nat} {fx : Nat → Nat → Int} {o : Nat → Int} {i : Nat} (hi : i < n) (h : dmB (o i) (fl i) (fx i) = false) : dmsB n fl fx o = false := by
  unfold dmsB
  rw [List.all_eq_false.2 ⟨i, List.mem_range.2 hi, by rw [h]; simp⟩, Bool.and_false]
theorem dmsB_t {n : Nat} {fl : Nat → Nat} {fx : Nat → Nat → Int} {o : Nat → Int} (h : dmsB n fl fx o = true) : n ≤ 12 ∧ ∀ i, i < n → dmB (o i) (fl i) (fx i) = true := by
  unfold dmsB at h
  simp only [Bool.and_eq_true, decide_eq_true_eq, List.all_eq_true, List.mem_range] at h
  exact h
theorem notDemand_any (A : Option Addr) (n c B : Nat) (xs : Nat → Int) (o : Int) (w : World) (hx : Ints w B A n xs) (hB : B ≤ w.heap.size) (hn : n ≤ 9223372036854775807) (hnc : n ≤ c) (v : Bool) (hv : dmB o n xs = v) :
    Calls Try.prog 49 #[.agg #[.slice A n c, .int .i64 o]] w fun e w' => e = .returned (.bool (!v)) ∧ Below w.heap.size w w' := by
  have hb1 : Below w.heap.size w (w.alloc (.cells #[.slice A n c, .int .i64 o] 33)) := (Below.refl _ _).alloc (Nat.le_refl _) _
  have hcall := isDemand_any A n c B xs o (w.alloc (.cells #[.slice A n c, .int .i64 o] 33)) (hx.below (hb1.mono hB)) (by simp; omega) hn hnc
  rw [hv] at hcall
  clear hx
  go_enter Try.func49, Try.ntmps49
  go_wp2_with (go_at_call 50; refine hcall.mono ?_; rintro e w' ⟨rfl, hb2⟩)
  go_ret
  exact ⟨rfl, hb1.trans (hb2.mono (by simp))⟩
set_option maxHeartbeats 4000000 in
theorem indexD_any (A : Option Addr) (n c B : Nat) (fa : Nat → Option Addr) (fl fc : Nat → Nat) (fx : Nat → Nat → Int) (o : Nat → Int) (w : World) (hx : Dems w B A n fa fl fc fx o) (hB : B ≤ w.heap.size) (hn : n ≤ 12) :
    Calls Try.prog 75 #[.slice A n c, .func (.func 49) #[] #[]] w fun e w' => ∃ r : Int, e = .returned (.int .i64 r) ∧ decide (0 ≤ r) = (!dmsB n fl fx o) ∧ Below w.heap.size w w' := by
  have eg : ∀ args w, (callFunc 49 args).run Try.prog w = .ok (.enter 49 args) w := enters_of Try.func49 (by kernel_rfl) rfl
  replace hx := Lib.hid hx
  go_enter Try.func75, Try.ntmps75
  go_wp2_with fail
  go_loopw [5, 8] (fun v5 v8 wr => ∃ k : Nat, k ≤ n ∧ v8 = .int .i64 k ∧ Hid (∀ i, i < k → dmB (o i) (fl i) (fx i) = true) ∧ Below w.heap.size w wr) (fun v5 v8 _ => (n - intOf v8).toNat)
  case atStart => exact ⟨0, by omega, rfl, Lib.hid (fun i h => by omega), Below.refl _ _⟩
  case round =>
    obtain ⟨k, hk, rfl, hok, hbel⟩ := hrel
    have hsz := hbel.size
    by_cases hlt : k < n
    · obtain ⟨b, off, rfl, hb, hc⟩ := hx.out.1 (by omega)
      obtain ⟨g0, g1⟩ := hc k hlt
      obtain ⟨hI, hfc, hfm⟩ := hx.out.2 k hlt
      rw [← hbel.cell (by simp; omega)] at g0 g1
      clear hc
      obtain ⟨v, hv⟩ : ∃ v, dmB (o k) (fl k) (fx k) = v := ⟨_, rfl⟩
      have hcall := notDemand_any (fa k) (fl k) (fc k) B (fx k) (o k) wr (hI.below (hbel.mono hB)) (by omega) (by unfold maxLen at hfm; omega) hfc v hv
      have hyes := fun h => dmsB_no (n := n) (fl := fl) (fx := fx) (o := o) hlt h
      rw [hv] at hyes
      replace hv := Lib.hid hv
      replace hyes := Lib.hid hyes
      generalize fa k = A1 at g0 hcall
      generalize fc k = C1 at g0 hcall
      clear hI hfc hfm
      have hcall' : ∀ (F1 : Nat) (O1 : Int), fl k = F1 → o k = O1 → Calls Try.prog 49 #[.agg #[.slice A1 F1 C1, .int .i64 O1]] wr fun e w' => e = .returned (.bool (!v)) ∧ Below wr.heap.size wr w' := by
        intro F1 O1 h1 h2
        subst h1; subst h2
        exact hcall
      obtain ⟨F1, hF1⟩ : ∃ z, fl k = z := ⟨_, rfl⟩
      obtain ⟨O1, hO1⟩ : ∃ z, o k = z := ⟨_, rfl⟩
      have hcall2 := hcall' F1 O1 hF1 hO1
      rw [hF1] at g0
      rw [hO1] at g1
      clear hcall hcall' hF1 hO1
      cases v with
      | false =>
        go_wp2_with (go_at_fn 49; refine hcall2.mono ?_; rintro e w' ⟨rfl, hb'⟩)
        go_ret
        exact ⟨_, rfl, by rw [hyes.out (by trivial)]; simp, hbel.trans (hb'.mono hsz)⟩
      | true =>
        go_wp2_with (go_at_fn 49; refine hcall2.mono ?_; rintro e w' ⟨rfl, hb'⟩)
        go_roundw
        case rel =>
          refine ⟨k + 1, by omega, by go_num, Lib.hid (fun i hi => ?_), hbel.trans (hb'.mono hsz)⟩
          by_cases e : i = k
          · subst e; exact hv.out
          · exact hok.out i (by omega)
        case measure => simp [intOf]; omega
    · obtain rfl : k = n := by omega
      go_wp2
      go_ret
      exact ⟨_, rfl, by rw [dmsB_all hok.out, decide_eq_true hn]; rfl, hbel⟩
theorem containsD_any (A : Option Addr) (n c B : Nat) (fa : Nat → Option Addr) (fl fc : Nat → Nat) (fx : Nat → Nat → Int) (o : Nat → Int) (w : World) (hx : Dems w B A n fa fl fc fx o) (hB : B ≤ w.heap.size) (hn : n ≤ 12) :
    Calls Try.prog 48 #[.slice A n c, .func (.func 49) #[] #[]] w fun e w' => e = .returned (.bool (!dmsB n fl fx o)) ∧ Below w.heap.size w w' := by
  go_enter Try.func48, Try.ntmps48
  go_wp2_with fail
  refine (indexD_any _ _ _ _ _ _ _ _ _ _ hx hB hn).mono ?_
  rintro e w' ⟨r, rfl, hr, hb⟩
  go_wp2
  go_ret
  exact ⟨by rw [← hr]; rfl, hb⟩
theorem isDemands_val (A : Option Addr) (n c B : Nat) (fa : Nat → Option Addr) (fl fc : Nat → Nat) (fx : Nat → Nat → Int) (o : Nat → Int) (w : World) (v : Bool) (hv : Hid (dmsB n fl fx o = v)) (hx : Dems w B A n fa fl fc fx o) (hB : B ≤ w.heap.size) (hn : n ≤ maxLen) :
    Calls Try.prog 14 #[.slice A n c] w fun e w' => e = .returned (.bool v) ∧ Below w.heap.size w w' := by
  unfold maxLen at hn
  by_cases h : 12 < n
  · have hv' : v = false := by
      rw [← hv.out]
      unfold dmsB
      rw [show decide (n ≤ 12) = false by simp; omega]
      rfl
    subst hv'
    have h' : ¬ (n : Int) ≤ 12 := by omega
    clear hv hx
    go_enter Try.func14, Try.ntmps14
    go_wp2
    go_ret
    exact ⟨rfl, Below.refl _ _⟩
  · have hcall := containsD_any A n c B fa fl fc fx o w hx hB (by omega)
    rw [hv.out] at hcall
    have h' : (n : Int) ≤ 12 := by omega
    clear hv hx
    go_enter Try.func14, Try.ntmps14
    go_wp2_with (go_at_call 48; refine hcall.mono ?_; rintro e w' ⟨rfl, hb⟩)
    go_ret
    exact ⟨by simp, hb⟩
set_option maxHeartbeats 4000000 in
theorem sIsDemands_val (A : Option Addr) (n c B : Nat) (fa : Nat → Option Addr) (fl fc : Nat → Nat) (fx : Nat → Nat → Int) (o : Nat → Int) (w : World) (v : Bool) (hv : Hid (dmsB n fl fx o = v)) (hx : Dems w B A n fa fl fc fx o) (hB : B ≤ w.heap.size) (hn : n ≤ maxLen) :
    Calls Try.prog 12 #[.slice A n c] w fun e w' => e = .returned (.bool v) ∧ Below w.heap.size w w' := by
  unfold maxLen at hn
  replace hx := Lib.hid hx
  go_enter Try.func12, Try.ntmps12
  go_wp2_with fail
  go_loopw [3] (fun v3 wr => ∃ k : Nat, k ≤ n ∧ v3 = .int .i64 k ∧ Hid (∀ i, i < k → dmB (o i) (fl i) (fx i) = true) ∧ Below w.heap.size w wr) (fun v3 _ => (n - intOf v3).toNat)
  case atStart => exact ⟨0, by omega, rfl, Lib.hid (fun i h => by omega), Below.refl _ _⟩
  case round =>
    obtain ⟨k, hk, rfl, hok, hbel⟩ := hrel
    have hsz := hbel.size
    by_cases hlt : k < n
    · obtain ⟨b, off, rfl, hb, hc⟩ := hx.out.1 (by omega)
      obtain ⟨g0, g1⟩ := hc k hlt
      obtain ⟨hI, hfc, hfm⟩ := hx.out.2 k hlt
      rw [← hbel.cell (by simp; omega)] at g0 g1
      clear hc
      have hcall := l18Demand_any (fa k) (fl k) (fc k) B (fx k) (o k) wr (hI.below (hbel.mono hB)) (by omega) (by unfold maxLen at hfm; omega)
      have hyes := fun h => dmsB_no (n := n) (fl := fl) (fx := fx) (o := o) hlt h
      rw [hv.out] at hyes
      obtain ⟨d, hd⟩ : ∃ d, dmB (o k) (fl k) (fx k) = d := ⟨_, rfl⟩
      rw [hd] at hcall hyes
      generalize fa k = A1 at g0 hcall
      generalize fc k = C1 at g0 hcall
      replace hd := Lib.hid hd
      replace hyes := Lib.hid hyes
      clear hI hfc hfm
      generalize hF : fl k = F1 at g0 hcall
      generalize hO : o k = O1 at g1 hcall
      replace hF := Lib.hid hF
      replace hO := Lib.hid hO
      cases d with
      | false =>
        go_wp2_with (go_at_call 46; refine hcall.mono ?_; rintro e w' ⟨rfl, hb'⟩)
        go_ret
        exact ⟨by rw [hyes.out (by trivial)]; rfl, hbel.trans (hb'.mono hsz)⟩
      | true =>
        go_wp2_with (go_at_call 46; refine hcall.mono ?_; rintro e w' ⟨rfl, hb'⟩)
        go_roundw
        case rel =>
          refine ⟨k + 1, by omega, by go_num, Lib.hid (fun i hi => ?_), hbel.trans (hb'.mono hsz)⟩
          by_cases e : i = k
          · subst e; exact hd.out
          · exact hok.out i (by omega)
        case measure => simp [intOf]; omega
    · obtain rfl : k = n := by omega
      have hvk : decide ((k : Int) ≤ 12) = v := by
        rw [← hv.out, dmsB_all hok.out]
        simp
        omega
      replace hvk := Lib.hid hvk
      go_wp2
      go_ret
      exact ⟨by rw [← hvk.out]; rfl, hbel⟩
end Go.Proofs.Ytcilgohjeobamaa
