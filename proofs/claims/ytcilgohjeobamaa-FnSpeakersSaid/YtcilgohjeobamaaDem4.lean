/- Demands that are met, and decisions. -/
import Derived.Test.YtcilgohjeobamaaDem3
set_option linter.unusedSimpArgs false
set_option linter.unusedVariables false
namespace Go.Proofs.Ytcilgohjeobamaa
open Go.RowKit Go.Shelf

def metE (F : Nat → Int) (f : Int) : Bool := if 0 < f then F (f - 1).toNat == 1 else if f < 0 then F (-f - 1).toNat == -1 else true
def metB (F : Nat → Int) (n : Nat) (xs : Nat → Int) : Bool := (List.range n).all fun i => metE F (xs i)
theorem metB_all {F : Nat → Int} {n : Nat} {xs : Nat → Int} (h : ∀ i, i < n → metE F (xs i) = true) : metB F n xs = true :=
  List.all_eq_true.2 (fun i hi => h i (List.mem_range.1 hi))
theorem metB_no {F : Nat → Int} {n : Nat} {xs : Nat → Int} {i : Nat} (hi : i < n) (h : metE F (xs i) = false) : metB F n xs = false :=
  List.all_eq_false.2 ⟨i, List.mem_range.2 hi, by rw [h]; simp⟩
theorem metB_t {F : Nat → Int} {n : Nat} {xs : Nat → Int} (h : metB F n xs = true) : ∀ i, i < n → metE F (xs i) = true := fun i hi => List.all_eq_true.1 h i (List.mem_range.2 hi)
theorem fokB_rng {n : Nat} {xs : Nat → Int} (h : fokB n xs = true) {i : Nat} (hi : i < n) : (1 ≤ xs i ∧ xs i ≤ 8) ∨ (-8 ≤ xs i ∧ xs i ≤ -1) := by
  have := fokB_t h i hi
  unfold okE inB at this
  simp only [Bool.and_eq_true, Bool.or_eq_true, decide_eq_true_eq] at this
  exact this.1.1
/-- The first demand that is met. -/
def decI (F : Nat → Int) (fl : Nat → Nat) (fx : Nat → Nat → Int) : Nat → Option Nat
  | 0 => none
  | k + 1 => match decI F fl fx k with
    | some j => some j
    | none => if metB F (fl k) (fx k) = true then some k else none
theorem decI_some {F : Nat → Int} {fl : Nat → Nat} {fx : Nat → Nat → Int} {k j : Nat} (h : decI F fl fx k = some j) : ∀ n, k ≤ n → decI F fl fx n = some j := by
  intro n
  induction n with
  | zero =>
    intro hk
    have e : k = 0 := by omega
    subst e
    exact h
  | succ n ih =>
    intro hk
    by_cases e : k = n + 1
    · subst e; exact h
    · unfold decI; rw [ih (by omega)]
theorem decI_lt {F : Nat → Int} {fl : Nat → Nat} {fx : Nat → Nat → Int} : ∀ (k j : Nat), decI F fl fx k = some j → j < k ∧ metB F (fl j) (fx j) = true ∧ ∀ i, i < j → metB F (fl i) (fx i) = false := by
  intro k
  induction k with
  | zero => intro j h; cases h
  | succ k ih =>
    intro j h
    unfold decI at h
    cases hk : decI F fl fx k with
    | some j' =>
      rw [hk] at h
      injection h with h
      subst h
      obtain ⟨h1, h2⟩ := ih _ hk
      exact ⟨by omega, h2⟩
    | none =>
      rw [hk] at h
      dsimp only at h
      split at h
      · rename_i hm
        injection h with h
        subst h
        refine ⟨by omega, hm, fun i hi => ?_⟩
        have : ∀ k, decI F fl fx k = none → ∀ i, i < k → metB F (fl i) (fx i) = false := by
          intro k
          induction k with
          | zero => intro _ i hi; omega
          | succ k ihk =>
            intro hd i hi
            unfold decI at hd
            cases hk2 : decI F fl fx k with
            | some j' => rw [hk2] at hd; cases hd
            | none =>
              rw [hk2] at hd
              dsimp only at hd
              by_cases e : i = k
              · subst e
                cases hm2 : metB F (fl i) (fx i) with
                | false => rfl
                | true => rw [if_pos hm2] at hd; cases hd
              · exact ihk hk2 i (by omega)
        exact this _ hk i hi
      · cases h
theorem decI_none {F : Nat → Int} {fl : Nat → Nat} {fx : Nat → Nat → Int} : ∀ k, decI F fl fx k = none → ∀ i, i < k → metB F (fl i) (fx i) = false := by
  intro k
  induction k with
  | zero => intro _ i hi; omega
  | succ k ihk =>
    intro hd i hi
    unfold decI at hd
    cases hk2 : decI F fl fx k with
    | some j' => rw [hk2] at hd; cases hd
    | none =>
      rw [hk2] at hd
      dsimp only at hd
      by_cases e : i = k
      · subst e
        cases hm2 : metB F (fl i) (fx i) with
        | false => rfl
        | true => rw [if_pos hm2] at hd; cases hd
      · exact ihk hk2 i (by omega)
def decV (F : Nat → Int) (n : Nat) (fl : Nat → Nat) (fx : Nat → Nat → Int) (o : Nat → Int) : Int × Int :=
  match decI F fl fx n with
  | some j => (o j, (j : Int))
  | none => (0, -1)
theorem decV_hit {F : Nat → Int} {n : Nat} {fl : Nat → Nat} {fx : Nat → Nat → Int} {o : Nat → Int} {k : Nat} (hk : k < n) (h : decI F fl fx k = none) (hm : metB F (fl k) (fx k) = true) : decV F n fl fx o = (o k, (k : Int)) := by
  have h1 : decI F fl fx (k + 1) = some k := by unfold decI; rw [h]; dsimp only; rw [if_pos hm]
  unfold decV
  rw [decI_some h1 n (by omega)]
theorem decI_step {F : Nat → Int} {fl : Nat → Nat} {fx : Nat → Nat → Int} {k : Nat} (h : decI F fl fx k = none) (hm : metB F (fl k) (fx k) = false) : decI F fl fx (k + 1) = none := by
  unfold decI; rw [h]; dsimp only; rw [hm, if_neg (by simp)]

set_option maxRecDepth 100000 in
set_option maxHeartbeats 8000000 in
theorem isMet_any (AF A : Option Addr) (cF n c BF B : Nat) (F xs : Nat → Int) (o : Int) (w : World) (hF : Ints w BF AF 8 F) (hBF : BF ≤ w.heap.size) (hx : Ints w B A n xs) (hB : B ≤ w.heap.size) (hv : fokB n xs = true) (v : Bool) (hm : metB F n xs = v) :
    Calls Try.prog 56 #[.slice AF 8 cF, .agg #[.slice A n c, .int .i64 o]] w fun e w' => e = .returned (.bool v) ∧ Below w.heap.size w w' := by
  have hn8 := fokB_le hv
  obtain ⟨bF, oF, rfl, hbF, hcF⟩ := hF (by omega)
  replace hx := Lib.hid hx
  replace hv := Lib.hid hv
  replace hcF := Lib.hid hcF
  replace hm := Lib.hid hm
  go_enter Try.func56, Try.ntmps56
  go_wp2_with fail
  go_loopw [10] (fun v8 wr => ∃ k : Nat, k ≤ n ∧ v8 = .int .i64 k ∧ Hid (∀ i, i < k → metE F (xs i) = true) ∧ Whole wr w.heap.size 33 #[.slice A n c, .int .i64 o] ∧ Below w.heap.size w wr) (fun v8 _ => (n - intOf v8).toNat)
  case atStart => exact ⟨0, by omega, rfl, Lib.hid (fun i h => by omega), Whole.new _ _ _, (Below.refl _ _).alloc (Nat.le_refl _) _⟩
  case round =>
    obtain ⟨k, hk, rfl, hok, hW, hbel⟩ := hrel
    have hsz := hbel.size
    have hlt0 := hW.lt
    have d0 := hW.cell 0
    simp at d0
    by_cases hlt : k < n
    · obtain ⟨b, o', rfl, hadB, hcode⟩ := hx.out (by omega)
      have g0 : wr.cell? ⟨b, o' + k, none⟩ = some (.int .i64 (xs k)) := by rw [hbel.cell (by simp; omega)]; exact hcode k (by omega)
      clear hcode
      have hf := fokB_rng hv.out hlt
      have hno : metE F (xs k) = false → v = false := fun h => by rw [← hm.out]; exact metB_no hlt h
      replace hno := Lib.hid hno
      obtain ⟨q, hq⟩ : ∃ q, metE F (xs k) = q := ⟨_, rfl⟩
      rw [hq] at hno
      have hstep : q = true → ∀ i, i < k + 1 → metE F (xs i) = true := fun h i hi => by
        by_cases e : i = k
        · subst e; rw [hq]; exact h
        · exact hok.out i (by omega)
      replace hstep := Lib.hid hstep
      generalize xs k = f at g0 hf hq
      rcases hf with ⟨f0, f1⟩ | ⟨f0, f1⟩
      · obtain ⟨a, ha⟩ : ∃ a : Nat, f = (a : Int) + 1 := ⟨(f - 1).toNat, by omega⟩
        have y := hcF.out a (by omega)
        rw [← hbel.cell (by simp; omega)] at y
        have hqa : metE F f = (F a == 1) := by
          unfold metE
          rw [if_pos (by omega), show (f - 1).toNat = a by omega]
        rw [hqa] at hq
        have hw1 : IntKind.i64.wrap (f - 1) = (a : Int) := by rw [IntKind.wrap_i64]; omega
        have ha8 : a < 8 := by omega
        have hp : 0 < f := by omega
        have hng : ¬ f < 0 := by omega
        clear ha hqa f0 f1
        generalize F a = z at y hq
        by_cases hz : z = 1
        · have hz1 : (z != 1) = false := by simpa using hz
          have hqt : q = true := by rw [← hq, beq_iff_eq]; exact hz
          have hst := Lib.hid (hstep.out hqt)
          subst hz
          clear hq hqt
          go_wp2
          go_roundw
          case rel => exact ⟨k + 1, by omega, by go_num, hst, hW, hbel⟩
          case measure => simp [intOf]; omega
        · have hz1 : (z != 1) = true := by simpa using hz
          have hvf : v = false := hno.out (by rw [← hq, beq_eq_false_iff_ne]; exact hz)
          subst hvf
          clear hq
          go_wp2
          go_ret
          exact ⟨rfl, hbel⟩
      · obtain ⟨a, ha⟩ : ∃ a : Nat, f = -((a : Int) + 1) := ⟨(-f - 1).toNat, by omega⟩
        have y := hcF.out a (by omega)
        rw [← hbel.cell (by simp; omega)] at y
        have hqa : metE F f = (F a == -1) := by
          unfold metE
          rw [if_neg (by omega), if_pos (by omega), show (-f - 1).toNat = a by omega]
        rw [hqa] at hq
        have hw1 : IntKind.i64.wrap (-f) = (a : Int) + 1 := by rw [IntKind.wrap_i64]; omega
        have hw2 : IntKind.i64.wrap ((a : Int) + 1 - 1) = (a : Int) := by rw [IntKind.wrap_i64]; omega
        have hw3 : IntKind.i64.wrap (a : Int) = (a : Int) := by rw [IntKind.wrap_i64]; omega
        have ha8 : a < 8 := by omega
        have hp : ¬ 0 < f := by omega
        have hng : f < 0 := by omega
        clear ha hqa f0 f1
        generalize F a = z at y hq
        by_cases hz : z = -1
        · have hz1 : (z != -1) = false := by simpa using hz
          have hqt : q = true := by rw [← hq, beq_iff_eq]; exact hz
          have hst := Lib.hid (hstep.out hqt)
          subst hz
          clear hq hqt
          go_wp2
          go_roundw
          case rel => exact ⟨k + 1, by omega, by go_num, hst, hW, hbel⟩
          case measure => simp [intOf]; omega
        · have hz1 : (z != -1) = true := by simpa using hz
          have hvf : v = false := hno.out (by rw [← hq, beq_eq_false_iff_ne]; exact hz)
          subst hvf
          clear hq
          go_wp2
          go_ret
          exact ⟨rfl, hbel⟩
    · obtain rfl : k = n := by omega
      have hvt : v = true := by rw [← hm.out]; exact metB_all hok.out
      subst hvt
      go_wp2
      go_ret
      exact ⟨rfl, hbel⟩
set_option maxRecDepth 100000 in
set_option maxHeartbeats 8000000 in
theorem l18Met_any (AF A : Option Addr) (cF n c BF B : Nat) (F xs : Nat → Int) (o : Int) (w : World) (hF : Ints w BF AF 8 F) (hBF : BF ≤ w.heap.size) (hx : Ints w B A n xs) (hB : B ≤ w.heap.size) (hv : fokB n xs = true) (v : Bool) (hm : metB F n xs = v) :
    Calls Try.prog 58 #[.slice AF 8 cF, .agg #[.slice A n c, .int .i64 o]] w fun e w' => e = .returned (.bool v) ∧ Below w.heap.size w w' := by
  have hn8 := fokB_le hv
  obtain ⟨bF, oF, rfl, hbF, hcF⟩ := hF (by omega)
  replace hx := Lib.hid hx
  replace hv := Lib.hid hv
  replace hcF := Lib.hid hcF
  replace hm := Lib.hid hm
  go_enter Try.func58, Try.ntmps58
  go_wp2_with fail
  go_loopw [5] (fun v8 wr => ∃ k : Nat, k ≤ n ∧ v8 = .int .i64 k ∧ Hid (∀ i, i < k → metE F (xs i) = true) ∧ Whole wr w.heap.size 33 #[.slice A n c, .int .i64 o] ∧ Below w.heap.size w wr) (fun v8 _ => (n - intOf v8).toNat)
  case atStart => exact ⟨0, by omega, rfl, Lib.hid (fun i h => by omega), Whole.new _ _ _, (Below.refl _ _).alloc (Nat.le_refl _) _⟩
  case round =>
    obtain ⟨k, hk, rfl, hok, hW, hbel⟩ := hrel
    have hsz := hbel.size
    have hlt0 := hW.lt
    have d0 := hW.cell 0
    simp at d0
    by_cases hlt : k < n
    · obtain ⟨b, o', rfl, hadB, hcode⟩ := hx.out (by omega)
      have g0 : wr.cell? ⟨b, o' + k, none⟩ = some (.int .i64 (xs k)) := by rw [hbel.cell (by simp; omega)]; exact hcode k (by omega)
      clear hcode
      have hf := fokB_rng hv.out hlt
      have hno : metE F (xs k) = false → v = false := fun h => by rw [← hm.out]; exact metB_no hlt h
      replace hno := Lib.hid hno
      obtain ⟨q, hq⟩ : ∃ q, metE F (xs k) = q := ⟨_, rfl⟩
      rw [hq] at hno
      have hstep : q = true → ∀ i, i < k + 1 → metE F (xs i) = true := fun h i hi => by
        by_cases e : i = k
        · subst e; rw [hq]; exact h
        · exact hok.out i (by omega)
      replace hstep := Lib.hid hstep
      generalize xs k = f at g0 hf hq
      rcases hf with ⟨f0, f1⟩ | ⟨f0, f1⟩
      · obtain ⟨a, ha⟩ : ∃ a : Nat, f = (a : Int) + 1 := ⟨(f - 1).toNat, by omega⟩
        have y := hcF.out a (by omega)
        rw [← hbel.cell (by simp; omega)] at y
        have hqa : metE F f = (F a == 1) := by
          unfold metE
          rw [if_pos (by omega), show (f - 1).toNat = a by omega]
        rw [hqa] at hq
        have hw1 : IntKind.i64.wrap (f - 1) = (a : Int) := by rw [IntKind.wrap_i64]; omega
        have ha8 : a < 8 := by omega
        have hp : 0 < f := by omega
        have hng : ¬ f < 0 := by omega
        clear ha hqa f0 f1
        generalize F a = z at y hq
        by_cases hz : z = 1
        · have hz1 : (z != 1) = false := by simpa using hz
          have hqt : q = true := by rw [← hq, beq_iff_eq]; exact hz
          have hst := Lib.hid (hstep.out hqt)
          subst hz
          clear hq hqt
          go_wp2
          go_roundw
          case rel => exact ⟨k + 1, by omega, by go_num, hst, hW, hbel⟩
          case measure => simp [intOf]; omega
        · have hz1 : (z != 1) = true := by simpa using hz
          have hvf : v = false := hno.out (by rw [← hq, beq_eq_false_iff_ne]; exact hz)
          subst hvf
          clear hq
          go_wp2
          go_ret
          exact ⟨rfl, hbel⟩
      · obtain ⟨a, ha⟩ : ∃ a : Nat, f = -((a : Int) + 1) := ⟨(-f - 1).toNat, by omega⟩
        have y := hcF.out a (by omega)
        rw [← hbel.cell (by simp; omega)] at y
        have hqa : metE F f = (F a == -1) := by
          unfold metE
          rw [if_neg (by omega), if_pos (by omega), show (-f - 1).toNat = a by omega]
        rw [hqa] at hq
        have hw1 : IntKind.i64.wrap (-f) = (a : Int) + 1 := by rw [IntKind.wrap_i64]; omega
        have hw2 : IntKind.i64.wrap ((a : Int) + 1 - 1) = (a : Int) := by rw [IntKind.wrap_i64]; omega
        have hw3 : IntKind.i64.wrap (a : Int) = (a : Int) := by rw [IntKind.wrap_i64]; omega
        have ha8 : a < 8 := by omega
        have hp : ¬ 0 < f := by omega
        have hng : f < 0 := by omega
        clear ha hqa f0 f1
        generalize F a = z at y hq
        by_cases hz : z = -1
        · have hz1 : (z != -1) = false := by simpa using hz
          have hqt : q = true := by rw [← hq, beq_iff_eq]; exact hz
          have hst := Lib.hid (hstep.out hqt)
          subst hz
          clear hq hqt
          go_wp2
          go_roundw
          case rel => exact ⟨k + 1, by omega, by go_num, hst, hW, hbel⟩
          case measure => simp [intOf]; omega
        · have hz1 : (z != -1) = true := by simpa using hz
          have hvf : v = false := hno.out (by rw [← hq, beq_eq_false_iff_ne]; exact hz)
          subst hvf
          clear hq
          go_wp2
          go_ret
          exact ⟨rfl, hbel⟩
    · obtain rfl : k = n := by omega
      have hvt : v = true := by rw [← hm.out]; exact metB_all hok.out
      subst hvt
      go_wp2
      go_ret
      exact ⟨rfl, hbel⟩
end Go.Proofs.Ytcilgohjeobamaa
