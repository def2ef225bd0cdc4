/- Appeals: IsHistory, IsOpenCase, FinalFrom: the program's and the reference's. -/
import Derived.Test.YteacjoemlobmoaaDoorApp2
set_option linter.unusedSimpArgs false
set_option linter.unusedVariables false
namespace Go.Proofs.YteacjoemlobmoaaDoor
open Go.RowKit

def openV (n : Nat) (xs : Nat → Int) : Bool × Int := if hisB n xs = true then (!(runS xs n).1.1, 0) else (false, 1)
def fin1 (s : St) (f : Int) : Int := if s.2.2.2.1 = true then f else max f (s.2.1 + 86400001)
def fin2 (s : St) (f : Int) : Int := if s.2.2.2.2 = true then f else max f (s.2.2.1 + 604800001)
def finV (n : Nat) (xs : Nat → Int) : Int × Int :=
  if hisB n xs = true then
    (if (runS xs n).1.1 = true then
      (if 1000000000 < fin2 (runS xs n).1 (fin1 (runS xs n).1 (xs ((n - 1) * 3))) then (0, 3) else (fin2 (runS xs n).1 (fin1 (runS xs n).1 (xs ((n - 1) * 3))), 0))
    else (0, 5))
  else (0, 1)
theorem ret2_i {a b c d : Int} (h : a = b) (h2 : c = d) : Ending.returned (.tuple #[.int .i64 a, .int .i64 c]) = .returned (.tuple #[.int .i64 b, .int .i64 d]) := by rw [h, h2]

theorem runHistory_val (A : Option Addr) (n c B : Nat) (xs : Nat → Int) (w : World) (v d : Bool) (a c' : Int) (p q : Bool) (hv : Hid (hisB n xs = v)) (hR : Hid ((runS xs n).1 = (d, a, c', p, q))) (hx : Ints w B A (n * 3) xs) (hB : B ≤ w.heap.size) (hn : n ≤ 9223372036854775807) :
    Calls Tryd.prog 29 #[.slice A n c] w fun e w' => e = .returned (.tuple #[.agg #[.bool d, .int .i64 a, .int .i64 c', .bool p, .bool q], .bool v]) ∧ Below w.heap.size w w' := by
  have h := runHistory_any A n c B xs w hx hB hn
  rw [hv.out, hR.out] at h
  exact h

theorem l19Run_val (A : Option Addr) (n c B : Nat) (xs : Nat → Int) (w : World) (v d : Bool) (a c' : Int) (p q : Bool) (hv : Hid (hisB n xs = v)) (hR : Hid ((runS xs n).1 = (d, a, c', p, q))) (hx : Ints w B A (n * 3) xs) (hB : B ≤ w.heap.size) (hn : n ≤ 9223372036854775807) :
    Calls Tryd.prog 30 #[.slice A n c] w fun e w' => e = .returned (.tuple #[.agg #[.bool (!d), .int .i64 a, .int .i64 c', .bool p, .bool q], .bool v]) ∧ Below w.heap.size w w' := by
  have h := l19Run_any A n c B xs w hx hB hn
  rw [hv.out, hR.out] at h
  exact h

theorem isHistory_any (A : Option Addr) (n c B : Nat) (xs : Nat → Int) (w : World) (hx : Ints w B A (n * 3) xs) (hB : B ≤ w.heap.size) (hn : n ≤ 9223372036854775807) :
    Calls Tryd.prog 13 #[.slice A n c] w fun e w' => e = .returned (.bool (hisB n xs)) ∧ Below w.heap.size w w' := by
  generalize hR : (runS xs n).1 = R
  obtain ⟨d, a, c', p, q⟩ := R
  replace hR := Lib.hid hR
  generalize hv : hisB n xs = v
  replace hv := Lib.hid hv
  replace hx := Lib.hid hx
  go_enter Tryd.func13, Tryd.ntmps13
  go_wp2_with fail
  refine (runHistory_val _ _ _ _ _ _ v _ _ _ _ _ hv hR hx.out hB hn).mono ?_
  rintro e w' ⟨rfl, hb⟩
  go_wp2
  go_ret
  exact ⟨rfl, hb.alloc hb.size _⟩

set_option maxHeartbeats 4000000 in
theorem finalFrom_any (A : Option Addr) (n c B : Nat) (xs : Nat → Int) (w : World) (hx : Ints w B A (n * 3) xs) (hB : B ≤ w.heap.size) (hn : n ≤ 9223372036854775807) :
    Calls Tryd.prog 19 #[.slice A n c] w fun e w' => e = .returned (.tuple #[.int .i64 (finV n xs).1, .int .i64 (finV n xs).2]) ∧ Below w.heap.size w w' := by
  have hin := run_in xs n
  have hd0 : (runS xs n).1.1 = true → 0 < n := by
    intro h
    rcases Nat.eq_zero_or_pos n with rfl | h0
    · simp [runS] at h
    · exact h0
  unfold finV
  generalize hR : (runS xs n).1 = R at hin hd0 ⊢
  obtain ⟨d, a, c', p, q⟩ := R
  replace hR := Lib.hid hR
  dsimp only at hin hd0 ⊢
  replace hx := Lib.hid hx
  cases hv : hisB n xs with
  | false =>
    replace hv := Lib.hid hv
    rw [if_neg (by simp)]
    go_enter Tryd.func19, Tryd.ntmps19
    go_wp2_with fail
    refine (runHistory_val _ _ _ _ _ _ false _ _ _ _ _ hv hR hx.out hB hn).mono ?_
    rintro e w' ⟨rfl, hb⟩
    go_wp2
    go_ret2
    exact ⟨rfl, hb.alloc hb.size _⟩
  | true =>
  replace hv := Lib.hid hv
  rw [if_pos rfl]
  cases d with
  | false =>
    rw [if_neg (by simp)]
    go_enter Tryd.func19, Tryd.ntmps19
    go_wp2_with fail
    refine (runHistory_val _ _ _ _ _ _ true _ _ _ _ _ hv hR hx.out hB hn).mono ?_
    rintro e w' ⟨rfl, hb⟩
    go_wp2
    go_ret2
    exact ⟨rfl, hb.alloc hb.size _⟩
  | true =>
  rw [if_pos rfl]
  obtain ⟨m, rfl⟩ : ∃ m, n = m + 1 := ⟨n - 1, by have := hd0 rfl; omega⟩
  clear hd0
  obtain ⟨b, o, rfl, hadB, hcode⟩ := hx.out (by omega)
  have g0 : w.cell? ⟨b, o + m * 3, none⟩ = some (.int .i64 (xs (m * 3))) := hcode (m * 3) (by omega)
  clear hcode
  rw [show (m + 1 - 1) * 3 = m * 3 by omega]
  generalize hf : xs (m * 3) = f at g0
  have hwr : IntKind.i64.wrap (m : Int) = m := IntWalk.i64_in _ (by omega)
  cases p with
  | true =>
    cases q with
    | true =>
      have e1 : fin1 (true, a, c', true, true) f = f := by simp [fin1]
      have e2 : fin2 (true, a, c', true, true) f = f := by simp [fin2]
      rw [e1, e2]
      clear e1 e2
      by_cases h : 1000000000 < f
      · rw [if_pos h]
        have hMM := Lib.hid h
        clear h
        go_enter Tryd.func19, Tryd.ntmps19
        go_wp2_with fail
        refine (runHistory_val _ _ _ _ _ _ true _ _ _ _ _ hv hR hx.out hB hn).mono ?_
        rintro e w' ⟨rfl, hb⟩
        have g1 : w'.cell? ⟨b, o + m * 3, none⟩ = some (.int .i64 f) := (hb.cell (p := ⟨_, _, none⟩) (by simp; omega)).trans g0
        have hlt : b < w'.heap.size := by have := hb.size; omega
        go_wp2
        all_goals (go_ret2; have hMM := hMM.out; exact ⟨ret2_i (by omega) (by omega), hb.alloc hb.size _⟩)
      · rw [if_neg h]
        have hMM := Lib.hid h
        clear h
        go_enter Tryd.func19, Tryd.ntmps19
        go_wp2_with fail
        refine (runHistory_val _ _ _ _ _ _ true _ _ _ _ _ hv hR hx.out hB hn).mono ?_
        rintro e w' ⟨rfl, hb⟩
        have g1 : w'.cell? ⟨b, o + m * 3, none⟩ = some (.int .i64 f) := (hb.cell (p := ⟨_, _, none⟩) (by simp; omega)).trans g0
        have hlt : b < w'.heap.size := by have := hb.size; omega
        go_wp2
        all_goals (go_ret2; have hMM := hMM.out; exact ⟨ret2_i (by omega) (by omega), hb.alloc hb.size _⟩)
    | false =>
      have e1 : fin1 (true, a, c', true, false) f = f := by simp [fin1]
      have e2 : fin2 (true, a, c', true, false) f = (max f (c' + 604800001)) := by simp [fin2]
      rw [e1, e2]
      clear e1 e2
      by_cases h : 1000000000 < (max f (c' + 604800001))
      · rw [if_pos h]
        have hMM := Lib.hid h
        clear h
        go_enter Tryd.func19, Tryd.ntmps19
        go_wp2_with fail
        refine (runHistory_val _ _ _ _ _ _ true _ _ _ _ _ hv hR hx.out hB hn).mono ?_
        rintro e w' ⟨rfl, hb⟩
        have g1 : w'.cell? ⟨b, o + m * 3, none⟩ = some (.int .i64 f) := (hb.cell (p := ⟨_, _, none⟩) (by simp; omega)).trans g0
        have hlt : b < w'.heap.size := by have := hb.size; omega
        go_wp2
        all_goals (go_ret2; have hMM := hMM.out; exact ⟨ret2_i (by omega) (by omega), hb.alloc hb.size _⟩)
      · rw [if_neg h]
        have hMM := Lib.hid h
        clear h
        go_enter Tryd.func19, Tryd.ntmps19
        go_wp2_with fail
        refine (runHistory_val _ _ _ _ _ _ true _ _ _ _ _ hv hR hx.out hB hn).mono ?_
        rintro e w' ⟨rfl, hb⟩
        have g1 : w'.cell? ⟨b, o + m * 3, none⟩ = some (.int .i64 f) := (hb.cell (p := ⟨_, _, none⟩) (by simp; omega)).trans g0
        have hlt : b < w'.heap.size := by have := hb.size; omega
        go_wp2
        all_goals (go_ret2; have hMM := hMM.out; exact ⟨ret2_i (by omega) (by omega), hb.alloc hb.size _⟩)
  | false =>
    cases q with
    | true =>
      have e1 : fin1 (true, a, c', false, true) f = (max f (a + 86400001)) := by simp [fin1]
      have e2 : fin2 (true, a, c', false, true) (max f (a + 86400001)) = (max f (a + 86400001)) := by simp [fin2]
      rw [e1, e2]
      clear e1 e2
      by_cases h : 1000000000 < (max f (a + 86400001))
      · rw [if_pos h]
        have hMM := Lib.hid h
        clear h
        go_enter Tryd.func19, Tryd.ntmps19
        go_wp2_with fail
        refine (runHistory_val _ _ _ _ _ _ true _ _ _ _ _ hv hR hx.out hB hn).mono ?_
        rintro e w' ⟨rfl, hb⟩
        have g1 : w'.cell? ⟨b, o + m * 3, none⟩ = some (.int .i64 f) := (hb.cell (p := ⟨_, _, none⟩) (by simp; omega)).trans g0
        have hlt : b < w'.heap.size := by have := hb.size; omega
        go_wp2
        all_goals (go_ret2; have hMM := hMM.out; exact ⟨ret2_i (by omega) (by omega), hb.alloc hb.size _⟩)
      · rw [if_neg h]
        have hMM := Lib.hid h
        clear h
        go_enter Tryd.func19, Tryd.ntmps19
        go_wp2_with fail
        refine (runHistory_val _ _ _ _ _ _ true _ _ _ _ _ hv hR hx.out hB hn).mono ?_
        rintro e w' ⟨rfl, hb⟩
        have g1 : w'.cell? ⟨b, o + m * 3, none⟩ = some (.int .i64 f) := (hb.cell (p := ⟨_, _, none⟩) (by simp; omega)).trans g0
        have hlt : b < w'.heap.size := by have := hb.size; omega
        go_wp2
        all_goals (go_ret2; have hMM := hMM.out; exact ⟨ret2_i (by omega) (by omega), hb.alloc hb.size _⟩)
    | false =>
      have e1 : fin1 (true, a, c', false, false) f = (max f (a + 86400001)) := by simp [fin1]
      have e2 : fin2 (true, a, c', false, false) (max f (a + 86400001)) = (max (max f (a + 86400001)) (c' + 604800001)) := by simp [fin2]
      rw [e1, e2]
      clear e1 e2
      by_cases h : 1000000000 < (max (max f (a + 86400001)) (c' + 604800001))
      · rw [if_pos h]
        have hMM := Lib.hid h
        clear h
        go_enter Tryd.func19, Tryd.ntmps19
        go_wp2_with fail
        refine (runHistory_val _ _ _ _ _ _ true _ _ _ _ _ hv hR hx.out hB hn).mono ?_
        rintro e w' ⟨rfl, hb⟩
        have g1 : w'.cell? ⟨b, o + m * 3, none⟩ = some (.int .i64 f) := (hb.cell (p := ⟨_, _, none⟩) (by simp; omega)).trans g0
        have hlt : b < w'.heap.size := by have := hb.size; omega
        go_wp2
        all_goals (go_ret2; have hMM := hMM.out; exact ⟨ret2_i (by omega) (by omega), hb.alloc hb.size _⟩)
      · rw [if_neg h]
        have hMM := Lib.hid h
        clear h
        go_enter Tryd.func19, Tryd.ntmps19
        go_wp2_with fail
        refine (runHistory_val _ _ _ _ _ _ true _ _ _ _ _ hv hR hx.out hB hn).mono ?_
        rintro e w' ⟨rfl, hb⟩
        have g1 : w'.cell? ⟨b, o + m * 3, none⟩ = some (.int .i64 f) := (hb.cell (p := ⟨_, _, none⟩) (by simp; omega)).trans g0
        have hlt : b < w'.heap.size := by have := hb.size; omega
        go_wp2
        all_goals (go_ret2; have hMM := hMM.out; exact ⟨ret2_i (by omega) (by omega), hb.alloc hb.size _⟩)

theorem sIsHistory_any (A : Option Addr) (n c B : Nat) (xs : Nat → Int) (w : World) (hx : Ints w B A (n * 3) xs) (hB : B ≤ w.heap.size) (hn : n ≤ 9223372036854775807) :
    Calls Tryd.prog 14 #[.slice A n c] w fun e w' => e = .returned (.bool (hisB n xs)) ∧ Below w.heap.size w w' := by
  generalize hR : (runS xs n).1 = R
  obtain ⟨d, a, c', p, q⟩ := R
  replace hR := Lib.hid hR
  generalize hv : hisB n xs = v
  replace hv := Lib.hid hv
  replace hx := Lib.hid hx
  go_enter Tryd.func14, Tryd.ntmps14
  go_wp2_with fail
  refine (l19Run_val _ _ _ _ _ _ v _ _ _ _ _ hv hR hx.out hB hn).mono ?_
  rintro e w' ⟨rfl, hb⟩
  go_wp2
  go_ret
  exact ⟨rfl, hb.alloc hb.size _⟩

end Go.Proofs.YteacjoemlobmoaaDoor
