/- Penalties for a decision: the program's and the reference's. -/
import Derived.Test.YtcjeeampjhcljaaBase
import Derived.Test.YtcjeeampjhcljaaMInt64
import Derived.Test.YtcjeeampjhcljaaMPenalty
import Derived.Test.YtcjeeampjhcljaaSPenalty
set_option linter.unusedSimpArgs false
set_option linter.unusedVariables false
namespace Go.Proofs.Ytcjeeampjhcljaa
open Go.RowKit

theorem ret_b {a b : Bool} (h : a = b) : Ending.returned (.bool a) = .returned (.bool b) := by rw [h]
theorem own_base {w : World} {base b : Nat} {e : TypeId} {size : Nat} {v : Value} {n : Nat} {xs : List Value} (h : w.ownsRow base e size v n xs) (hb : b ≤ base) : w.ownsRow b e size v n xs :=
  ⟨h.1, h.2.imp id fun ⟨g, cap, cur, a, c, d⟩ => ⟨g, cap, cur, a, Nat.le_trans hb c, d⟩⟩
theorem own_lit {w : World} {g base n : Nat} {e : TypeId} {L : List Int} (h : Whole w g e (L.map (Value.int .i64)).toArray) (hb : base ≤ g) (hn : L.length = n) (hm : n ≤ 100) : w.ownsRow base e 1 (.slice (some ⟨g, 0, none⟩) n n) n (L.map (Value.int .i64)) :=
  ⟨by simp [hn], .inr ⟨g, n, _, rfl, hb, h, Nat.le_refl _, by simp only [maxLen]; omega, by simp [hn], by
    have e1 : n * 1 = (L.map (Value.int .i64)).length := by simp [hn]
    rw [e1]
    exact List.take_length⟩⟩
def parB (a b : Int) : Bool := inB a 0 15 && inB b 0 15 && (a != b)
def codeB (c : Int) : Bool := (c == 6) || (c == 7) || (c == 5)
def pbB (a b u : Int) : Bool := parB a b && inB u 0 3
/-- The boats that an outcome penalizes. -/
def pbL (a b u : Int) : List Int := if pbB a b u = true then (if u = 1 then [b] else if u = 2 then [a] else if u = 3 then [min a b, max a b] else []) else []
def pbC (a b u : Int) : Int := if pbB a b u = true then 0 else 2
theorem pbL_len (a b u : Int) : (pbL a b u).length ≤ 2 := by unfold pbL; repeat (first | split | simp)
/-- The penalties of the first boats of a list. -/
def penTo (race code : Int) (L : List Int) : Nat → List Int
  | 0 => []
  | k + 1 => penTo race code L k ++ [race, L.getD k 0, 1, code]
theorem penTo_len (race code : Int) (L : List Int) : ∀ k, (penTo race code L k).length = k * 4
  | 0 => rfl
  | k + 1 => by simp [penTo, penTo_len race code L k]; omega
def penB (race a b u code : Int) : Bool := pbB a b u && inB race 0 11 && codeB code
def penL (race a b u code : Int) : List Int := if penB race a b u code = true then penTo race code (pbL a b u) (pbL a b u).length else []
def penK (race a b u code : Int) : Nat := if penB race a b u code = true then (pbL a b u).length else 0
def penC (race a b u code : Int) : Int := if penB race a b u code = true then 0 else 2

theorem isBoat_any (n : Int) (w : World) :
    Calls Try.prog 19 #[.int .i64 n] w fun e w' => e = .returned (.bool (inB n 0 15)) ∧ w = w' := by
  go_enter Try.func19, Try.ntmps19
  go_wp2_with (go_at_call 13; refine (within_any _ _ _ _).mono ?_; rintro e w' ⟨rfl, rfl⟩)
  go_ret
  exact ⟨rfl, rfl⟩

theorem areParties_any (a b : Int) (w : World) :
    Calls Try.prog 17 #[.int .i64 a, .int .i64 b] w fun e w' => e = .returned (.bool (parB a b)) ∧ w = w' := by
  unfold parB
  cases h1 : inB a 0 15 with
  | false =>
    go_enter Try.func17, Try.ntmps17
    go_wp2_with (first | (go_at_call 19; refine (isBoat_any _ _).mono ?_; rintro e w' ⟨rfl, rfl⟩) | (go_at_call 13; refine (within_any _ _ _ _).mono ?_; rintro e w' ⟨rfl, rfl⟩))
    go_ret
    exact ⟨rfl, rfl⟩
  | true =>
    cases h2 : inB b 0 15 with
    | false =>
      go_enter Try.func17, Try.ntmps17
      go_wp2_with (first | (go_at_call 19; refine (isBoat_any _ _).mono ?_; rintro e w' ⟨rfl, rfl⟩) | (go_at_call 13; refine (within_any _ _ _ _).mono ?_; rintro e w' ⟨rfl, rfl⟩))
      go_ret
      exact ⟨rfl, rfl⟩
    | true =>
      cases h3 : (a != b) with
      | false =>
        go_enter Try.func17, Try.ntmps17
        go_wp2_with (first | (go_at_call 19; refine (isBoat_any _ _).mono ?_; rintro e w' ⟨rfl, rfl⟩) | (go_at_call 13; refine (within_any _ _ _ _).mono ?_; rintro e w' ⟨rfl, rfl⟩))
        go_ret
        exact ⟨rfl, rfl⟩
      | true =>
        go_enter Try.func17, Try.ntmps17
        go_wp2_with (first | (go_at_call 19; refine (isBoat_any _ _).mono ?_; rintro e w' ⟨rfl, rfl⟩) | (go_at_call 13; refine (within_any _ _ _ _).mono ?_; rintro e w' ⟨rfl, rfl⟩))
        go_ret
        exact ⟨rfl, rfl⟩
theorem isPenaltyCode_any (c : Int) (w : World) :
    Calls Try.prog 14 #[.int .i64 c] w fun e w' => e = .returned (.bool (codeB c)) ∧ w = w' := by
  unfold codeB
  cases h1 : (c == 6) with
  | true =>
    go_enter Try.func14, Try.ntmps14
    go_wp2
    go_ret
    exact ⟨rfl, rfl⟩
  | false =>
    cases h2 : (c == 7) with
    | true =>
      go_enter Try.func14, Try.ntmps14
      go_wp2
      go_ret
      exact ⟨rfl, rfl⟩
    | false =>
      cases h3 : (c == 5) with
      | true =>
        go_enter Try.func14, Try.ntmps14
        go_wp2
        go_ret
        exact ⟨rfl, rfl⟩
      | false =>
        go_enter Try.func14, Try.ntmps14
        go_wp2
        go_ret
        exact ⟨rfl, rfl⟩

theorem l18Parties_any (a b : Int) (w : World) :
    Calls Try.prog 16 #[.int .i64 a, .int .i64 b] w fun e w' => e = .returned (.bool (parB a b)) ∧ w = w' := by
  unfold parB
  cases h1 : inB a 0 15 with
  | false =>
    go_enter Try.func16, Try.ntmps16
    go_wp2_with (go_at_call 9; refine (l01In_any _ _ _ _).mono ?_; rintro e w' ⟨rfl, rfl⟩)
    go_ret
    exact ⟨rfl, rfl⟩
  | true =>
    cases h2 : inB b 0 15 with
    | false =>
      go_enter Try.func16, Try.ntmps16
      go_wp2_with (go_at_call 9; refine (l01In_any _ _ _ _).mono ?_; rintro e w' ⟨rfl, rfl⟩)
      go_ret
      exact ⟨rfl, rfl⟩
    | true =>
      cases h3 : (a != b) with
      | false =>
        go_enter Try.func16, Try.ntmps16
        go_wp2_with (go_at_call 9; refine (l01In_any _ _ _ _).mono ?_; rintro e w' ⟨rfl, rfl⟩)
        go_ret
        exact ⟨rfl, rfl⟩
      | true =>
        go_enter Try.func16, Try.ntmps16
        go_wp2_with (go_at_call 9; refine (l01In_any _ _ _ _).mono ?_; rintro e w' ⟨rfl, rfl⟩)
        go_ret
        exact ⟨rfl, rfl⟩
theorem l21Code_any (c : Int) (w : World) :
    Calls Try.prog 10 #[.int .i64 c] w fun e w' => e = .returned (.bool (codeB c)) ∧ w = w' := by
  unfold codeB
  cases h1 : (c == 6) with
  | true =>
    go_enter Try.func10, Try.ntmps10
    go_wp2
    go_ret
    exact ⟨rfl, rfl⟩
  | false =>
    cases h2 : (c == 7) with
    | true =>
      go_enter Try.func10, Try.ntmps10
      go_wp2
      go_ret
      exact ⟨rfl, rfl⟩
    | false =>
      cases h3 : (c == 5) with
      | true =>
        go_enter Try.func10, Try.ntmps10
        go_wp2
        go_ret
        exact ⟨rfl, rfl⟩
      | false =>
        go_enter Try.func10, Try.ntmps10
        go_wp2
        go_ret
        exact ⟨rfl, rfl⟩

theorem isOutcome_any (n : Int) (w : World) :
    Calls Try.prog 18 #[.int .i64 n] w fun e w' => e = .returned (.bool (inB n 0 3)) ∧ w = w' := by
  go_enter Try.func18, Try.ntmps18
  go_wp2_with (go_at_call 13; refine (within_any _ _ _ _).mono ?_; rintro e w' ⟨rfl, rfl⟩)
  go_ret
  exact ⟨rfl, rfl⟩

set_option maxHeartbeats 4000000 in
theorem penalizedBoats_any (a b u : Int) (w : World) :
    Calls Try.prog 12 #[.int .i64 a, .int .i64 b, .int .i64 u] w fun e w' => Gave 2 1 (pbL a b u).length w w' e (pbL a b u) (pbC a b u) := by
  cases hpar : parB a b with
  | false =>
    have hp : pbB a b u = false := by simp [pbB, hpar]
    have hv : pbL a b u = [] := by simp [pbL, hp]
    have hc : pbC a b u = 2 := by simp [pbC, hp]
    rw [hv, hc]
    clear hv hc
    go_enter Try.func12, Try.ntmps12
    go_wp2_with (first | (go_at_call 17; refine (areParties_any _ _ _).mono ?_; rintro e w' ⟨rfl, rfl⟩) | (go_at_call 18; refine (isOutcome_any _ _).mono ?_; rintro e w' ⟨rfl, rfl⟩))
    go_ret2
    exact gave_nil (Below.refl _ _)
  | true =>
  cases hu : inB u 0 3 with
  | false =>
    have hp : pbB a b u = false := by simp [pbB, hu]
    have hv : pbL a b u = [] := by simp [pbL, hp]
    have hc : pbC a b u = 2 := by simp [pbC, hp]
    rw [hv, hc]
    clear hv hc
    go_enter Try.func12, Try.ntmps12
    go_wp2_with (first | (go_at_call 17; refine (areParties_any _ _ _).mono ?_; rintro e w' ⟨rfl, rfl⟩) | (go_at_call 18; refine (isOutcome_any _ _).mono ?_; rintro e w' ⟨rfl, rfl⟩))
    go_ret2
    exact gave_nil (Below.refl _ _)
  | true =>
  have hp : pbB a b u = true := by simp [pbB, hpar, hu]
  have hc : pbC a b u = 0 := by simp [pbC, hp]
  rw [hc]
  clear hc
  have hu' := inB_t hu
  obtain rfl | rfl | rfl | rfl : u = 0 ∨ u = 1 ∨ u = 2 ∨ u = 3 := by omega
  · have hv : pbL a b 0 = [] := by simp [pbL, hp]
    rw [hv]
    clear hv
    go_enter Try.func12, Try.ntmps12
    go_wp2_with (first | (go_at_call 17; refine (areParties_any _ _ _).mono ?_; rintro e w' ⟨rfl, rfl⟩) | (go_at_call 18; refine (isOutcome_any _ _).mono ?_; rintro e w' ⟨rfl, rfl⟩))
    go_ret2
    exact gave_nil (Below.refl _ _)
  · have hab : a ≠ b := by intro h; subst h; simp [parB] at hpar
    have hv : pbL a b 1 = [b] := by simp [pbL, hp]
    rw [hv]
    clear hv
    go_enter Try.func12, Try.ntmps12
    go_wp2_with (first | (go_at_call 17; refine (areParties_any _ _ _).mono ?_; rintro e w' ⟨rfl, rfl⟩) | (go_at_call 18; refine (isOutcome_any _ _).mono ?_; rintro e w' ⟨rfl, rfl⟩))
    all_goals go_ret2
    
    all_goals exact ⟨_, _, rfl, by simp, own_lit (Whole.new w 2 _) (Nat.le_refl _) rfl (by simp), (Below.refl _ _).alloc (Nat.le_refl _) _⟩
  · have hab : a ≠ b := by intro h; subst h; simp [parB] at hpar
    have hv : pbL a b 2 = [a] := by simp [pbL, hp]
    rw [hv]
    clear hv
    go_enter Try.func12, Try.ntmps12
    go_wp2_with (first | (go_at_call 17; refine (areParties_any _ _ _).mono ?_; rintro e w' ⟨rfl, rfl⟩) | (go_at_call 18; refine (isOutcome_any _ _).mono ?_; rintro e w' ⟨rfl, rfl⟩))
    all_goals go_ret2
    
    all_goals exact ⟨_, _, rfl, by simp, own_lit (Whole.new w 2 _) (Nat.le_refl _) rfl (by simp), (Below.refl _ _).alloc (Nat.le_refl _) _⟩
  · have hab : a ≠ b := by intro h; subst h; simp [parB] at hpar
    have hv : pbL a b 3 = [min a b, max a b] := by simp [pbL, hp]
    rw [hv]
    clear hv
    go_enter Try.func12, Try.ntmps12
    go_wp2_with (first | (go_at_call 17; refine (areParties_any _ _ _).mono ?_; rintro e w' ⟨rfl, rfl⟩) | (go_at_call 18; refine (isOutcome_any _ _).mono ?_; rintro e w' ⟨rfl, rfl⟩))
    all_goals go_ret2
    all_goals first | (exfalso; omega) | rw [show min a b = a by omega, show max a b = b by omega] | rw [show min a b = b by omega, show max a b = a by omega]
    all_goals exact ⟨_, _, rfl, by simp, own_lit (Whole.new w 2 _) (Nat.le_refl _) rfl (by simp), (Below.refl _ _).alloc (Nat.le_refl _) _⟩

set_option maxHeartbeats 4000000 in
theorem sPenalizedBoats_any (a b u : Int) (w : World) :
    Calls Try.prog 11 #[.int .i64 a, .int .i64 b, .int .i64 u] w fun e w' => Gave 2 1 (pbL a b u).length w w' e (pbL a b u) (pbC a b u) := by
  cases hpar : parB a b with
  | false =>
    have hp : pbB a b u = false := by simp [pbB, hpar]
    have hv : pbL a b u = [] := by simp [pbL, hp]
    have hc : pbC a b u = 2 := by simp [pbC, hp]
    rw [hv, hc]
    clear hv hc
    go_enter Try.func11, Try.ntmps11
    go_wp2_with (first | (go_at_call 16; refine (l18Parties_any _ _ _).mono ?_; rintro e w' ⟨rfl, rfl⟩) | (go_at_call 9; refine (l01In_any _ _ _ _).mono ?_; rintro e w' ⟨rfl, rfl⟩))
    go_ret2
    exact gave_nil (Below.refl _ _)
  | true =>
  cases hu : inB u 0 3 with
  | false =>
    have hp : pbB a b u = false := by simp [pbB, hu]
    have hv : pbL a b u = [] := by simp [pbL, hp]
    have hc : pbC a b u = 2 := by simp [pbC, hp]
    rw [hv, hc]
    clear hv hc
    go_enter Try.func11, Try.ntmps11
    go_wp2_with (first | (go_at_call 16; refine (l18Parties_any _ _ _).mono ?_; rintro e w' ⟨rfl, rfl⟩) | (go_at_call 9; refine (l01In_any _ _ _ _).mono ?_; rintro e w' ⟨rfl, rfl⟩))
    go_ret2
    exact gave_nil (Below.refl _ _)
  | true =>
  have hp : pbB a b u = true := by simp [pbB, hpar, hu]
  have hc : pbC a b u = 0 := by simp [pbC, hp]
  rw [hc]
  clear hc
  have hu' := inB_t hu
  obtain rfl | rfl | rfl | rfl : u = 0 ∨ u = 1 ∨ u = 2 ∨ u = 3 := by omega
  · have hv : pbL a b 0 = [] := by simp [pbL, hp]
    rw [hv]
    clear hv
    go_enter Try.func11, Try.ntmps11
    go_wp2_with (first | (go_at_call 16; refine (l18Parties_any _ _ _).mono ?_; rintro e w' ⟨rfl, rfl⟩) | (go_at_call 9; refine (l01In_any _ _ _ _).mono ?_; rintro e w' ⟨rfl, rfl⟩))
    go_ret2
    exact ⟨_, _, rfl, by omega, own_lit (L := []) (Whole.new w 2 #[]) (Nat.le_refl _) rfl (by omega), (Below.refl _ _).alloc (Nat.le_refl _) _⟩
  · have hab : a ≠ b := by intro h; subst h; simp [parB] at hpar
    have hv : pbL a b 1 = [b] := by simp [pbL, hp]
    rw [hv]
    clear hv
    go_enter Try.func11, Try.ntmps11
    go_wp2_with (first | (go_at_call 16; refine (l18Parties_any _ _ _).mono ?_; rintro e w' ⟨rfl, rfl⟩) | (go_at_call 9; refine (l01In_any _ _ _ _).mono ?_; rintro e w' ⟨rfl, rfl⟩))
    all_goals go_ret2
    
    all_goals exact ⟨_, _, rfl, by simp, own_lit (Whole.new w 2 _) (Nat.le_refl _) rfl (by simp), (Below.refl _ _).alloc (Nat.le_refl _) _⟩
  · have hab : a ≠ b := by intro h; subst h; simp [parB] at hpar
    have hv : pbL a b 2 = [a] := by simp [pbL, hp]
    rw [hv]
    clear hv
    go_enter Try.func11, Try.ntmps11
    go_wp2_with (first | (go_at_call 16; refine (l18Parties_any _ _ _).mono ?_; rintro e w' ⟨rfl, rfl⟩) | (go_at_call 9; refine (l01In_any _ _ _ _).mono ?_; rintro e w' ⟨rfl, rfl⟩))
    all_goals go_ret2
    
    all_goals exact ⟨_, _, rfl, by simp, own_lit (Whole.new w 2 _) (Nat.le_refl _) rfl (by simp), (Below.refl _ _).alloc (Nat.le_refl _) _⟩
  · have hab : a ≠ b := by intro h; subst h; simp [parB] at hpar
    have hv : pbL a b 3 = [min a b, max a b] := by simp [pbL, hp]
    rw [hv]
    clear hv
    go_enter Try.func11, Try.ntmps11
    go_wp2_with (first | (go_at_call 16; refine (l18Parties_any _ _ _).mono ?_; rintro e w' ⟨rfl, rfl⟩) | (go_at_call 9; refine (l01In_any _ _ _ _).mono ?_; rintro e w' ⟨rfl, rfl⟩))
    all_goals go_ret2
    all_goals first | (exfalso; omega) | rw [show min a b = a by omega, show max a b = b by omega] | rw [show min a b = b by omega, show max a b = a by omega]
    all_goals exact ⟨_, _, rfl, by simp, own_lit (Whole.new w 2 _) (Nat.le_refl _) rfl (by simp), (Below.refl _ _).alloc (Nat.le_refl _) _⟩

theorem penalizedBoats_val (a b u : Int) (w : World) (K : Nat) (L : List Int) (co : Int) (hL : Hid (pbL a b u = L)) (hc : Hid (pbC a b u = co)) (hK : Hid (L.length = K)) :
    Calls Try.prog 12 #[.int .i64 a, .int .i64 b, .int .i64 u] w fun e w' => Gave 2 1 K w w' e L co := by
  have h1 := hL.out
  have h2 := hc.out
  have h3 := hK.out
  clear hL hc hK
  subst h1; subst h2; subst h3
  exact penalizedBoats_any a b u w

set_option maxHeartbeats 8000000 in
theorem penaltiesFor_any (race a b u code : Int) (w : World) :
    Calls Try.prog 5 #[.int .i64 race, .int .i64 a, .int .i64 b, .int .i64 u, .int .i64 code] w fun e w' => Gave 34 4 (penK race a b u code) w w' e (penL race a b u code) (penC race a b u code) := by
  unfold penL penK penC
  have hlen := pbL_len a b u
  have hpbB : pbB a b u = (pbC a b u == 0) := by unfold pbC; cases pbB a b u <;> simp
  have hpen : penB race a b u code = (pbB a b u && inB race 0 11 && codeB code) := rfl
  rw [hpbB] at hpen
  generalize penB race a b u code = pen at hpen ⊢
  generalize hL : pbL a b u = L at hlen ⊢
  generalize hK : L.length = K at hlen ⊢
  generalize hco : pbC a b u = co at hpen
  clear hpbB
  replace hL := Lib.hid hL
  replace hK := Lib.hid hK
  replace hco := Lib.hid hco
  cases h1 : (co == 0) with
  | false =>
    have hp : pen = false := by rw [hpen, h1]; rfl
    have h1' : (co != 0) = true := by simpa using h1
    subst hp
    rw [if_neg (by simp), if_neg (by simp), if_neg (by simp)]
    clear hpen
    cases h2 : inB race 0 11 with
    | false =>
      go_enter Try.func5, Try.ntmps5
      go_wp2_with (first | (go_at_call 13; refine (within_any _ _ _ _).mono ?_; rintro e w' ⟨rfl, rfl⟩) | (go_at_call 14; refine (isPenaltyCode_any _ _).mono ?_; rintro e w' ⟨rfl, rfl⟩) | fail)
      refine (penalizedBoats_val _ _ _ _ K L co hL hco hK).mono ?_
      rintro e w1 ⟨Ab, cb, rfl, hKm, hob, hb1⟩
      go_wp2_with (first | (go_at_call 13; refine (within_any _ _ _ _).mono ?_; rintro e w' ⟨rfl, rfl⟩) | (go_at_call 14; refine (isPenaltyCode_any _ _).mono ?_; rintro e w' ⟨rfl, rfl⟩))
      go_ret2
      exact gave_nil hb1
    | true =>
      cases h3 : codeB code with
      | false =>
        go_enter Try.func5, Try.ntmps5
        go_wp2_with (first | (go_at_call 13; refine (within_any _ _ _ _).mono ?_; rintro e w' ⟨rfl, rfl⟩) | (go_at_call 14; refine (isPenaltyCode_any _ _).mono ?_; rintro e w' ⟨rfl, rfl⟩) | fail)
        refine (penalizedBoats_val _ _ _ _ K L co hL hco hK).mono ?_
        rintro e w1 ⟨Ab, cb, rfl, hKm, hob, hb1⟩
        go_wp2_with (first | (go_at_call 13; refine (within_any _ _ _ _).mono ?_; rintro e w' ⟨rfl, rfl⟩) | (go_at_call 14; refine (isPenaltyCode_any _ _).mono ?_; rintro e w' ⟨rfl, rfl⟩))
        go_ret2
        exact gave_nil hb1
      | true =>
        go_enter Try.func5, Try.ntmps5
        go_wp2_with (first | (go_at_call 13; refine (within_any _ _ _ _).mono ?_; rintro e w' ⟨rfl, rfl⟩) | (go_at_call 14; refine (isPenaltyCode_any _ _).mono ?_; rintro e w' ⟨rfl, rfl⟩) | fail)
        refine (penalizedBoats_val _ _ _ _ K L co hL hco hK).mono ?_
        rintro e w1 ⟨Ab, cb, rfl, hKm, hob, hb1⟩
        go_wp2_with (first | (go_at_call 13; refine (within_any _ _ _ _).mono ?_; rintro e w' ⟨rfl, rfl⟩) | (go_at_call 14; refine (isPenaltyCode_any _ _).mono ?_; rintro e w' ⟨rfl, rfl⟩))
        go_ret2
        exact gave_nil hb1
  | true =>
  obtain rfl : co = 0 := by simpa using h1
  clear h1
  cases h2 : inB race 0 11 with
  | false =>
    have hp : pen = false := by rw [hpen, h2]; simp
    subst hp
    rw [if_neg (by simp), if_neg (by simp), if_neg (by simp)]
    clear hpen
    go_enter Try.func5, Try.ntmps5
    go_wp2_with (first | (go_at_call 13; refine (within_any _ _ _ _).mono ?_; rintro e w' ⟨rfl, rfl⟩) | (go_at_call 14; refine (isPenaltyCode_any _ _).mono ?_; rintro e w' ⟨rfl, rfl⟩) | fail)
    refine (penalizedBoats_val _ _ _ _ K L 0 hL hco hK).mono ?_
    rintro e w1 ⟨Ab, cb, rfl, hKm, hob, hb1⟩
    go_wp2_with (first | (go_at_call 13; refine (within_any _ _ _ _).mono ?_; rintro e w' ⟨rfl, rfl⟩) | (go_at_call 14; refine (isPenaltyCode_any _ _).mono ?_; rintro e w' ⟨rfl, rfl⟩))
    go_ret2
    exact gave_nil hb1
  | true =>
  cases h3 : codeB code with
  | false =>
    have hp : pen = false := by rw [hpen, h2, h3]; simp
    subst hp
    rw [if_neg (by simp), if_neg (by simp), if_neg (by simp)]
    clear hpen
    go_enter Try.func5, Try.ntmps5
    go_wp2_with (first | (go_at_call 13; refine (within_any _ _ _ _).mono ?_; rintro e w' ⟨rfl, rfl⟩) | (go_at_call 14; refine (isPenaltyCode_any _ _).mono ?_; rintro e w' ⟨rfl, rfl⟩) | fail)
    refine (penalizedBoats_val _ _ _ _ K L 0 hL hco hK).mono ?_
    rintro e w1 ⟨Ab, cb, rfl, hKm, hob, hb1⟩
    go_wp2_with (first | (go_at_call 13; refine (within_any _ _ _ _).mono ?_; rintro e w' ⟨rfl, rfl⟩) | (go_at_call 14; refine (isPenaltyCode_any _ _).mono ?_; rintro e w' ⟨rfl, rfl⟩))
    go_ret2
    exact gave_nil hb1
  | true =>
    have hp : pen = true := by rw [hpen, h2, h3]; simp
    subst hp
    rw [if_pos rfl, if_pos rfl, if_pos rfl]
    clear hpen
    obtain ⟨i0, hi, hz0', hz1', hz2'⟩ := info_parts infoPenalty
    replace hi := Lib.hid hi
    replace hz0' := Lib.hid hz0'
    replace hz1' := Lib.hid hz1'
    replace hz2' := Lib.hid hz2'
    go_enter Try.func5, Try.ntmps5
    go_wp2_with (first | (go_at_call 13; refine (within_any _ _ _ _).mono ?_; rintro e w' ⟨rfl, rfl⟩) | (go_at_call 14; refine (isPenaltyCode_any _ _).mono ?_; rintro e w' ⟨rfl, rfl⟩) | fail)
    refine (penalizedBoats_val _ _ _ _ K L 0 hL hco hK).mono ?_
    rintro e w1 ⟨Ab, cb, rfl, hKm, hob, hb1⟩
    have hz1 := hb1.size
    obtain ⟨gb, gl, gm, hRow⟩ := Row.of_own hob (Nat.mul_one _).symm
    have hI := hRow.ints
    replace hI := Lib.hid hI
    clear hRow hob gm
    go_wp2_with (first | (go_at_call 13; refine (within_any _ _ _ _).mono ?_; rintro e w' ⟨rfl, rfl⟩) | (go_at_call 14; refine (isPenaltyCode_any _ _).mono ?_; rintro e w' ⟨rfl, rfl⟩))
    have hown0 : (w1.alloc (.cells #[] 34)).ownsRow w1.heap.size 34 4 (.slice (some ⟨w1.heap.size, 0, none⟩) 0 0) 0 ((penTo race code L 0).map (Value.int .i64)) := own_empty (Whole.new w1 34 #[]) (Nat.le_refl _)
    have hA0 := (Below.refl w1.heap.size w1).alloc (Nat.le_refl _) (.cells #[] 34)
    go_loopw [14, 39] (fun vo vi wr => ∃ k : Nat, k ≤ K ∧ vi = .int .i64 k ∧ wr.ownsRow w1.heap.size 34 4 vo k ((penTo race code L k).map (Value.int .i64)) ∧ Below w1.heap.size w1 wr) (fun vo vi _ => (K - intOf vi).toNat)
    case atStart => exact ⟨0, by omega, rfl, hown0, hA0⟩
    case round =>
      obtain ⟨k, hk1, rfl, hown, hbel⟩ := hrel
      clear hown0 hA0
      have hsz := hbel.size
      by_cases h4 : k < K
      · obtain ⟨b0, o0, rfl, hbl, hcode⟩ := hI.out (by omega)
        have g0 : wr.cell? ⟨b0, o0 + k, none⟩ = some (.int .i64 (L.getD k 0)) := by rw [hbel.cell (by simp; omega)]; exact hcode k h4
        clear hcode
        obtain ⟨A', c', rfl, hnc, hcm⟩ := own_form hown
        have hstp : penTo race code L (k + 1) = penTo race code L k ++ [race, L.getD k 0, 1, code] := rfl
        generalize L.getD k 0 = bt at g0 hstp
        generalize penTo race code L k = P at hown hstp
        replace hstp := Lib.hid hstp
        go_wp2_with (at_builtin; refine wpList_append_own _ rfl _ _ 22 rfl w1.heap.size 34 i0 _ 4 32 Try.underlying22 hi.out hz0'.out hz1'.out hz2'.out rfl (by decide) _ _ _ rfl (hown.alloc _) ⟨wr.heap.size, 0, none⟩ 1 1 [.int .i64 race, .int .i64 bt, .int .i64 1, .int .i64 code] rfl rfl ?c1 ?c2 ?c3 ?c4 ?c5 ?_)
        case c1 =>
          intro j u hu
          rw [add_zero_off, (Whole.new wr 34 #[.int .i64 race, .int .i64 bt, .int .i64 1, .int .i64 code]).cell j]
          simpa using hu
        case c2 => simp [Value.oneCell']
        case c3 => simp only [maxLen]; omega
        case c4 => omega
        case c5 => simp; omega
        intro v' w3 hown3 hgrow _
        have hb3 : Below w1.heap.size w1 w3 := (hbel.alloc hsz _).trans (below_only hgrow (by simp; omega) (fun k hk => (hown.lt k hk).1))
        have hown4 : w3.ownsRow w1.heap.size 34 4 v' (k + 1) ((penTo race code L (k + 1)).map (Value.int .i64)) := by
          rw [hstp.out]; simpa using hown3
        go_wp2
        go_roundw
        case rel => exact ⟨k + 1, by omega, by go_num, hown4, hb3⟩
        case measure => simp [intOf]; omega
      · obtain rfl : k = K := by omega
        obtain ⟨A', c', rfl, hnc, hcm⟩ := own_form hown
        go_wp2
        go_ret2
        exact ⟨A', c', rfl, by omega, own_base hown hz1, hb1.trans (hbel.mono hz1)⟩

theorem penaltiesFor_val (race a b u code : Int) (w : World) (K : Nat) (L : List Int) (co : Int) (hL : Hid (penL race a b u code = L)) (hc : Hid (penC race a b u code = co)) (hK : Hid (penK race a b u code = K)) :
    Calls Try.prog 5 #[.int .i64 race, .int .i64 a, .int .i64 b, .int .i64 u, .int .i64 code] w fun e w' => Gave 34 4 K w w' e L co := by
  rw [← hL.out, ← hc.out, ← hK.out]
  exact penaltiesFor_any race a b u code w

theorem sPenalizedBoats_val (a b u : Int) (w : World) (K : Nat) (L : List Int) (co : Int) (hL : Hid (pbL a b u = L)) (hc : Hid (pbC a b u = co)) (hK : Hid (L.length = K)) :
    Calls Try.prog 11 #[.int .i64 a, .int .i64 b, .int .i64 u] w fun e w' => Gave 2 1 K w w' e L co := by
  have h1 := hL.out
  have h2 := hc.out
  have h3 := hK.out
  clear hL hc hK
  subst h1; subst h2; subst h3
  exact sPenalizedBoats_any a b u w

set_option maxHeartbeats 8000000 in
theorem sPenaltiesFor_any (race a b u code : Int) (w : World) :
    Calls Try.prog 4 #[.int .i64 race, .int .i64 a, .int .i64 b, .int .i64 u, .int .i64 code] w fun e w' => Gave 34 4 (penK race a b u code) w w' e (penL race a b u code) (penC race a b u code) := by
  unfold penL penK penC
  have hlen := pbL_len a b u
  have hpbB : pbB a b u = (pbC a b u == 0) := by unfold pbC; cases pbB a b u <;> simp
  have hpen : penB race a b u code = (pbB a b u && inB race 0 11 && codeB code) := rfl
  rw [hpbB] at hpen
  generalize penB race a b u code = pen at hpen ⊢
  generalize hL : pbL a b u = L at hlen ⊢
  generalize hK : L.length = K at hlen ⊢
  generalize hco : pbC a b u = co at hpen
  clear hpbB
  replace hL := Lib.hid hL
  replace hK := Lib.hid hK
  replace hco := Lib.hid hco
  cases h1 : (co == 0) with
  | false =>
    have hp : pen = false := by rw [hpen, h1]; rfl
    have h1' : (co != 0) = true := by simpa using h1
    subst hp
    rw [if_neg (by simp), if_neg (by simp), if_neg (by simp)]
    clear hpen
    cases h2 : inB race 0 11 with
    | false =>
      go_enter Try.func4, Try.ntmps4
      go_wp2_with (first | (go_at_call 9; refine (l01In_any _ _ _ _).mono ?_; rintro e w' ⟨rfl, rfl⟩) | (go_at_call 10; refine (l21Code_any _ _).mono ?_; rintro e w' ⟨rfl, rfl⟩))
      go_ret2
      exact gave_nil (Below.refl _ _)
    | true =>
      cases h3 : codeB code with
      | false =>
        go_enter Try.func4, Try.ntmps4
        go_wp2_with (first | (go_at_call 9; refine (l01In_any _ _ _ _).mono ?_; rintro e w' ⟨rfl, rfl⟩) | (go_at_call 10; refine (l21Code_any _ _).mono ?_; rintro e w' ⟨rfl, rfl⟩))
        go_ret2
        exact gave_nil (Below.refl _ _)
      | true =>
        go_enter Try.func4, Try.ntmps4
        go_wp2_with (first | (go_at_call 9; refine (l01In_any _ _ _ _).mono ?_; rintro e w' ⟨rfl, rfl⟩) | (go_at_call 10; refine (l21Code_any _ _).mono ?_; rintro e w' ⟨rfl, rfl⟩) | fail)
        refine (sPenalizedBoats_val _ _ _ _ K L co hL hco hK).mono ?_
        rintro e w1 ⟨Ab, cb, rfl, hKm, hob, hb1⟩
        go_wp2
        go_ret2
        exact gave_nil hb1
  | true =>
  obtain rfl : co = 0 := by simpa using h1
  clear h1
  cases h2 : inB race 0 11 with
  | false =>
    have hp : pen = false := by rw [hpen, h2]; simp
    subst hp
    rw [if_neg (by simp), if_neg (by simp), if_neg (by simp)]
    clear hpen
    go_enter Try.func4, Try.ntmps4
    go_wp2_with (first | (go_at_call 9; refine (l01In_any _ _ _ _).mono ?_; rintro e w' ⟨rfl, rfl⟩) | (go_at_call 10; refine (l21Code_any _ _).mono ?_; rintro e w' ⟨rfl, rfl⟩))
    go_ret2
    exact gave_nil (Below.refl _ _)
  | true =>
  cases h3 : codeB code with
  | false =>
    have hp : pen = false := by rw [hpen, h2, h3]; simp
    subst hp
    rw [if_neg (by simp), if_neg (by simp), if_neg (by simp)]
    clear hpen
    go_enter Try.func4, Try.ntmps4
    go_wp2_with (first | (go_at_call 9; refine (l01In_any _ _ _ _).mono ?_; rintro e w' ⟨rfl, rfl⟩) | (go_at_call 10; refine (l21Code_any _ _).mono ?_; rintro e w' ⟨rfl, rfl⟩))
    go_ret2
    exact gave_nil (Below.refl _ _)
  | true =>
    have hp : pen = true := by rw [hpen, h2, h3]; simp
    subst hp
    rw [if_pos rfl, if_pos rfl, if_pos rfl]
    clear hpen
    obtain ⟨i0, hi, hz0', hz1', hz2'⟩ := info_parts infoPenalty
    replace hi := Lib.hid hi
    replace hz0' := Lib.hid hz0'
    replace hz1' := Lib.hid hz1'
    replace hz2' := Lib.hid hz2'
    go_enter Try.func4, Try.ntmps4
    go_wp2_with (first | (go_at_call 9; refine (l01In_any _ _ _ _).mono ?_; rintro e w' ⟨rfl, rfl⟩) | (go_at_call 10; refine (l21Code_any _ _).mono ?_; rintro e w' ⟨rfl, rfl⟩) | fail)
    refine (sPenalizedBoats_val _ _ _ _ K L 0 hL hco hK).mono ?_
    rintro e w1 ⟨Ab, cb, rfl, hKm, hob, hb1⟩
    have hz1 := hb1.size
    obtain ⟨gb, gl, gm, hRow⟩ := Row.of_own hob (Nat.mul_one _).symm
    have hI := hRow.ints
    replace hI := Lib.hid hI
    clear hRow hob gm
    go_wp2_with (first | (go_at_call 9; refine (l01In_any _ _ _ _).mono ?_; rintro e w' ⟨rfl, rfl⟩) | (go_at_call 10; refine (l21Code_any _ _).mono ?_; rintro e w' ⟨rfl, rfl⟩))
    have hown0 : (w1.alloc (.cells #[] 34)).ownsRow w1.heap.size 34 4 (.slice (some ⟨w1.heap.size, 0, none⟩) 0 0) 0 ((penTo race code L 0).map (Value.int .i64)) := own_empty (Whole.new w1 34 #[]) (Nat.le_refl _)
    have hA0 := (Below.refl w1.heap.size w1).alloc (Nat.le_refl _) (.cells #[] 34)
    go_loopw [14, 15] (fun vo vi wr => ∃ k : Nat, k ≤ K ∧ vi = .int .i64 k ∧ wr.ownsRow w1.heap.size 34 4 vo k ((penTo race code L k).map (Value.int .i64)) ∧ Below w1.heap.size w1 wr) (fun vo vi _ => (K - intOf vi).toNat)
    case atStart => exact ⟨0, by omega, rfl, hown0, hA0⟩
    case round =>
      obtain ⟨k, hk1, rfl, hown, hbel⟩ := hrel
      clear hown0 hA0
      have hsz := hbel.size
      by_cases h4 : k < K
      · obtain ⟨b0, o0, rfl, hbl, hcode⟩ := hI.out (by omega)
        have g0 : wr.cell? ⟨b0, o0 + k, none⟩ = some (.int .i64 (L.getD k 0)) := by rw [hbel.cell (by simp; omega)]; exact hcode k h4
        clear hcode
        obtain ⟨A', c', rfl, hnc, hcm⟩ := own_form hown
        have hstp : penTo race code L (k + 1) = penTo race code L k ++ [race, L.getD k 0, 1, code] := rfl
        generalize L.getD k 0 = bt at g0 hstp
        generalize penTo race code L k = P at hown hstp
        replace hstp := Lib.hid hstp
        go_wp2_with (at_builtin; refine wpList_append_own _ rfl _ _ 22 rfl w1.heap.size 34 i0 _ 4 32 Try.underlying22 hi.out hz0'.out hz1'.out hz2'.out rfl (by decide) _ _ _ rfl (hown.alloc _) ⟨wr.heap.size, 0, none⟩ 1 1 [.int .i64 race, .int .i64 bt, .int .i64 1, .int .i64 code] rfl rfl ?c1 ?c2 ?c3 ?c4 ?c5 ?_)
        case c1 =>
          intro j u hu
          rw [add_zero_off, (Whole.new wr 34 #[.int .i64 race, .int .i64 bt, .int .i64 1, .int .i64 code]).cell j]
          simpa using hu
        case c2 => simp [Value.oneCell']
        case c3 => simp only [maxLen]; omega
        case c4 => omega
        case c5 => simp; omega
        intro v' w3 hown3 hgrow _
        have hb3 : Below w1.heap.size w1 w3 := (hbel.alloc hsz _).trans (below_only hgrow (by simp; omega) (fun k hk => (hown.lt k hk).1))
        have hown4 : w3.ownsRow w1.heap.size 34 4 v' (k + 1) ((penTo race code L (k + 1)).map (Value.int .i64)) := by
          rw [hstp.out]; simpa using hown3
        go_wp2
        go_roundw
        case rel => exact ⟨k + 1, by omega, by go_num, hown4, hb3⟩
        case measure => simp [intOf]; omega
      · obtain rfl : k = K := by omega
        obtain ⟨A', c', rfl, hnc, hcm⟩ := own_form hown
        go_wp2
        go_ret2
        exact ⟨A', c', rfl, by omega, own_base hown hz1, hb1.trans (hbel.mono hz1)⟩

theorem sPenaltiesFor_val (race a b u code : Int) (w : World) (K : Nat) (L : List Int) (co : Int) (hL : Hid (penL race a b u code = L)) (hc : Hid (penC race a b u code = co)) (hK : Hid (penK race a b u code = K)) :
    Calls Try.prog 4 #[.int .i64 race, .int .i64 a, .int .i64 b, .int .i64 u, .int .i64 code] w fun e w' => Gave 34 4 K w w' e L co := by
  rw [← hL.out, ← hc.out, ← hK.out]
  exact sPenaltiesFor_any race a b u code w

end Go.Proofs.Ytcjeeampjhcljaa
