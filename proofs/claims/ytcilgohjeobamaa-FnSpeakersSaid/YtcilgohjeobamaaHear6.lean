/- FindFacts: the program's and the reference's. -/
import Derived.Test.YtcilgohjeobamaaHear5
set_option linter.unusedSimpArgs false
set_option linter.unusedVariables false
namespace Go.Proofs.Ytcilgohjeobamaa
open Go.RowKit Go.Shelf

def ptB (pb pa : Int) : Bool := inB pb 0 15 && inB pa 0 15 && (pb != pa)
def codF (pb pa : Int) (n : Nat) (xs : Nat → Int) : Int := if ptB pb pa = true then (if stB pb pa n xs = true then 0 else 1) else 2
def facL (pb pa : Int) (n : Nat) (xs : Nat → Int) : List Int := if codF pb pa n xs = 0 then (List.range 8).map (factV xs (-1) n) else []
def facK (pb pa : Int) (n : Nat) (xs : Nat → Int) : Nat := if codF pb pa n xs = 0 then 8 else 0
theorem own_of_sums {w : World} {base g : Nat} {v : Nat → Int} (h : SumsAt w g v) (hb : base ≤ g) : w.ownsRow base 2 1 (.slice (some ⟨g, 0, none⟩) 8 8) 8 (((List.range 8).map v).map (Value.int .i64)) := by
  obtain ⟨cs, hW, hz, hc⟩ := h
  refine ⟨by simp, .inr ⟨g, 8, cs, rfl, hb, hW, Nat.le_refl _, by simp [maxLen], by simpa using hz, ?_⟩⟩
  apply List.ext_getElem?
  intro i
  by_cases hi : i < 8
  · rw [List.getElem?_take, if_pos (by omega)]
    have := hc i hi
    simp only [Array.getElem?_toList] at *
    rw [this]
    simp [hi]
  · rw [List.getElem?_take, if_neg (by omega)]
    rw [List.getElem?_eq_none (by simp; omega)]
theorem isBoat_any (n : Int) (w : World) :
    Calls Try.prog 80 #[.int .i64 n] w fun e w' => e = .returned (.bool (inB n 0 15)) ∧ w = w' := by
  go_enter Try.func80, Try.ntmps80
  go_wp2_with (go_at_call 55; refine (within_any _ _ _ _).mono ?_; rintro e w' ⟨rfl, rfl⟩)
  go_ret
  exact ⟨rfl, rfl⟩
theorem areParties_any (pb pa : Int) (w : World) :
    Calls Try.prog 66 #[.int .i64 pb, .int .i64 pa] w fun e w' => e = .returned (.bool (ptB pb pa)) ∧ w = w' := by
  unfold ptB
  cases h1 : inB pb 0 15 with
  | false =>
    go_enter Try.func66, Try.ntmps66
    go_wp2_with (go_at_call 80; refine (isBoat_any _ _).mono ?_; rintro e w' ⟨rfl, rfl⟩)
    go_ret
    exact ⟨rfl, rfl⟩
  | true =>
  cases h2 : inB pa 0 15 with
  | false =>
    go_enter Try.func66, Try.ntmps66
    go_wp2_with (go_at_call 80; refine (isBoat_any _ _).mono ?_; rintro e w' ⟨rfl, rfl⟩)
    go_ret
    exact ⟨rfl, rfl⟩
  | true =>
    go_enter Try.func66, Try.ntmps66
    go_wp2_with (go_at_call 80; refine (isBoat_any _ _).mono ?_; rintro e w' ⟨rfl, rfl⟩)
    go_ret
    exact ⟨by simp, rfl⟩
theorem l18Parties_any (pb pa : Int) (w : World) :
    Calls Try.prog 77 #[.int .i64 pb, .int .i64 pa] w fun e w' => e = .returned (.bool (ptB pb pa)) ∧ w = w' := by
  unfold ptB
  cases h1 : inB pb 0 15 with
  | false =>
    go_enter Try.func77, Try.ntmps77
    go_wp2_with (go_at_call 57; refine (l01In_any _ _ _ _).mono ?_; rintro e w' ⟨rfl, rfl⟩)
    go_ret
    exact ⟨rfl, rfl⟩
  | true =>
  cases h2 : inB pa 0 15 with
  | false =>
    go_enter Try.func77, Try.ntmps77
    go_wp2_with (go_at_call 57; refine (l01In_any _ _ _ _).mono ?_; rintro e w' ⟨rfl, rfl⟩)
    go_ret
    exact ⟨rfl, rfl⟩
  | true =>
    go_enter Try.func77, Try.ntmps77
    go_wp2_with (go_at_call 57; refine (l01In_any _ _ _ _).mono ?_; rintro e w' ⟨rfl, rfl⟩)
    go_ret
    exact ⟨by simp, rfl⟩
theorem indexD_nil (w : World) : Calls Try.prog 75 #[.slice none 0 0, .func (.func 49) #[] #[]] w fun e w' => e = .returned (.int .i64 (-1)) ∧ w = w' := by
  go_enter Try.func75, Try.ntmps75
  go_wp2_with fail
  go_loopw [8] (fun v8 wr => v8 = .int .i64 0 ∧ wr = w) (fun v8 _ => 0)
  case atStart => exact ⟨rfl, rfl⟩
  case round =>
    obtain ⟨rfl, rfl⟩ := hrel
    go_wp2
    go_ret
    exact ⟨rfl, rfl⟩
theorem containsD_nil (w : World) : Calls Try.prog 48 #[.slice none 0 0, .func (.func 49) #[] #[]] w fun e w' => e = .returned (.bool false) ∧ w = w' := by
  go_enter Try.func48, Try.ntmps48
  go_wp2_with (go_at_call 75; refine (indexD_nil _).mono ?_; rintro e w' ⟨rfl, rfl⟩)
  go_ret
  exact ⟨rfl, rfl⟩
theorem isDemands_nil (w : World) : Calls Try.prog 14 #[.slice none 0 0] w fun e w' => e = .returned (.bool true) ∧ w = w' := by
  go_enter Try.func14, Try.ntmps14
  go_wp2_with (go_at_call 48; refine (containsD_nil _).mono ?_; rintro e w' ⟨rfl, rfl⟩)
  go_ret
  exact ⟨rfl, rfl⟩
theorem sIsDemands_nil (w : World) : Calls Try.prog 12 #[.slice none 0 0] w fun e w' => e = .returned (.bool true) ∧ w = w' := by
  go_enter Try.func12, Try.ntmps12
  go_wp2_with fail
  go_loopw [3] (fun v wr => v = .int .i64 0 ∧ wr = w) (fun v _ => 0)
  case atStart => exact ⟨rfl, rfl⟩
  case round =>
    obtain ⟨rfl, rfl⟩ := hrel
    go_wp2
    go_ret
    exact ⟨rfl, rfl⟩
set_option maxHeartbeats 2000000 in
theorem hearingCode_any (pb pa : Int) (A : Option Addr) (n c B : Nat) (xs : Nat → Int) (w : World) (hx : Ints w B A (n * 3) xs) (hB : B ≤ w.heap.size) (hn : n ≤ 9223372036854775807) (hnc : n ≤ c) :
    Calls Try.prog 62 #[.int .i64 pb, .int .i64 pa, .slice A n c, .slice none 0 0] w fun e w' => e = .returned (.int .i64 (codF pb pa n xs)) ∧ Below w.heap.size w w' := by
  unfold codF
  cases h1 : ptB pb pa with
  | false =>
    rw [if_neg (by simp)]
    go_enter Try.func62, Try.ntmps62
    go_wp2_with (go_at_call 66; refine (areParties_any _ _ _).mono ?_; rintro e w' ⟨rfl, rfl⟩)
    go_ret
    exact ⟨rfl, Below.refl _ _⟩
  | true =>
  rw [if_pos rfl]
  cases h2 : stB pb pa n xs with
  | false =>
    rw [if_neg (by simp)]
    go_enter Try.func62, Try.ntmps62
    go_wp2_with (first | (go_at_call 66; refine (areParties_any _ _ _).mono ?_; rintro e w' ⟨rfl, rfl⟩) | fail)
    refine (areStatements_any _ _ _ _ _ _ _ _ hx hB hn hnc).mono ?_
    rw [h2]
    rintro e w1 ⟨rfl, hb1⟩
    go_wp2
    go_ret
    exact ⟨rfl, hb1⟩
  | true =>
    rw [if_pos rfl]
    go_enter Try.func62, Try.ntmps62
    go_wp2_with (first | (go_at_call 66; refine (areParties_any _ _ _).mono ?_; rintro e w' ⟨rfl, rfl⟩) | fail)
    refine (areStatements_any _ _ _ _ _ _ _ _ hx hB hn hnc).mono ?_
    rw [h2]
    rintro e w1 ⟨rfl, hb1⟩
    go_wp2_with (go_at_call 14; refine (isDemands_nil _).mono ?_; rintro e w' ⟨rfl, rfl⟩)
    go_ret
    exact ⟨rfl, hb1⟩
set_option maxHeartbeats 2000000 in
theorem l18Code_any (pb pa : Int) (A : Option Addr) (n c B : Nat) (xs : Nat → Int) (w : World) (hx : Ints w B A (n * 3) xs) (hB : B ≤ w.heap.size) (hn : n ≤ 9223372036854775807) :
    Calls Try.prog 59 #[.int .i64 pb, .int .i64 pa, .slice A n c, .slice none 0 0] w fun e w' => e = .returned (.int .i64 (codF pb pa n xs)) ∧ Below w.heap.size w w' := by
  unfold codF
  cases h1 : ptB pb pa with
  | false =>
    rw [if_neg (by simp)]
    go_enter Try.func59, Try.ntmps59
    go_wp2_with (go_at_call 77; refine (l18Parties_any _ _ _).mono ?_; rintro e w' ⟨rfl, rfl⟩)
    go_ret
    exact ⟨rfl, Below.refl _ _⟩
  | true =>
  rw [if_pos rfl]
  cases h2 : stB pb pa n xs with
  | false =>
    rw [if_neg (by simp)]
    go_enter Try.func59, Try.ntmps59
    go_wp2_with (first | (go_at_call 77; refine (l18Parties_any _ _ _).mono ?_; rintro e w' ⟨rfl, rfl⟩) | fail)
    refine (l18Valid_any _ _ _ _ _ _ _ _ hx hB hn).mono ?_
    rw [h2]
    rintro e w1 ⟨rfl, hb1⟩
    go_wp2
    go_ret
    exact ⟨rfl, hb1⟩
  | true =>
    rw [if_pos rfl]
    go_enter Try.func59, Try.ntmps59
    go_wp2_with (first | (go_at_call 77; refine (l18Parties_any _ _ _).mono ?_; rintro e w' ⟨rfl, rfl⟩) | fail)
    refine (l18Valid_any _ _ _ _ _ _ _ _ hx hB hn).mono ?_
    rw [h2]
    rintro e w1 ⟨rfl, hb1⟩
    go_wp2_with (go_at_call 12; refine (sIsDemands_nil _).mono ?_; rintro e w' ⟨rfl, rfl⟩)
    go_ret
    exact ⟨rfl, hb1⟩
set_option maxHeartbeats 2000000 in
theorem findFactsF_any (pb pa : Int) (A : Option Addr) (n c B : Nat) (xs : Nat → Int) (w : World) (hx : Ints w B A (n * 3) xs) (hB : B ≤ w.heap.size) (hn : n ≤ 9223372036854775807) (hnc : n ≤ c) :
    Calls Try.prog 26 #[.int .i64 pb, .int .i64 pa, .slice A n c] w fun e w' => Gave 2 1 (facK pb pa n xs) w w' e (facL pb pa n xs) (codF pb pa n xs) := by
  have hcall := hearingCode_any pb pa A n c B xs w hx hB hn hnc
  have hco : codF pb pa n xs = 0 → stB pb pa n xs = true := fun h => by
    unfold codF at h
    split at h
    · split at h
      · assumption
      · omega
    · omega
  unfold facK facL
  generalize codF pb pa n xs = co at *
  by_cases h0 : co = 0
  · subst h0
    obtain ⟨n60, hok⟩ := stB_t (hco rfl)
    rw [if_pos rfl, if_pos rfl]
    clear hco
    go_enter Try.func26, Try.ntmps26
    go_wp2_with fail
    refine hcall.mono ?_
    rintro e w1 ⟨rfl, hb1⟩
    have hz1 := hb1.size
    go_wp2_with fail
    refine (findFacts_any _ _ _ _ _ _ _ (hx.below (hb1.mono hB)) (Nat.le_trans hB hz1) n60 (fun i hi => okT_t (hok i hi))).mono ?_
    rintro e w2 ⟨rfl, hS, hb2⟩
    go_wp2
    go_ret2
    exact ⟨_, _, rfl, by omega, own_of_sums hS hz1, hb1.trans (hb2.mono hz1)⟩
  · rw [if_neg h0, if_neg h0]
    have h0' : (co == 0) = false := by rw [beq_eq_false_iff_ne]; exact h0
    have h0'' : (co != 0) = true := by rw [bne, h0']; rfl
    clear hco
    go_enter Try.func26, Try.ntmps26
    go_wp2_with fail
    refine hcall.mono ?_
    rintro e w1 ⟨rfl, hb1⟩
    go_wp2
    go_ret2
    exact gave_nil hb1
set_option maxHeartbeats 2000000 in
theorem sFindFacts_any (pb pa : Int) (A : Option Addr) (n c B : Nat) (xs : Nat → Int) (w : World) (hx : Ints w B A (n * 3) xs) (hB : B ≤ w.heap.size) (hn : n ≤ 9223372036854775807) :
    Calls Try.prog 24 #[.int .i64 pb, .int .i64 pa, .slice A n c] w fun e w' => Gave 2 1 (facK pb pa n xs) w w' e (facL pb pa n xs) (codF pb pa n xs) := by
  have hcall := l18Code_any pb pa A n c B xs w hx hB hn
  have hco : codF pb pa n xs = 0 → stB pb pa n xs = true := fun h => by
    unfold codF at h
    split at h
    · split at h
      · assumption
      · omega
    · omega
  unfold facK facL
  generalize codF pb pa n xs = co at *
  by_cases h0 : co = 0
  · subst h0
    obtain ⟨n60, hok⟩ := stB_t (hco rfl)
    rw [if_pos rfl, if_pos rfl]
    clear hco
    go_enter Try.func24, Try.ntmps24
    go_wp2_with fail
    refine hcall.mono ?_
    rintro e w1 ⟨rfl, hb1⟩
    have hz1 := hb1.size
    go_wp2_with fail
    refine (l18Facts_any _ _ _ _ _ _ _ (hx.below (hb1.mono hB)) (Nat.le_trans hB hz1) n60 (fun i hi => okT_t (hok i hi))).mono ?_
    rintro e w2 ⟨rfl, hS, hb2⟩
    go_wp2
    go_ret2
    exact ⟨_, _, rfl, by omega, own_of_sums hS hz1, hb1.trans (hb2.mono hz1)⟩
  · rw [if_neg h0, if_neg h0]
    have h0' : (co == 0) = false := by rw [beq_eq_false_iff_ne]; exact h0
    have h0'' : (co != 0) = true := by rw [bne, h0']; rfl
    clear hco
    go_enter Try.func24, Try.ntmps24
    go_wp2_with fail
    refine hcall.mono ?_
    rintro e w1 ⟨rfl, hb1⟩
    go_wp2
    go_ret2
    exact gave_nil hb1
theorem findFacts_val (pb pa : Int) (A : Option Addr) (n c B : Nat) (xs : Nat → Int) (w : World) (K : Nat) (L : List Int) (co : Int) (hL : Hid (facL pb pa n xs = L)) (hc : Hid (codF pb pa n xs = co)) (hK : Hid (facK pb pa n xs = K)) (hx : Ints w B A (n * 3) xs) (hB : B ≤ w.heap.size) (hn : n ≤ 9223372036854775807) (hnc : n ≤ c) :
    Calls Try.prog 26 #[.int .i64 pb, .int .i64 pa, .slice A n c] w fun e w' => Gave 2 1 K w w' e L co := by
  rw [← hL.out, ← hc.out, ← hK.out]; exact findFactsF_any pb pa A n c B xs w hx hB hn hnc
theorem sFindFacts_val (pb pa : Int) (A : Option Addr) (n c B : Nat) (xs : Nat → Int) (w : World) (K : Nat) (L : List Int) (co : Int) (hL : Hid (facL pb pa n xs = L)) (hc : Hid (codF pb pa n xs = co)) (hK : Hid (facK pb pa n xs = K)) (hx : Ints w B A (n * 3) xs) (hB : B ≤ w.heap.size) (hn : n ≤ 9223372036854775807) :
    Calls Try.prog 24 #[.int .i64 pb, .int .i64 pa, .slice A n c] w fun e w' => Gave 2 1 K w w' e L co := by
  rw [← hL.out, ← hc.out, ← hK.out]; exact sFindFacts_any pb pa A n c B xs w hx hB hn
end Go.Proofs.Ytcilgohjeobamaa
