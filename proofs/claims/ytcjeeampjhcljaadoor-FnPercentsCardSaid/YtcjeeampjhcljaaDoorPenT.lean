/- A penalty's text: the program's and the reference's. -/
import Derived.Test.YtcjeeampjhcljaaDoorTxt
import Derived.Test.YtcjeeampjhcljaaDoorInv
set_option linter.unusedSimpArgs false
set_option linter.unusedVariables false
namespace Go.Proofs.YtcjeeampjhcljaaDoor
open Go.RowKit Go.Shelf

def codeB (c : Int) : Bool := (c == 6) || (c == 7) || (c == 5)
/-- Kind and value of a penalty as described. -/
def pvB (k v : Int) : Bool := if k = 1 then codeB v else if k = 2 then inB v 1 1000000000 else if k = 3 then inB v 1 100 else false
def penB (r b k v : Int) : Bool := inB r 0 11 && inB b 0 15 && pvB k v
/-- The codes' names, in order. -/
def wordC (i : Nat) : ByteArray := if i = 0 then ByteArray.mk #[70, 73, 78] else if i = 1 then ByteArray.mk #[68, 78, 67] else if i = 2 then ByteArray.mk #[68, 78, 83] else if i = 3 then ByteArray.mk #[79, 67, 83] else if i = 4 then ByteArray.mk #[68, 78, 70] else if i = 5 then ByteArray.mk #[82, 69, 84] else if i = 6 then ByteArray.mk #[68, 83, 81] else if i = 7 then ByteArray.mk #[68, 78, 69] else if i = 8 then ByteArray.mk #[66, 70, 68] else ByteArray.mk #[82, 68, 71]
def wordsC : Array Value := #[.string (ByteArray.mk #[70, 73, 78]), .string (ByteArray.mk #[68, 78, 67]), .string (ByteArray.mk #[68, 78, 83]), .string (ByteArray.mk #[79, 67, 83]), .string (ByteArray.mk #[68, 78, 70]), .string (ByteArray.mk #[82, 69, 84]), .string (ByteArray.mk #[68, 83, 81]), .string (ByteArray.mk #[68, 78, 69]), .string (ByteArray.mk #[66, 70, 68]), .string (ByteArray.mk #[82, 68, 71])]
theorem wordsC_get {i : Nat} (h : i < 10) : wordsC[i]? = some (.string (wordC i)) := by
  obtain rfl | rfl | rfl | rfl | rfl | rfl | rfl | rfl | rfl | rfl : i = 0 ∨ i = 1 ∨ i = 2 ∨ i = 3 ∨ i = 4 ∨ i = 5 ∨ i = 6 ∨ i = 7 ∨ i = 8 ∨ i = 9 := by omega
  all_goals rfl
theorem wordC_size (i : Nat) : (wordC i).size ≤ 3 := by
  unfold wordC
  repeat (split; · decide)
  decide
/-- A penalty's text. -/
def penT (r b k v : Int) : ByteArray :=
  if penB r b k v = true then
    (if k = 1 then dd r ++ ByteArray.mk #[32] ++ dd b ++ ByteArray.mk #[32, 99, 111, 100, 101, 32] ++ wordC v.toNat else if k = 2 then dd r ++ ByteArray.mk #[32] ++ dd b ++ ByteArray.mk #[32, 116, 105, 109, 101, 32] ++ dd v else dd r ++ ByteArray.mk #[32] ++ dd b ++ ByteArray.mk #[32, 112, 101, 114, 99, 101, 110, 116, 32] ++ dd v)
  else ⟨#[]⟩
theorem isBoat_any (n : Int) (w : World) : Calls Tryd.prog 18 #[.int .i64 n] w fun e w' => e = .returned (.bool (inB n 0 15)) ∧ w = w' := by
  go_enter Tryd.func18, Tryd.ntmps18
  go_wp2_with (go_at_call 17; refine (within_any _ _ _ _).mono ?_; rintro e w' ⟨rfl, rfl⟩)
  go_ret
  exact ⟨rfl, rfl⟩

theorem isPenaltyCode_any (c : Int) (w : World) : Calls Tryd.prog 28 #[.int .i64 c] w fun e w' => e = .returned (.bool (codeB c)) ∧ w = w' := by
  unfold codeB
  cases h1 : (c == 6) with
  | true =>
    go_enter Tryd.func28, Tryd.ntmps28
    go_wp2
    go_ret
    exact ⟨rfl, rfl⟩
  | false =>
    cases h2 : (c == 7) with
    | true =>
      go_enter Tryd.func28, Tryd.ntmps28
      go_wp2
      go_ret
      exact ⟨rfl, rfl⟩
    | false =>
      go_enter Tryd.func28, Tryd.ntmps28
      go_wp2
      go_ret
      exact ⟨rfl, rfl⟩
theorem l21Code_any (c : Int) (w : World) : Calls Tryd.prog 27 #[.int .i64 c] w fun e w' => e = .returned (.bool (codeB c)) ∧ w = w' := by
  unfold codeB
  cases h1 : (c == 6) with
  | true =>
    go_enter Tryd.func27, Tryd.ntmps27
    go_wp2
    go_ret
    exact ⟨rfl, rfl⟩
  | false =>
    cases h2 : (c == 7) with
    | true =>
      go_enter Tryd.func27, Tryd.ntmps27
      go_wp2
      go_ret
      exact ⟨rfl, rfl⟩
    | false =>
      go_enter Tryd.func27, Tryd.ntmps27
      go_wp2
      go_ret
      exact ⟨rfl, rfl⟩
set_option maxHeartbeats 1000000 in
theorem isPenalty_any (r b k v : Int) (w : World) : Calls Tryd.prog 19 #[.agg #[.int .i64 r, .int .i64 b, .int .i64 k, .int .i64 v]] w fun e w' => e = .returned (.bool (pvB k v)) ∧ Below w.heap.size w w' := by
  by_cases k1 : k = 1
  · subst k1
    rw [show pvB 1 v = codeB v from rfl]
    go_enter Tryd.func19, Tryd.ntmps19
    go_wp2_with (first | (go_at_call 28; refine (isPenaltyCode_any _ _).mono ?_; rintro e w' ⟨rfl, rfl⟩) | (go_at_call 29; refine (isElapsed_any _ _).mono ?_; rintro e w' ⟨rfl, rfl⟩) | (go_at_call 17; refine (within_any _ _ _ _).mono ?_; rintro e w' ⟨rfl, rfl⟩))
    go_ret
    exact ⟨rfl, (Below.refl _ _).alloc (Nat.le_refl _) _⟩
  · have n1 : (k == 1) = false := by rw [beq_eq_false_iff_ne]; exact k1
    by_cases k2 : k = 2
    · subst k2
      rw [show pvB 2 v = inB v 1 1000000000 from rfl]
      go_enter Tryd.func19, Tryd.ntmps19
      go_wp2_with (first | (go_at_call 28; refine (isPenaltyCode_any _ _).mono ?_; rintro e w' ⟨rfl, rfl⟩) | (go_at_call 29; refine (isElapsed_any _ _).mono ?_; rintro e w' ⟨rfl, rfl⟩) | (go_at_call 17; refine (within_any _ _ _ _).mono ?_; rintro e w' ⟨rfl, rfl⟩))
      go_ret
      exact ⟨rfl, (Below.refl _ _).alloc (Nat.le_refl _) _⟩
    · have n2 : (k == 2) = false := by rw [beq_eq_false_iff_ne]; exact k2
      by_cases k3 : k = 3
      · subst k3
        rw [show pvB 3 v = inB v 1 100 from rfl]
        go_enter Tryd.func19, Tryd.ntmps19
        go_wp2_with (first | (go_at_call 28; refine (isPenaltyCode_any _ _).mono ?_; rintro e w' ⟨rfl, rfl⟩) | (go_at_call 29; refine (isElapsed_any _ _).mono ?_; rintro e w' ⟨rfl, rfl⟩) | (go_at_call 17; refine (within_any _ _ _ _).mono ?_; rintro e w' ⟨rfl, rfl⟩))
        go_ret
        exact ⟨rfl, (Below.refl _ _).alloc (Nat.le_refl _) _⟩
      · have n3 : (k == 3) = false := by rw [beq_eq_false_iff_ne]; exact k3
        rw [show pvB k v = false by unfold pvB; rw [if_neg k1, if_neg k2, if_neg k3]]
        go_enter Tryd.func19, Tryd.ntmps19
        go_wp2_with (first | (go_at_call 28; refine (isPenaltyCode_any _ _).mono ?_; rintro e w' ⟨rfl, rfl⟩) | (go_at_call 29; refine (isElapsed_any _ _).mono ?_; rintro e w' ⟨rfl, rfl⟩) | (go_at_call 17; refine (within_any _ _ _ _).mono ?_; rintro e w' ⟨rfl, rfl⟩))
        go_ret
        exact ⟨rfl, (Below.refl _ _).alloc (Nat.le_refl _) _⟩
set_option maxHeartbeats 1000000 in
theorem l21Value_any (k v : Int) (w : World) : Calls Tryd.prog 14 #[.int .i64 k, .int .i64 v] w fun e w' => e = .returned (.bool (pvB k v)) ∧ w = w' := by
  by_cases k1 : k = 1
  · subst k1
    rw [show pvB 1 v = codeB v from rfl]
    go_enter Tryd.func14, Tryd.ntmps14
    go_wp2_with (first | (go_at_call 27; refine (l21Code_any _ _).mono ?_; rintro e w' ⟨rfl, rfl⟩) | (go_at_call 13; refine (l01In_any _ _ _ _).mono ?_; rintro e w' ⟨rfl, rfl⟩))
    go_ret
    exact ⟨rfl, rfl⟩
  · have n1 : (k == 1) = false := by rw [beq_eq_false_iff_ne]; exact k1
    by_cases k2 : k = 2
    · subst k2
      rw [show pvB 2 v = inB v 1 1000000000 from rfl]
      go_enter Tryd.func14, Tryd.ntmps14
      go_wp2_with (first | (go_at_call 27; refine (l21Code_any _ _).mono ?_; rintro e w' ⟨rfl, rfl⟩) | (go_at_call 13; refine (l01In_any _ _ _ _).mono ?_; rintro e w' ⟨rfl, rfl⟩))
      go_ret
      exact ⟨rfl, rfl⟩
    · have n2 : (k == 2) = false := by rw [beq_eq_false_iff_ne]; exact k2
      by_cases k3 : k = 3
      · subst k3
        rw [show pvB 3 v = inB v 1 100 from rfl]
        go_enter Tryd.func14, Tryd.ntmps14
        go_wp2_with (first | (go_at_call 27; refine (l21Code_any _ _).mono ?_; rintro e w' ⟨rfl, rfl⟩) | (go_at_call 13; refine (l01In_any _ _ _ _).mono ?_; rintro e w' ⟨rfl, rfl⟩))
        go_ret
        exact ⟨rfl, rfl⟩
      · have n3 : (k == 3) = false := by rw [beq_eq_false_iff_ne]; exact k3
        rw [show pvB k v = false by unfold pvB; rw [if_neg k1, if_neg k2, if_neg k3]]
        go_enter Tryd.func14, Tryd.ntmps14
        go_wp2_with (first | (go_at_call 27; refine (l21Code_any _ _).mono ?_; rintro e w' ⟨rfl, rfl⟩) | (go_at_call 13; refine (l01In_any _ _ _ _).mono ?_; rintro e w' ⟨rfl, rfl⟩))
        go_ret
        exact ⟨rfl, rfl⟩
theorem codeText_any (i : Nat) (hi : i < 10) (w : World) : Calls Tryd.prog 21 #[.int .i64 i] w fun e w' => e = .returned (.string (wordC i)) ∧ Below w.heap.size w w' := by
  have h1 := inB_mk (n := (i : Int)) (l := 0) (h := 9) (by omega) (by omega)
  have hw := wordsC_get hi
  generalize wordC i = WW at hw ⊢
  have hn := Whole.new w 49 wordsC
  have y0 : (w.alloc (.cells wordsC 49)).cell? ⟨w.heap.size, i, none⟩ = some (.string WW) := (hn.cell i).trans hw
  unfold wordsC at y0
  clear hw hn
  have hb0 : Below w.heap.size w (w.alloc (.cells wordsC 49)) := (Below.refl _ _).alloc (Nat.le_refl _) _
  unfold wordsC at hb0
  have hi10 : (i : Int) < 10 := by omega
  go_enter Tryd.func21, Tryd.ntmps21
  go_wp2_with (go_at_call 17; refine (within_any _ _ _ _).mono ?_; rintro e w' ⟨rfl, rfl⟩)
  go_ret
  exact ⟨rfl, hb0⟩
theorem words_any (w : World) : Calls Tryd.prog 16 #[] w fun e w' => (∃ g, e = .returned (.slice (some ⟨g, 0, none⟩) 10 10) ∧ Whole w' g 9 wordsC) ∧ Below w.heap.size w w' := by
  have hn := Whole.new w 9 wordsC
  have hb0 : Below w.heap.size w (w.alloc (.cells wordsC 9)) := (Below.refl _ _).alloc (Nat.le_refl _) _
  unfold wordsC at hb0 hn
  go_enter Tryd.func16, Tryd.ntmps16
  go_wp2
  go_ret
  exact ⟨⟨_, rfl, hn⟩, hb0⟩
def pnAD : Nat → Nat
  | 0 => 19
  | 1 => 20
  | 2 => 21
  | 3 => 22
  | 4 => 23
  | 5 => 24
  | 6 => 25
  | 7 => 26
  | 8 => 3
  | _ => 0
def pnAG (gb : Nat) (r b : Int) (S1 S2 : ByteArray) : Nat → Value → World → Prop
  | 0, y, W => y = .pointer (some ⟨gb, 0, none⟩)
  | 1, y, W => y = .int .i64 r
  | 2, y, W => y = .string S1
  | 3, y, W => y = .string (S1 ++ ByteArray.mk #[32])
  | 4, y, W => y = .pointer (some ⟨gb, 1, none⟩)
  | 5, y, W => y = .int .i64 b
  | 6, y, W => y = .string S2
  | 7, y, W => y = .string (S1 ++ ByteArray.mk #[32] ++ S2)
  | 8, y, W => y = .string (S1 ++ ByteArray.mk #[32] ++ S2)
  | _, _, _ => True
theorem pnA_any {gb : Nat} {r b : Int} {S1 S2 : ByteArray} {w w' : World} : ∀ {j : Nat} {y : Value}, pnAG gb r b S1 S2 j y w → pnAG gb r b S1 S2 j y w'
  | 0, _, h => h
  | 1, _, h => h
  | 2, _, h => h
  | 3, _, h => h
  | 4, _, h => h
  | 5, _, h => h
  | 6, _, h => h
  | 7, _, h => h
  | 8, _, h => h
  | _ + 9, _, h => h
def pnBD : Nat → Nat
  | 0 => 22
  | 1 => 23
  | 2 => 24
  | 3 => 25
  | 4 => 26
  | 5 => 27
  | 6 => 28
  | 7 => 29
  | 8 => 30
  | 9 => 3
  | _ => 0
def pnBG (gb : Nat) (r b : Int) (S1 S2 : ByteArray) : Nat → Value → World → Prop
  | 0, y, W => y = .pointer (some ⟨gb, 0, none⟩)
  | 1, y, W => y = .int .i64 r
  | 2, y, W => y = .string S1
  | 3, y, W => y = .string (S1 ++ ByteArray.mk #[32])
  | 4, y, W => y = .pointer (some ⟨gb, 1, none⟩)
  | 5, y, W => y = .int .i64 b
  | 6, y, W => y = .string S2
  | 7, y, W => y = .string (S1 ++ ByteArray.mk #[32] ++ S2)
  | 8, y, W => y = .string (S1 ++ ByteArray.mk #[32] ++ S2 ++ ByteArray.mk #[32])
  | 9, y, W => y = .string (S1 ++ ByteArray.mk #[32] ++ S2 ++ ByteArray.mk #[32])
  | _, _, _ => True
theorem pnB_any {gb : Nat} {r b : Int} {S1 S2 : ByteArray} {w w' : World} : ∀ {j : Nat} {y : Value}, pnBG gb r b S1 S2 j y w → pnBG gb r b S1 S2 j y w'
  | 0, _, h => h
  | 1, _, h => h
  | 2, _, h => h
  | 3, _, h => h
  | 4, _, h => h
  | 5, _, h => h
  | 6, _, h => h
  | 7, _, h => h
  | 8, _, h => h
  | 9, _, h => h
  | _ + 10, _, h => h
def pnCD : Nat → Nat
  | 0 => 35
  | 1 => 36
  | 2 => 37
  | 3 => 38
  | 4 => 39
  | 5 => 40
  | 6 => 41
  | 7 => 42
  | 8 => 2
  | _ => 0
def pnCG (gb κ : Nat) (SS WW : ByteArray) : Nat → Value → World → Prop
  | 0, y, W => y = .string SS
  | 1, y, W => y = .string (SS ++ ByteArray.mk #[99, 111, 100, 101, 32])
  | 2, y, W => ∃ g, y = .slice (some ⟨g, 0, none⟩) 10 10 ∧ Whole W g 9 wordsC
  | 3, y, W => y = .pointer (some ⟨gb, 3, none⟩)
  | 4, y, W => y = .int .i64 κ
  | 5, y, W => ∃ q, y = .pointer (some q) ∧ q.block < W.heap.size ∧ W.cell? q = some (.string WW)
  | 6, y, W => y = .string WW
  | 7, y, W => y = .string (SS ++ ByteArray.mk #[99, 111, 100, 101, 32] ++ WW)
  | 8, y, W => y = .string (SS ++ ByteArray.mk #[99, 111, 100, 101, 32] ++ WW)
  | _, _, _ => True
theorem pnC_be {gb κ : Nat} {SS WW : ByteArray} {w w' : World} (hb : Below w.heap.size w w') : ∀ {j : Nat} {y : Value}, pnCG gb κ SS WW j y w → pnCG gb κ SS WW j y w'
  | 2, _, ⟨g, h1, h2⟩ => ⟨g, h1, h2.below hb h2.lt⟩
  | 5, _, ⟨q, h1, h2, h3⟩ => ⟨q, h1, Nat.lt_of_lt_of_le h2 hb.size, (hb.cell h2).trans h3⟩
  | 0, _, h => h
  | 1, _, h => h
  | 3, _, h => h
  | 4, _, h => h
  | 6, _, h => h
  | 7, _, h => h
  | 8, _, h => h
  | _ + 9, _, h => h
set_option maxRecDepth 100000 in
set_option maxHeartbeats 8000000 in
theorem penaltyText_val (r b k v : Int) (S : ByteArray) (hS : Hid (penT r b k v = S)) (w : World) (hT : Pow w w.heap.size) :
    Calls Tryd.prog 7 #[.agg #[.int .i64 r, .int .i64 b, .int .i64 k, .int .i64 v]] w fun e w' => e = .returned (.string S) ∧ Below w.heap.size w w' := by
  have hb0 : Below w.heap.size w (w.alloc (.cells #[.int .i64 r, .int .i64 b, .int .i64 k, .int .i64 v] 25)) := (Below.refl _ _).alloc (Nat.le_refl _) _
  have hW0 := Whole.new w 25 #[.int .i64 r, .int .i64 b, .int .i64 k, .int .i64 v]
  cases h1 : inB r 0 11 with
  | false =>
    obtain rfl : (⟨#[]⟩ : ByteArray) = S := by rw [← hS.out]; unfold penT penB; rw [h1]; rfl
    clear hS
    go_enter Tryd.func7, Tryd.ntmps7
    go_wp2_with (first | (go_at_call 17; refine (within_any _ _ _ _).mono ?_; rintro e w' ⟨rfl, rfl⟩) | (go_at_call 18; refine (isBoat_any _ _).mono ?_; rintro e w' ⟨rfl, rfl⟩) | fail)
    go_ret
    exact ⟨rfl, hb0⟩
  | true =>
  cases h2 : inB b 0 15 with
  | false =>
    obtain rfl : (⟨#[]⟩ : ByteArray) = S := by rw [← hS.out]; unfold penT penB; rw [h1, h2]; rfl
    clear hS
    go_enter Tryd.func7, Tryd.ntmps7
    go_wp2_with (first | (go_at_call 17; refine (within_any _ _ _ _).mono ?_; rintro e w' ⟨rfl, rfl⟩) | (go_at_call 18; refine (isBoat_any _ _).mono ?_; rintro e w' ⟨rfl, rfl⟩) | fail)
    go_ret
    exact ⟨rfl, hb0⟩
  | true =>
  have hpv : ∃ z, pvB k v = z := ⟨_, rfl⟩
  obtain ⟨z, hz⟩ := hpv
  have hip := fun W => isPenalty_any r b k v W
  rw [hz] at hip
  replace hip := Lib.hid hip
  cases z with
  | false =>
    obtain rfl : (⟨#[]⟩ : ByteArray) = S := by rw [← hS.out]; unfold penT penB; rw [h1, h2, hz]; rfl
    clear hS hz
    go_enter Tryd.func7, Tryd.ntmps7
    go_wp2_with (first | (go_at_call 17; refine (within_any _ _ _ _).mono ?_; rintro e w' ⟨rfl, rfl⟩) | (go_at_call 18; refine (isBoat_any _ _).mono ?_; rintro e w' ⟨rfl, rfl⟩) | fail)
    refine (hip.out _).mono ?_
    rintro e w1 ⟨rfl, hb1⟩
    have hbb := hb0.trans (hb1.mono (B' := w.heap.size) hb0.size)
    clear hb1 hb0
    go_wp2
    go_ret
    exact ⟨rfl, hbb⟩
  | true =>
    obtain ⟨r0, r1⟩ := inB_t h1
    obtain ⟨b0, b1⟩ := inB_t h2
    have hS' := hS.out
    unfold penT at hS'
    rw [if_pos (by unfold penB; rw [h1, h2, hz]; rfl)] at hS'
    clear hS
    have htx := fun (n : Int) h0 h1 (W : World) (hb : Below w.heap.size w W) => text_any n h0 h1 w.heap.size W (hT.on hb)
    clear hT
    have s1 := dd_size r0 (by omega)
    have s2 := dd_size b0 (by omega)
    have ht1 := htx r r0 (by omega)
    have ht2 := htx b b0 (by omega)
    obtain ⟨S1, hS1⟩ : ∃ z, dd r = z := ⟨_, rfl⟩
    obtain ⟨S2, hS2⟩ : ∃ z, dd b = z := ⟨_, rfl⟩
    rw [hS1] at hS' ht1 s1
    rw [hS2] at hS' ht2 s2
    clear hS1 hS2
    have c1 : ¬ (9223372036854775807 < S1.size + 1) := by omega
    have c2 : ¬ (9223372036854775807 < S1.size + 1 + S2.size) := by omega
    have c2' : ¬ (9223372036854775807 < S1.size + 1 + S2.size + 1) := by omega
    have c3 : ¬ (9223372036854775807 < S1.size + 1 + S2.size + 6) := by omega
    have c4 : ¬ (9223372036854775807 < S1.size + 1 + S2.size + 9) := by omega
    have c5 : ¬ (9223372036854775807 < S1.size + 1 + S2.size + 1 + 5) := by omega
    have c6 : ¬ (9223372036854775807 < S1.size + 1 + S2.size + 1 + 8) := by omega
    have hv3 : (∃ κ : Nat, k = 1 ∧ v = κ ∧ κ < 10) ∨ ((k = 2 ∨ k = 3) ∧ 0 ≤ v ∧ v ≤ 1000000000) := by
      unfold pvB at hz
      by_cases k1 : k = 1
      · left
        rw [if_pos k1] at hz
        unfold codeB at hz
        simp only [Bool.or_eq_true, beq_iff_eq] at hz
        exact ⟨v.toNat, k1, by omega, by omega⟩
      · right
        rw [if_neg k1] at hz
        by_cases k2 : k = 2
        · rw [if_pos k2] at hz
          have := inB_t hz
          exact ⟨.inl k2, by omega, by omega⟩
        · rw [if_neg k2] at hz
          by_cases k3 : k = 3
          · rw [if_pos k3] at hz
            have := inB_t hz
            exact ⟨.inr k3, by omega, by omega⟩
          · rw [if_neg k3] at hz
            cases hz
    replace htx := Lib.hid htx
    replace ht1 := Lib.hid ht1
    replace ht2 := Lib.hid ht2
    replace hS' := Lib.hid hS'
    clear hz
    replace hW0 := Lib.hid hW0
    go_enter Tryd.func7, Tryd.ntmps7
    go_wp2_with (first | (go_at_call 17; refine (within_any _ _ _ _).mono ?_; rintro e w' ⟨rfl, rfl⟩) | (go_at_call 18; refine (isBoat_any _ _).mono ?_; rintro e w' ⟨rfl, rfl⟩) | fail)
    refine (hip.out _).mono ?_
    rintro e w1 ⟨rfl, hb1⟩
    have hW1 := hW0.out.below hb1 hW0.out.lt
    have hbb := hb0.trans (hb1.mono (B' := w.heap.size) hb0.size)
    clear hb1 hb0 hip hW0
    have hzz := hbb.size
    have hy0 : Hid (w1.cell? ⟨w.heap.size, 0, none⟩ = some (.int .i64 r)) := Lib.hid (by simpa using hW1.cell 0)
    have hy1 : Hid (w1.cell? ⟨w.heap.size, 1, none⟩ = some (.int .i64 b)) := Lib.hid (by simpa using hW1.cell 1)
    have hy2 : Hid (w1.cell? ⟨w.heap.size, 2, none⟩ = some (.int .i64 k)) := Lib.hid (by simpa using hW1.cell 2)
    have hy3 : Hid (w1.cell? ⟨w.heap.size, 3, none⟩ = some (.int .i64 v)) := Lib.hid (by simpa using hW1.cell 3)
    have hgl := hW1.lt
    have hc1 : Hid (∀ W : World, Below w1.heap.size w1 W → Calls Tryd.prog 20 #[.int .i64 r] W fun e w' => e = .returned (.string S1) ∧ Below W.heap.size W w') := Lib.hid (fun W hb => ht1.out W (hbb.trans (hb.mono hzz)))
    have hc2 : Hid (∀ W : World, Below w1.heap.size w1 W → Calls Tryd.prog 20 #[.int .i64 b] W fun e w' => e = .returned (.string S2) ∧ Below W.heap.size W w') := Lib.hid (fun W hb => ht2.out W (hbb.trans (hb.mono hzz)))
    clear hW1 ht1 ht2
    go_wp2_with fail
    refine wp_region_inv (fun L x wx => Below w1.heap.size w1 wx ∧ Held pnAD (pnAG w.heap.size r b S1 S2) 9 L x wx) [3, 19, 20, 21, 22, 23, 24, 25, 26] [[], [0], [1], [2], [], [4], [5, 2], [3, 6], [7, 6, 0, 1, 2, 3, 4, 5, 6, 7]] (by kernel_rfl) (by kernel_rfl) (by kernel_rfl) ?_ ?_ ?_
    · intro x
      exact ⟨(Below.refl _ _).drew, Held.none⟩
    · rintro L x wx ⟨hB, hH⟩
      have hBz := hB.size
      refine ⟨InvAt.mk rfl (by simp) ?_, InvAt.mk rfl (by simp) ?_, InvAt.mk rfl (by simp) ?_, InvAt.mk rfl (by simp) ?_, InvAt.mk rfl (by simp) ?_, InvAt.mk rfl (by simp) ?_, InvAt.mk rfl (by simp) ?_, InvAt.mk rfl (by simp) ?_, InvAt.mk rfl (by simp) ?_, trivial⟩
      · intro hL hd K hK
        simp only [fillA, fillL]
        go_simp
        exact hK (.pointer (some ⟨w.heap.size, 0, none⟩)) _ _ ⟨hB, hH.step 0 19 _ rfl (by decide) (fun j y h => h) rfl⟩ rfl
      · intro hL hd K hK
        have e0 : x 19 = .pointer (some ⟨w.heap.size, 0, none⟩) := hH 0 (by omega) (hd 0 (by simp))
        have y0 := (hB.cell (by show _ < _; omega)).trans hy0.out
        simp only [fillA, fillL]
        simp only [e0]
        simp only [fillA, fillL, e0] at hK
        go_simp
        exact hK (.int .i64 r) _ _ ⟨hB, hH.step 1 20 _ rfl (by decide) (fun j y h => h) rfl⟩ rfl
      · intro hL hd K hK
        have e1 : x 20 = .int .i64 r := hH 1 (by omega) (hd 1 (by simp))
        simp only [fillA, fillL]
        simp only [e1]
        simp only [fillA, fillL, e1] at hK
        go_simp
        go_at_call 20
        refine (hc1.out wx hB).mono ?_
        rintro e wy ⟨rfl, hby⟩
        exact hK (.string S1) _ _ ⟨hB.trans (hby.mono hBz), hH.step 2 21 _ rfl (by decide) (fun j y h => pnA_any h) rfl⟩ rfl
      · intro hL hd K hK
        have e2 : x 21 = .string S1 := hH 2 (by omega) (hd 2 (by simp))
        simp only [fillA, fillL]
        simp only [e2]
        simp only [fillA, fillL, e2] at hK
        go_simp
        exact hK (.string (S1 ++ ByteArray.mk #[32])) _ _ ⟨hB, hH.step 3 22 _ rfl (by decide) (fun j y h => h) rfl⟩ rfl
      · intro hL hd K hK
        simp only [fillA, fillL]
        go_simp
        exact hK (.pointer (some ⟨w.heap.size, 1, none⟩)) _ _ ⟨hB, hH.step 4 23 _ rfl (by decide) (fun j y h => h) rfl⟩ rfl
      · intro hL hd K hK
        have e4 : x 23 = .pointer (some ⟨w.heap.size, 1, none⟩) := hH 4 (by omega) (hd 4 (by simp))
        have y0 := (hB.cell (by show _ < _; omega)).trans hy1.out
        simp only [fillA, fillL]
        simp only [e4]
        simp only [fillA, fillL, e4] at hK
        go_simp
        exact hK (.int .i64 b) _ _ ⟨hB, hH.step 5 24 _ rfl (by decide) (fun j y h => h) rfl⟩ rfl
      · intro hL hd K hK
        have e5 : x 24 = .int .i64 b := hH 5 (by omega) (hd 5 (by simp))
        simp only [fillA, fillL]
        simp only [e5]
        simp only [fillA, fillL, e5] at hK
        go_simp
        go_at_call 20
        refine (hc2.out wx hB).mono ?_
        rintro e wy ⟨rfl, hby⟩
        exact hK (.string S2) _ _ ⟨hB.trans (hby.mono hBz), hH.step 6 25 _ rfl (by decide) (fun j y h => pnA_any h) rfl⟩ rfl
      · intro hL hd K hK
        have e3 : x 22 = .string (S1 ++ ByteArray.mk #[32]) := hH 3 (by omega) (hd 3 (by simp))
        have e6 : x 25 = .string S2 := hH 6 (by omega) (hd 6 (by simp))
        simp only [fillA, fillL]
        simp only [e3, e6]
        simp only [fillA, fillL, e3, e6] at hK
        go_simp
        exact hK (.string (S1 ++ ByteArray.mk #[32] ++ S2)) _ _ ⟨hB, hH.step 7 26 _ rfl (by decide) (fun j y h => h) rfl⟩ rfl
      · intro hL hd K hK
        have e7 : x 26 = .string (S1 ++ ByteArray.mk #[32] ++ S2) := hH 7 (by omega) (hd 7 (by simp))
        simp only [fillA, fillL]
        simp only [e7]
        simp only [fillA, fillL, e7] at hK
        go_simp
        exact hK (.string (S1 ++ ByteArray.mk #[32] ++ S2)) _ _ ⟨hB, hH.step 8 3 _ rfl (by decide) (fun j y h => h) rfl⟩ rfl
    · rintro x wx ⟨hB, hH⟩
      have eS : x 3 = .string (S1 ++ ByteArray.mk #[32] ++ S2) := hH 8 (by omega) (by rfl)
      have hbx : Below w.heap.size w wx := hbb.trans (hB.mono hzz)
      have hzx := hB.size
      have y2 := (hB.cell (by show _ < _; omega)).trans hy2.out
      have y3 := (hB.cell (by show _ < _; omega)).trans hy3.out
      clear hH hc1 hc2 hy0 hy1 hy2
      simp only [fillA, fillL, eS]
      rcases hv3 with ⟨κ, rfl, rfl, hκ⟩ | ⟨hk, v0, v1⟩
      · have hSe := hS'.out
        rw [if_pos rfl, show ((κ : Int)).toNat = κ by omega] at hSe
        have hWs := wordC_size κ
        have hct := codeText_any κ hκ wx
        generalize wordC κ = WW at hSe hWs hct
        have c7 : ¬ (9223372036854775807 < S1.size + 1 + S2.size + 6 + WW.size) := by omega
        replace hct := Lib.hid hct
        replace hSe := Lib.hid hSe
        clear hS' htx
        go_wp2_with fail
        refine hct.out.mono ?_
        rintro e w5 ⟨rfl, hb5⟩
        have hb6 := hbx.trans (hb5.mono (B' := w.heap.size) hbx.size)
        go_wp2
        go_ret
        rw [← hSe.out]
        exact ⟨rfl, hb6⟩
      · have htv := htx.out v v0 (by omega) wx hbx
        have s3 := dd_size v0 (by omega)
        have hSe := hS'.out
        rw [if_neg (by omega)] at hSe
        generalize dd v = S3 at hSe htv s3
        have c7 : ¬ (9223372036854775807 < S1.size + 1 + S2.size + 6 + S3.size) := by omega
        have c8 : ¬ (9223372036854775807 < S1.size + 1 + S2.size + 9 + S3.size) := by omega
        have c9 : ¬ (9223372036854775807 < S1.size + 1 + S2.size + 1 + 5 + S3.size) := by omega
        have c10 : ¬ (9223372036854775807 < S1.size + 1 + S2.size + 1 + 8 + S3.size) := by omega
        have hS2 : k = 2 → S1 ++ ByteArray.mk #[32] ++ S2 ++ ByteArray.mk #[32, 116, 105, 109, 101, 32] ++ S3 = S := fun h => by
          rw [if_pos h] at hSe
          rw [← hSe]
          
        have hS3 : k = 3 → S1 ++ ByteArray.mk #[32] ++ S2 ++ ByteArray.mk #[32, 112, 101, 114, 99, 101, 110, 116, 32] ++ S3 = S := fun h => by
          rw [if_neg (by omega)] at hSe
          rw [← hSe]
          
        replace htv := Lib.hid htv
        replace hS2 := Lib.hid hS2
        replace hS3 := Lib.hid hS3
        clear hS' htx hSe
        obtain rfl | rfl := hk
        · go_wp2_with fail
          refine htv.out.mono ?_
          rintro e w5 ⟨rfl, hb5⟩
          have hb6 := hbx.trans (hb5.mono (B' := w.heap.size) hbx.size)
          go_wp2
          go_ret
          rw [← hS2.out (by trivial)]
          exact ⟨rfl, hb6⟩
        · go_wp2_with fail
          refine htv.out.mono ?_
          rintro e w5 ⟨rfl, hb5⟩
          have hb6 := hbx.trans (hb5.mono (B' := w.heap.size) hbx.size)
          go_wp2
          go_ret
          rw [← hS3.out (by trivial)]
          exact ⟨rfl, hb6⟩
set_option maxRecDepth 100000 in
set_option maxHeartbeats 8000000 in
theorem sPenaltyText_val (r b k v : Int) (S : ByteArray) (hS : Hid (penT r b k v = S)) (w : World) :
    Calls Tryd.prog 5 #[.agg #[.int .i64 r, .int .i64 b, .int .i64 k, .int .i64 v]] w fun e w' => e = .returned (.string S) ∧ Below w.heap.size w w' := by
  have hb0 : Below w.heap.size w (w.alloc (.cells #[.int .i64 r, .int .i64 b, .int .i64 k, .int .i64 v] 25)) := (Below.refl _ _).alloc (Nat.le_refl _) _
  have hW0 := Whole.new w 25 #[.int .i64 r, .int .i64 b, .int .i64 k, .int .i64 v]
  cases h1 : inB r 0 11 with
  | false =>
    obtain rfl : (⟨#[]⟩ : ByteArray) = S := by rw [← hS.out]; unfold penT penB; rw [h1]; rfl
    clear hS
    go_enter Tryd.func5, Tryd.ntmps5
    go_wp2_with (first | (go_at_call 13; refine (l01In_any _ _ _ _).mono ?_; rintro e w' ⟨rfl, rfl⟩) | (go_at_call 14; refine (l21Value_any _ _ _).mono ?_; rintro e w' ⟨rfl, rfl⟩) | fail)
    go_ret
    exact ⟨rfl, hb0⟩
  | true =>
  cases h2 : inB b 0 15 with
  | false =>
    obtain rfl : (⟨#[]⟩ : ByteArray) = S := by rw [← hS.out]; unfold penT penB; rw [h1, h2]; rfl
    clear hS
    go_enter Tryd.func5, Tryd.ntmps5
    go_wp2_with (first | (go_at_call 13; refine (l01In_any _ _ _ _).mono ?_; rintro e w' ⟨rfl, rfl⟩) | (go_at_call 14; refine (l21Value_any _ _ _).mono ?_; rintro e w' ⟨rfl, rfl⟩) | fail)
    go_ret
    exact ⟨rfl, hb0⟩
  | true =>
  have hpv : ∃ z, pvB k v = z := ⟨_, rfl⟩
  obtain ⟨z, hz⟩ := hpv
  have hip := fun W => l21Value_any k v W
  rw [hz] at hip
  replace hip := Lib.hid hip
  cases z with
  | false =>
    obtain rfl : (⟨#[]⟩ : ByteArray) = S := by rw [← hS.out]; unfold penT penB; rw [h1, h2, hz]; rfl
    clear hS hz
    go_enter Tryd.func5, Tryd.ntmps5
    go_wp2_with (first | (go_at_call 13; refine (l01In_any _ _ _ _).mono ?_; rintro e w' ⟨rfl, rfl⟩) | (go_at_call 14; refine (hip.out _).mono ?_; rintro e w' ⟨rfl, rfl⟩) | fail)
    go_ret
    exact ⟨rfl, hb0⟩
  | true =>
    obtain ⟨r0, r1⟩ := inB_t h1
    obtain ⟨b0, b1⟩ := inB_t h2
    have hS' := hS.out
    unfold penT at hS'
    rw [if_pos (by unfold penB; rw [h1, h2, hz]; rfl)] at hS'
    clear hS
    have htx := fun (n : Int) h0 h1 (W : World) (_ : Below w.heap.size w W) => number_any n h0 h1 W
    
    have s1 := dd_size r0 (by omega)
    have s2 := dd_size b0 (by omega)
    have ht1 := htx r r0 (by omega)
    have ht2 := htx b b0 (by omega)
    obtain ⟨S1, hS1⟩ : ∃ z, dd r = z := ⟨_, rfl⟩
    obtain ⟨S2, hS2⟩ : ∃ z, dd b = z := ⟨_, rfl⟩
    rw [hS1] at hS' ht1 s1
    rw [hS2] at hS' ht2 s2
    clear hS1 hS2
    have c1 : ¬ (9223372036854775807 < S1.size + 1) := by omega
    have c2 : ¬ (9223372036854775807 < S1.size + 1 + S2.size) := by omega
    have c2' : ¬ (9223372036854775807 < S1.size + 1 + S2.size + 1) := by omega
    have c3 : ¬ (9223372036854775807 < S1.size + 1 + S2.size + 6) := by omega
    have c4 : ¬ (9223372036854775807 < S1.size + 1 + S2.size + 9) := by omega
    have c5 : ¬ (9223372036854775807 < S1.size + 1 + S2.size + 1 + 5) := by omega
    have c6 : ¬ (9223372036854775807 < S1.size + 1 + S2.size + 1 + 8) := by omega
    have hv3 : (∃ κ : Nat, k = 1 ∧ v = κ ∧ κ < 10) ∨ ((k = 2 ∨ k = 3) ∧ 0 ≤ v ∧ v ≤ 1000000000) := by
      unfold pvB at hz
      by_cases k1 : k = 1
      · left
        rw [if_pos k1] at hz
        unfold codeB at hz
        simp only [Bool.or_eq_true, beq_iff_eq] at hz
        exact ⟨v.toNat, k1, by omega, by omega⟩
      · right
        rw [if_neg k1] at hz
        by_cases k2 : k = 2
        · rw [if_pos k2] at hz
          have := inB_t hz
          exact ⟨.inl k2, by omega, by omega⟩
        · rw [if_neg k2] at hz
          by_cases k3 : k = 3
          · rw [if_pos k3] at hz
            have := inB_t hz
            exact ⟨.inr k3, by omega, by omega⟩
          · rw [if_neg k3] at hz
            cases hz
    replace htx := Lib.hid htx
    replace ht1 := Lib.hid ht1
    replace ht2 := Lib.hid ht2
    replace hS' := Lib.hid hS'
    clear hz
    replace hW0 := Lib.hid hW0
    go_enter Tryd.func5, Tryd.ntmps5
    go_wp2_with (first | (go_at_call 13; refine (l01In_any _ _ _ _).mono ?_; rintro e w' ⟨rfl, rfl⟩) | (go_at_call 14; refine (hip.out _).mono ?_; rintro e w' ⟨rfl, rfl⟩) | fail)
    have hW1 := hW0.out
    have hbb := hb0
    obtain ⟨w1, hw1⟩ : ∃ W, w.alloc (.cells #[.int .i64 r, .int .i64 b, .int .i64 k, .int .i64 v] 25) = W := ⟨_, rfl⟩
    rw [hw1] at hW1 hbb ⊢
    clear hb0 hip hW0 hw1
    have hzz := hbb.size
    have hy0 : Hid (w1.cell? ⟨w.heap.size, 0, none⟩ = some (.int .i64 r)) := Lib.hid (by simpa using hW1.cell 0)
    have hy1 : Hid (w1.cell? ⟨w.heap.size, 1, none⟩ = some (.int .i64 b)) := Lib.hid (by simpa using hW1.cell 1)
    have hy2 : Hid (w1.cell? ⟨w.heap.size, 2, none⟩ = some (.int .i64 k)) := Lib.hid (by simpa using hW1.cell 2)
    have hy3 : Hid (w1.cell? ⟨w.heap.size, 3, none⟩ = some (.int .i64 v)) := Lib.hid (by simpa using hW1.cell 3)
    have hgl := hW1.lt
    have hc1 : Hid (∀ W : World, Below w1.heap.size w1 W → Calls Tryd.prog 15 #[.int .i64 r] W fun e w' => e = .returned (.string S1) ∧ Below W.heap.size W w') := Lib.hid (fun W hb => ht1.out W (hbb.trans (hb.mono hzz)))
    have hc2 : Hid (∀ W : World, Below w1.heap.size w1 W → Calls Tryd.prog 15 #[.int .i64 b] W fun e w' => e = .returned (.string S2) ∧ Below W.heap.size W w') := Lib.hid (fun W hb => ht2.out W (hbb.trans (hb.mono hzz)))
    clear hW1 ht1 ht2
    go_wp2_with fail
    refine wp_region_inv (fun L x wx => Below w1.heap.size w1 wx ∧ Held pnBD (pnBG w.heap.size r b S1 S2) 10 L x wx) [3, 22, 23, 24, 25, 26, 27, 28, 29, 30] [[], [0], [1], [2], [], [4], [5, 2], [3, 6], [7], [8, 6, 0, 1, 2, 3, 4, 5, 6, 7, 8]] (by kernel_rfl) (by kernel_rfl) (by kernel_rfl) ?_ ?_ ?_
    · intro x
      exact ⟨(Below.refl _ _).drew, Held.none⟩
    · rintro L x wx ⟨hB, hH⟩
      have hBz := hB.size
      refine ⟨InvAt.mk rfl (by simp) ?_, InvAt.mk rfl (by simp) ?_, InvAt.mk rfl (by simp) ?_, InvAt.mk rfl (by simp) ?_, InvAt.mk rfl (by simp) ?_, InvAt.mk rfl (by simp) ?_, InvAt.mk rfl (by simp) ?_, InvAt.mk rfl (by simp) ?_, InvAt.mk rfl (by simp) ?_, InvAt.mk rfl (by simp) ?_, trivial⟩
      · intro hL hd K hK
        simp only [fillA, fillL]
        go_simp
        exact hK (.pointer (some ⟨w.heap.size, 0, none⟩)) _ _ ⟨hB, hH.step 0 22 _ rfl (by decide) (fun j y h => h) rfl⟩ rfl
      · intro hL hd K hK
        have e0 : x 22 = .pointer (some ⟨w.heap.size, 0, none⟩) := hH 0 (by omega) (hd 0 (by simp))
        have y0 := (hB.cell (by show _ < _; omega)).trans hy0.out
        simp only [fillA, fillL]
        simp only [e0]
        simp only [fillA, fillL, e0] at hK
        go_simp
        exact hK (.int .i64 r) _ _ ⟨hB, hH.step 1 23 _ rfl (by decide) (fun j y h => h) rfl⟩ rfl
      · intro hL hd K hK
        have e1 : x 23 = .int .i64 r := hH 1 (by omega) (hd 1 (by simp))
        simp only [fillA, fillL]
        simp only [e1]
        simp only [fillA, fillL, e1] at hK
        go_simp
        go_at_call 15
        refine (hc1.out wx hB).mono ?_
        rintro e wy ⟨rfl, hby⟩
        exact hK (.string S1) _ _ ⟨hB.trans (hby.mono hBz), hH.step 2 24 _ rfl (by decide) (fun j y h => pnB_any h) rfl⟩ rfl
      · intro hL hd K hK
        have e2 : x 24 = .string S1 := hH 2 (by omega) (hd 2 (by simp))
        simp only [fillA, fillL]
        simp only [e2]
        simp only [fillA, fillL, e2] at hK
        go_simp
        exact hK (.string (S1 ++ ByteArray.mk #[32])) _ _ ⟨hB, hH.step 3 25 _ rfl (by decide) (fun j y h => h) rfl⟩ rfl
      · intro hL hd K hK
        simp only [fillA, fillL]
        go_simp
        exact hK (.pointer (some ⟨w.heap.size, 1, none⟩)) _ _ ⟨hB, hH.step 4 26 _ rfl (by decide) (fun j y h => h) rfl⟩ rfl
      · intro hL hd K hK
        have e4 : x 26 = .pointer (some ⟨w.heap.size, 1, none⟩) := hH 4 (by omega) (hd 4 (by simp))
        have y0 := (hB.cell (by show _ < _; omega)).trans hy1.out
        simp only [fillA, fillL]
        simp only [e4]
        simp only [fillA, fillL, e4] at hK
        go_simp
        exact hK (.int .i64 b) _ _ ⟨hB, hH.step 5 27 _ rfl (by decide) (fun j y h => h) rfl⟩ rfl
      · intro hL hd K hK
        have e5 : x 27 = .int .i64 b := hH 5 (by omega) (hd 5 (by simp))
        simp only [fillA, fillL]
        simp only [e5]
        simp only [fillA, fillL, e5] at hK
        go_simp
        go_at_call 15
        refine (hc2.out wx hB).mono ?_
        rintro e wy ⟨rfl, hby⟩
        exact hK (.string S2) _ _ ⟨hB.trans (hby.mono hBz), hH.step 6 28 _ rfl (by decide) (fun j y h => pnB_any h) rfl⟩ rfl
      · intro hL hd K hK
        have e3 : x 25 = .string (S1 ++ ByteArray.mk #[32]) := hH 3 (by omega) (hd 3 (by simp))
        have e6 : x 28 = .string S2 := hH 6 (by omega) (hd 6 (by simp))
        simp only [fillA, fillL]
        simp only [e3, e6]
        simp only [fillA, fillL, e3, e6] at hK
        go_simp
        exact hK (.string (S1 ++ ByteArray.mk #[32] ++ S2)) _ _ ⟨hB, hH.step 7 29 _ rfl (by decide) (fun j y h => h) rfl⟩ rfl
      · intro hL hd K hK
        have e7 : x 29 = .string (S1 ++ ByteArray.mk #[32] ++ S2) := hH 7 (by omega) (hd 7 (by simp))
        simp only [fillA, fillL]
        simp only [e7]
        simp only [fillA, fillL, e7] at hK
        go_simp
        exact hK (.string (S1 ++ ByteArray.mk #[32] ++ S2 ++ ByteArray.mk #[32])) _ _ ⟨hB, hH.step 8 30 _ rfl (by decide) (fun j y h => h) rfl⟩ rfl
      · intro hL hd K hK
        have e8 : x 30 = .string (S1 ++ ByteArray.mk #[32] ++ S2 ++ ByteArray.mk #[32]) := hH 8 (by omega) (hd 8 (by simp))
        simp only [fillA, fillL]
        simp only [e8]
        simp only [fillA, fillL, e8] at hK
        go_simp
        exact hK (.string (S1 ++ ByteArray.mk #[32] ++ S2 ++ ByteArray.mk #[32])) _ _ ⟨hB, hH.step 9 3 _ rfl (by decide) (fun j y h => h) rfl⟩ rfl
    · rintro x wx ⟨hB, hH⟩
      have eS : x 3 = .string (S1 ++ ByteArray.mk #[32] ++ S2 ++ ByteArray.mk #[32]) := hH 9 (by omega) (by rfl)
      have hbx : Below w.heap.size w wx := hbb.trans (hB.mono hzz)
      have hzx := hB.size
      have y2 := (hB.cell (by show _ < _; omega)).trans hy2.out
      have y3 := (hB.cell (by show _ < _; omega)).trans hy3.out
      clear hH hc1 hc2 hy0 hy1 hy2
      simp only [fillA, fillL, eS]
      rcases hv3 with ⟨κ, rfl, rfl, hκ⟩ | ⟨hk, v0, v1⟩
      · have hSe := hS'.out
        rw [if_pos rfl, show ((κ : Int)).toNat = κ by omega] at hSe
        have hWs := wordC_size κ
        have hw := wordsC_get hκ
        generalize wordC κ = WW at hSe hWs hw
        obtain ⟨SS, hSS⟩ : ∃ z, S1 ++ ByteArray.mk #[32] ++ S2 ++ ByteArray.mk #[32] = z := ⟨_, rfl⟩
        have hSe2 : SS ++ ByteArray.mk #[99, 111, 100, 101, 32] ++ WW = S := by
          rw [← hSe, ← hSS, ByteArray.append_assoc (b := ByteArray.mk #[32]) (c := ByteArray.mk #[99, 111, 100, 101, 32])]
          rfl
        have cz : SS.size = S1.size + 1 + S2.size + 1 := by rw [← hSS]; simp only [ByteArray.size_append]; rfl
        have c7 : ¬ (9223372036854775807 < SS.size + 5) := by omega
        have c8 : ¬ (9223372036854775807 < SS.size + 5 + WW.size) := by omega
        have hk10 : (κ : Int) < 10 := by omega
        rw [hSS]
        replace hw := Lib.hid hw
        replace hSe2 := Lib.hid hSe2
        have hy3x := Lib.hid y3
        have hgx : w.heap.size < wx.heap.size := by omega
        clear hS' htx hSe hSS cz hy3 y3
        rename World => wz
        go_wp2_with fail
        refine wp_region_inv (fun L x wx => Below wz.heap.size wz wx ∧ Held pnCD (pnCG w.heap.size κ SS WW) 9 L x wx) [2, 35, 36, 37, 38, 39, 40, 41, 42] [[], [0], [], [], [3], [2, 4], [5], [1, 6], [7, 2, 0, 1, 2, 3, 4, 5, 6, 7]] (by kernel_rfl) (by kernel_rfl) (by kernel_rfl) ?_ ?_ ?_
        · intro x
          exact ⟨(Below.refl _ _).drew, Held.none⟩
        · rintro L x wx ⟨hB, hH⟩
          have hBz := hB.size
          refine ⟨InvAt.mk rfl (by simp) ?_, InvAt.mk rfl (by simp) ?_, InvAt.mk rfl (by simp) ?_, InvAt.mk rfl (by simp) ?_, InvAt.mk rfl (by simp) ?_, InvAt.mk rfl (by simp) ?_, InvAt.mk rfl (by simp) ?_, InvAt.mk rfl (by simp) ?_, InvAt.mk rfl (by simp) ?_, trivial⟩
          · intro hL hd K hK
            simp only [fillA, fillL]
            go_simp
            exact hK (.string SS) _ _ ⟨hB, hH.step 0 35 _ rfl (by decide) (fun j y h => h) rfl⟩ rfl
          · intro hL hd K hK
            have e0 : x 35 = .string SS := hH 0 (by omega) (hd 0 (by simp))
            simp only [fillA, fillL]
            simp only [e0]
            simp only [fillA, fillL, e0] at hK
            go_simp
            exact hK (.string (SS ++ ByteArray.mk #[99, 111, 100, 101, 32])) _ _ ⟨hB, hH.step 1 36 _ rfl (by decide) (fun j y h => h) rfl⟩ rfl
          · intro hL hd K hK
            simp only [fillA, fillL]
            go_simp
            go_at_call 16
            refine (words_any wx).mono ?_
            rintro e wy ⟨⟨g, rfl, hg⟩, hby⟩
            exact hK (.slice (some ⟨g, 0, none⟩) 10 10) _ _ ⟨hB.trans (hby.mono hBz), hH.step 2 37 _ rfl (by decide) (fun j y h => pnC_be hby h) ⟨g, rfl, hg⟩⟩ rfl
          · intro hL hd K hK
            simp only [fillA, fillL]
            go_simp
            exact hK (.pointer (some ⟨w.heap.size, 3, none⟩)) _ _ ⟨hB, hH.step 3 38 _ rfl (by decide) (fun j y h => h) rfl⟩ rfl
          · intro hL hd K hK
            have e3 : x 38 = .pointer (some ⟨w.heap.size, 3, none⟩) := hH 3 (by omega) (hd 3 (by simp))
            have y0 := (hB.cell (by show _ < _; omega)).trans hy3x.out
            simp only [fillA, fillL]
            simp only [e3]
            simp only [fillA, fillL, e3] at hK
            go_simp
            exact hK (.int .i64 κ) _ _ ⟨hB, hH.step 4 39 _ rfl (by decide) (fun j y h => h) rfl⟩ rfl
          · intro hL hd K hK
            obtain ⟨g, e2, hg⟩ : ∃ g, x 37 = .slice (some ⟨g, 0, none⟩) 10 10 ∧ Whole wx g 9 wordsC := (hH 2 (by omega) (hd 2 (by simp)))
            have e4 : x 39 = .int .i64 κ := hH 4 (by omega) (hd 4 (by simp))
            simp only [fillA, fillL]
            simp only [e2, e4]
            simp only [fillA, fillL, e2, e4] at hK
            go_simp
            exact hK (.pointer (some ⟨g, κ, none⟩)) _ _ ⟨hB, hH.step 5 40 _ rfl (by decide) (fun j y h => h) ⟨_, rfl, hg.lt, (hg.cell κ).trans hw.out⟩⟩ rfl
          · intro hL hd K hK
            obtain ⟨q, e5, hq, hqc⟩ : ∃ q, x 40 = .pointer (some q) ∧ q.block < wx.heap.size ∧ wx.cell? q = some (.string WW) := (hH 5 (by omega) (hd 5 (by simp)))
            simp only [fillA, fillL]
            simp only [e5]
            simp only [fillA, fillL, e5] at hK
            go_simp
            exact hK (.string WW) _ _ ⟨hB, hH.step 6 41 _ rfl (by decide) (fun j y h => h) rfl⟩ rfl
          · intro hL hd K hK
            have e1 : x 36 = .string (SS ++ ByteArray.mk #[99, 111, 100, 101, 32]) := hH 1 (by omega) (hd 1 (by simp))
            have e6 : x 41 = .string WW := hH 6 (by omega) (hd 6 (by simp))
            simp only [fillA, fillL]
            simp only [e1, e6]
            simp only [fillA, fillL, e1, e6] at hK
            go_simp
            exact hK (.string (SS ++ ByteArray.mk #[99, 111, 100, 101, 32] ++ WW)) _ _ ⟨hB, hH.step 7 42 _ rfl (by decide) (fun j y h => h) rfl⟩ rfl
          · intro hL hd K hK
            have e7 : x 42 = .string (SS ++ ByteArray.mk #[99, 111, 100, 101, 32] ++ WW) := hH 7 (by omega) (hd 7 (by simp))
            simp only [fillA, fillL]
            simp only [e7]
            simp only [fillA, fillL, e7] at hK
            go_simp
            exact hK (.string (SS ++ ByteArray.mk #[99, 111, 100, 101, 32] ++ WW)) _ _ ⟨hB, hH.step 8 2 _ rfl (by decide) (fun j y h => h) rfl⟩ rfl
        · rintro x2 w5 ⟨hB5, hH5⟩
          have e5 : x2 2 = .string (SS ++ ByteArray.mk #[99, 111, 100, 101, 32] ++ WW) := hH5 8 (by omega) (by rfl)
          have hb6 := hbx.trans (hB5.mono (B' := w.heap.size) hbx.size)
          clear hH5
          simp only [fillA, fillL, e5]
          go_wp2
          go_ret
          rw [← hSe2.out]
          exact ⟨rfl, hb6⟩
      · have htv := htx.out v v0 (by omega) wx hbx
        have s3 := dd_size v0 (by omega)
        have hSe := hS'.out
        rw [if_neg (by omega)] at hSe
        generalize dd v = S3 at hSe htv s3
        have c7 : ¬ (9223372036854775807 < S1.size + 1 + S2.size + 6 + S3.size) := by omega
        have c8 : ¬ (9223372036854775807 < S1.size + 1 + S2.size + 9 + S3.size) := by omega
        have c9 : ¬ (9223372036854775807 < S1.size + 1 + S2.size + 1 + 5 + S3.size) := by omega
        have c10 : ¬ (9223372036854775807 < S1.size + 1 + S2.size + 1 + 8 + S3.size) := by omega
        have hS2 : k = 2 → S1 ++ ByteArray.mk #[32] ++ S2 ++ ByteArray.mk #[32] ++ ByteArray.mk #[116, 105, 109, 101, 32] ++ S3 = S := fun h => by
          rw [if_pos h] at hSe
          rw [← hSe, ByteArray.append_assoc (b := ByteArray.mk #[32]) (c := ByteArray.mk #[116, 105, 109, 101, 32])]
          rfl
        have hS3 : k = 3 → S1 ++ ByteArray.mk #[32] ++ S2 ++ ByteArray.mk #[32] ++ ByteArray.mk #[112, 101, 114, 99, 101, 110, 116, 32] ++ S3 = S := fun h => by
          rw [if_neg (by omega)] at hSe
          rw [← hSe, ByteArray.append_assoc (b := ByteArray.mk #[32]) (c := ByteArray.mk #[112, 101, 114, 99, 101, 110, 116, 32])]
          rfl
        replace htv := Lib.hid htv
        replace hS2 := Lib.hid hS2
        replace hS3 := Lib.hid hS3
        clear hS' htx hSe
        obtain rfl | rfl := hk
        · go_wp2_with fail
          refine htv.out.mono ?_
          rintro e w5 ⟨rfl, hb5⟩
          have hb6 := hbx.trans (hb5.mono (B' := w.heap.size) hbx.size)
          go_wp2
          go_ret
          rw [← hS2.out (by trivial)]
          exact ⟨rfl, hb6⟩
        · go_wp2_with fail
          refine htv.out.mono ?_
          rintro e w5 ⟨rfl, hb5⟩
          have hb6 := hbx.trans (hb5.mono (B' := w.heap.size) hbx.size)
          go_wp2
          go_ret
          rw [← hS3.out (by trivial)]
          exact ⟨rfl, hb6⟩
end Go.Proofs.YtcjeeampjhcljaaDoor
