/- Marks: the program's test and the reference's. -/
import Derived.Test.YtfllbhgngolfnaaDoorNm
set_option linter.unusedSimpArgs false
set_option linter.unusedVariables false
namespace Go.Proofs.YtfllbhgngolfnaaDoor
open Go.RowKit

def markB (S : ByteArray) (x y s z : Int) : Bool := nameB S && (ptB x y && (inB s 1 2 && inB z 1 5000))

set_option maxRecDepth 100000 in
set_option maxHeartbeats 4000000 in
theorem isMark_any (S : ByteArray) (x y s z : Int) (v : Bool) (hv : markB S x y s z = v) (w : World) : Calls Tryd.prog 36 #[.agg #[.string S, .int .i64 x, .int .i64 y, .int .i64 s, .int .i64 z]] w fun e w' => e = .returned (.bool v) ∧ Below w.heap.size w w' := by
  have hW := Whole.new w 59 #[.string S, .int .i64 x, .int .i64 y, .int .i64 s, .int .i64 z]
  have hb := (Below.refl w.heap.size w).alloc (Nat.le_refl _) (.cells #[.string S, .int .i64 x, .int .i64 y, .int .i64 s, .int .i64 z] 59)
  have hn : ∀ W, Calls Tryd.prog 46 #[.string S] W fun e w' => e = .returned (.bool (nameB S)) ∧ Below W.heap.size W w' := fun W => isMarkName_any S W
  have hp := fun W => isPoint_any x y W
  unfold markB at hv
  cases h1 : nameB S with
  | false =>
    rw [h1] at hv hn
    have hv : v = false := by rw [← hv]; rfl
    subst hv
    replace hn := Lib.hid hn
    clear hW
    go_enter Tryd.func36, Tryd.ntmps36
    go_wp2_with fail
    refine (hn.out _).mono ?_
    rintro e w1 ⟨rfl, hb1⟩
    go_wp2
    go_ret
    exact ⟨rfl, hb.trans (hb1.mono hb.size)⟩
  | true =>
    rw [h1, Bool.true_and] at hv
    rw [h1] at hn
    replace hn := Lib.hid hn
    have next : ∀ w1, Below (w.alloc (.cells #[.string S, .int .i64 x, .int .i64 y, .int .i64 s, .int .i64 z] 59)).heap.size (w.alloc (.cells #[.string S, .int .i64 x, .int .i64 y, .int .i64 s, .int .i64 z] 59)) w1 → (∀ j, w1.cell? ⟨w.heap.size, j, none⟩ = (#[.string S, .int .i64 x, .int .i64 y, .int .i64 s, .int .i64 z] : Array Value)[j]?) ∧ Below w.heap.size w w1 := fun w1 hb1 => by
      have hW1 := hW.below hb1 (by simp)
      exact ⟨fun j => hW1.cell j, hb.trans (hb1.mono hb.size)⟩
    have past : ∀ w1 w2, (∀ j, w1.cell? ⟨w.heap.size, j, none⟩ = (#[.string S, .int .i64 x, .int .i64 y, .int .i64 s, .int .i64 z] : Array Value)[j]?) → Below w.heap.size w w1 → w.heap.size < w1.heap.size → Below w1.heap.size w1 w2 → (∀ j, w2.cell? ⟨w.heap.size, j, none⟩ = (#[.string S, .int .i64 x, .int .i64 y, .int .i64 s, .int .i64 z] : Array Value)[j]?) ∧ Below w.heap.size w w2 := fun w1 w2 hc hb1 hl hb2 =>
      ⟨fun j => (hb2.cell (p := ⟨w.heap.size, j, none⟩) hl).trans (hc j), hb1.trans (hb2.mono (by omega))⟩
    clear hW
    replace next := Lib.hid next
    replace past := Lib.hid past
    cases h2 : ptB x y with
    | false =>
      rw [h2] at hv hp
      have hv : v = false := by rw [← hv]; rfl
      subst hv
      replace hp := Lib.hid hp
      go_enter Tryd.func36, Tryd.ntmps36
      go_wp2_with fail
      refine (hn.out _).mono ?_
      rintro e w1 ⟨rfl, hb1⟩
      obtain ⟨hc, hbb⟩ := next.out _ hb1
      have y1 := hc 1
      have y2 := hc 2
      simp at y1 y2
      clear hc
      go_wp2_with fail
      refine (hp.out _).mono ?_
      rintro e w2 ⟨rfl, hb2⟩
      go_wp2
      go_ret
      exact ⟨rfl, hbb.trans (hb2.mono hbb.size)⟩
    | true =>
      rw [h2, Bool.true_and] at hv
      rw [h2] at hp
      replace hp := Lib.hid hp
      cases h3 : inB s 1 2 with
      | false =>
        rw [h3] at hv
        have hv : v = false := by rw [← hv]; rfl
        subst hv
        have hi : ∀ W, Calls Tryd.prog 48 #[.int .i64 s, .int .i64 1, .int .i64 2] W fun e w' => e = .returned (.bool false) ∧ W = w' := fun W => h3 ▸ within_any s 1 2 W
        replace hi := Lib.hid hi
        go_enter Tryd.func36, Tryd.ntmps36
        go_wp2_with fail
        refine (hn.out _).mono ?_
        rintro e w1 ⟨rfl, hb1⟩
        have hsz := hb1.size
        simp only [World.size_alloc] at hsz
        obtain ⟨hc, hbb⟩ := next.out _ hb1
        have y1 := hc 1
        have y2 := hc 2
        simp at y1 y2
        go_wp2_with fail
        refine (hp.out _).mono ?_
        rintro e w2 ⟨rfl, hb2⟩
        obtain ⟨hc2, hbb2⟩ := past.out _ _ hc hbb (by omega) hb2
        have y3 := hc2 3
        simp at y3
        clear hc hc2 y1 y2
        go_wp2_with fail
        refine (hi.out _).mono ?_
        rintro e w3 ⟨rfl, rfl⟩
        go_wp2
        go_ret
        exact ⟨rfl, hbb2⟩
      | true =>
        rw [h3, Bool.true_and] at hv
        have hi : ∀ W, Calls Tryd.prog 48 #[.int .i64 s, .int .i64 1, .int .i64 2] W fun e w' => e = .returned (.bool true) ∧ W = w' := fun W => h3 ▸ within_any s 1 2 W
        have hz : ∀ W, Calls Tryd.prog 48 #[.int .i64 z, .int .i64 1, .int .i64 5000] W fun e w' => e = .returned (.bool v) ∧ W = w' := fun W => hv ▸ within_any z 1 5000 W
        replace hi := Lib.hid hi
        replace hz := Lib.hid hz
        go_enter Tryd.func36, Tryd.ntmps36
        go_wp2_with fail
        refine (hn.out _).mono ?_
        rintro e w1 ⟨rfl, hb1⟩
        have hsz := hb1.size
        simp only [World.size_alloc] at hsz
        obtain ⟨hc, hbb⟩ := next.out _ hb1
        have y1 := hc 1
        have y2 := hc 2
        simp at y1 y2
        go_wp2_with fail
        refine (hp.out _).mono ?_
        rintro e w2 ⟨rfl, hb2⟩
        obtain ⟨hc2, hbb2⟩ := past.out _ _ hc hbb (by omega) hb2
        have y3 := hc2 3
        have y4 := hc2 4
        simp at y3 y4
        clear hc hc2 y1 y2
        go_wp2_with fail
        refine (hi.out _).mono ?_
        rintro e w3 ⟨rfl, rfl⟩
        go_wp2_with fail
        refine (hz.out _).mono ?_
        rintro e w3 ⟨rfl, rfl⟩
        go_wp2
        go_ret
        exact ⟨rfl, hbb2⟩

set_option maxRecDepth 100000 in
set_option maxHeartbeats 4000000 in
theorem l04Mark_any (S : ByteArray) (x y s z : Int) (v : Bool) (hv : markB S x y s z = v) (w : World) : Calls Tryd.prog 30 #[.agg #[.string S, .int .i64 x, .int .i64 y, .int .i64 s, .int .i64 z]] w fun e w' => e = .returned (.bool v) ∧ Below w.heap.size w w' := by
  have hW := Whole.new w 59 #[.string S, .int .i64 x, .int .i64 y, .int .i64 s, .int .i64 z]
  have hb := (Below.refl w.heap.size w).alloc (Nat.le_refl _) (.cells #[.string S, .int .i64 x, .int .i64 y, .int .i64 s, .int .i64 z] 59)
  have hn : ∀ W, Calls Tryd.prog 42 #[.string S] W fun e w' => e = .returned (.bool (nameB S)) ∧ Below W.heap.size W w' := fun W => (l04Name_any S W).mono fun e w' ⟨he, hw⟩ => ⟨he, hw ▸ Below.refl _ _⟩
  have hp := fun W => sIsPoint_any x y W
  unfold markB at hv
  cases h1 : nameB S with
  | false =>
    rw [h1] at hv hn
    have hv : v = false := by rw [← hv]; rfl
    subst hv
    replace hn := Lib.hid hn
    clear hW
    go_enter Tryd.func30, Tryd.ntmps30
    go_wp2_with fail
    refine (hn.out _).mono ?_
    rintro e w1 ⟨rfl, hb1⟩
    go_wp2
    go_ret
    exact ⟨rfl, hb.trans (hb1.mono hb.size)⟩
  | true =>
    rw [h1, Bool.true_and] at hv
    rw [h1] at hn
    replace hn := Lib.hid hn
    have next : ∀ w1, Below (w.alloc (.cells #[.string S, .int .i64 x, .int .i64 y, .int .i64 s, .int .i64 z] 59)).heap.size (w.alloc (.cells #[.string S, .int .i64 x, .int .i64 y, .int .i64 s, .int .i64 z] 59)) w1 → (∀ j, w1.cell? ⟨w.heap.size, j, none⟩ = (#[.string S, .int .i64 x, .int .i64 y, .int .i64 s, .int .i64 z] : Array Value)[j]?) ∧ Below w.heap.size w w1 := fun w1 hb1 => by
      have hW1 := hW.below hb1 (by simp)
      exact ⟨fun j => hW1.cell j, hb.trans (hb1.mono hb.size)⟩
    have past : ∀ w1 w2, (∀ j, w1.cell? ⟨w.heap.size, j, none⟩ = (#[.string S, .int .i64 x, .int .i64 y, .int .i64 s, .int .i64 z] : Array Value)[j]?) → Below w.heap.size w w1 → w.heap.size < w1.heap.size → Below w1.heap.size w1 w2 → (∀ j, w2.cell? ⟨w.heap.size, j, none⟩ = (#[.string S, .int .i64 x, .int .i64 y, .int .i64 s, .int .i64 z] : Array Value)[j]?) ∧ Below w.heap.size w w2 := fun w1 w2 hc hb1 hl hb2 =>
      ⟨fun j => (hb2.cell (p := ⟨w.heap.size, j, none⟩) hl).trans (hc j), hb1.trans (hb2.mono (by omega))⟩
    clear hW
    replace next := Lib.hid next
    replace past := Lib.hid past
    cases h2 : ptB x y with
    | false =>
      rw [h2] at hv hp
      have hv : v = false := by rw [← hv]; rfl
      subst hv
      replace hp := Lib.hid hp
      go_enter Tryd.func30, Tryd.ntmps30
      go_wp2_with fail
      refine (hn.out _).mono ?_
      rintro e w1 ⟨rfl, hb1⟩
      obtain ⟨hc, hbb⟩ := next.out _ hb1
      have y1 := hc 1
      have y2 := hc 2
      simp at y1 y2
      clear hc
      go_wp2_with fail
      refine (hp.out _).mono ?_
      rintro e w2 ⟨rfl, hb2⟩
      go_wp2
      go_ret
      exact ⟨rfl, hbb.trans (hb2.mono hbb.size)⟩
    | true =>
      rw [h2, Bool.true_and] at hv
      rw [h2] at hp
      replace hp := Lib.hid hp
      cases h3 : inB s 1 2 with
      | false =>
        rw [h3] at hv
        have hv : v = false := by rw [← hv]; rfl
        subst hv
        have hi : ∀ W, Calls Tryd.prog 43 #[.int .i64 s, .int .i64 1, .int .i64 2] W fun e w' => e = .returned (.bool false) ∧ W = w' := fun W => h3 ▸ l01In_any s 1 2 W
        replace hi := Lib.hid hi
        go_enter Tryd.func30, Tryd.ntmps30
        go_wp2_with fail
        refine (hn.out _).mono ?_
        rintro e w1 ⟨rfl, hb1⟩
        have hsz := hb1.size
        simp only [World.size_alloc] at hsz
        obtain ⟨hc, hbb⟩ := next.out _ hb1
        have y1 := hc 1
        have y2 := hc 2
        simp at y1 y2
        go_wp2_with fail
        refine (hp.out _).mono ?_
        rintro e w2 ⟨rfl, hb2⟩
        obtain ⟨hc2, hbb2⟩ := past.out _ _ hc hbb (by omega) hb2
        have y3 := hc2 3
        simp at y3
        clear hc hc2 y1 y2
        go_wp2_with fail
        refine (hi.out _).mono ?_
        rintro e w3 ⟨rfl, rfl⟩
        go_wp2
        go_ret
        exact ⟨rfl, hbb2⟩
      | true =>
        rw [h3, Bool.true_and] at hv
        have hi : ∀ W, Calls Tryd.prog 43 #[.int .i64 s, .int .i64 1, .int .i64 2] W fun e w' => e = .returned (.bool true) ∧ W = w' := fun W => h3 ▸ l01In_any s 1 2 W
        have hz : ∀ W, Calls Tryd.prog 43 #[.int .i64 z, .int .i64 1, .int .i64 5000] W fun e w' => e = .returned (.bool v) ∧ W = w' := fun W => hv ▸ l01In_any z 1 5000 W
        replace hi := Lib.hid hi
        replace hz := Lib.hid hz
        go_enter Tryd.func30, Tryd.ntmps30
        go_wp2_with fail
        refine (hn.out _).mono ?_
        rintro e w1 ⟨rfl, hb1⟩
        have hsz := hb1.size
        simp only [World.size_alloc] at hsz
        obtain ⟨hc, hbb⟩ := next.out _ hb1
        have y1 := hc 1
        have y2 := hc 2
        simp at y1 y2
        go_wp2_with fail
        refine (hp.out _).mono ?_
        rintro e w2 ⟨rfl, hb2⟩
        obtain ⟨hc2, hbb2⟩ := past.out _ _ hc hbb (by omega) hb2
        have y3 := hc2 3
        have y4 := hc2 4
        simp at y3 y4
        clear hc hc2 y1 y2
        go_wp2_with fail
        refine (hi.out _).mono ?_
        rintro e w3 ⟨rfl, rfl⟩
        go_wp2_with fail
        refine (hz.out _).mono ?_
        rintro e w3 ⟨rfl, rfl⟩
        go_wp2
        go_ret
        exact ⟨rfl, hbb2⟩

end Go.Proofs.YtfllbhgngolfnaaDoor
