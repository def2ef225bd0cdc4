/- A ruling's text: the program's and the reference's. -/
import Derived.Test.YteacjoemlobmoaaDoorTxt
import Derived.Test.YteacjoemlobmoaaDoorApp
import Derived.Test.YteacjoemlobmoaaDoorInv
set_option linter.unusedSimpArgs false
set_option linter.unusedVariables false
namespace Go.Proofs.YteacjoemlobmoaaDoor
open Go.RowKit Go.Shelf

/-- The kinds' words, in order. -/
def wordA (i : Nat) : ByteArray :=
  if i = 0 then ⟨#[100, 101, 99, 105, 115, 105, 111, 110]⟩ else if i = 1 then ⟨#[117, 112, 104, 111, 108, 100]⟩ else if i = 2 then ⟨#[114, 101, 118, 101, 114, 115, 101]⟩ else if i = 3 then ⟨#[114, 101, 109, 97, 110, 100]⟩ else ⟨#[114, 101, 111, 112, 101, 110]⟩
def wordsA : Array Value := #[.string ⟨#[100, 101, 99, 105, 115, 105, 111, 110]⟩, .string ⟨#[117, 112, 104, 111, 108, 100]⟩, .string ⟨#[114, 101, 118, 101, 114, 115, 101]⟩, .string ⟨#[114, 101, 109, 97, 110, 100]⟩, .string ⟨#[114, 101, 111, 112, 101, 110]⟩]
theorem wordA_size (i : Nat) : (wordA i).size ≤ 8 := by
  unfold wordA
  split
  · decide
  · split
    · decide
    · split
      · decide
      · split <;> decide
theorem wordsA_get {i : Nat} (h : i < 5) : wordsA[i]? = some (.string (wordA i)) := by
  obtain rfl | rfl | rfl | rfl | rfl : i = 0 ∨ i = 1 ∨ i = 2 ∨ i = 3 ∨ i = 4 := by omega
  all_goals rfl
/-- A ruling's text. -/
def apT (t k u : Int) : ByteArray :=
  if rulB t k u = true then (if k = 1 ∨ k = 3 then wordA (k - 1).toNat ++ ByteArray.mk #[32] ++ dd t ++ ByteArray.mk #[32] ++ dd u else wordA (k - 1).toNat ++ ByteArray.mk #[32] ++ dd t) else ⟨#[]⟩
theorem rulT_t {t k u : Int} (h : rulB t k u = true) : 0 ≤ t ∧ t ≤ 1000000000 ∧ 1 ≤ k ∧ k ≤ 5 ∧ ((k = 1 ∨ k = 3) → 0 ≤ u ∧ u ≤ 3) := by
  unfold rulB inB at h
  simp only [Bool.and_eq_true, decide_eq_true_eq] at h
  refine ⟨h.1.1.1, h.1.1.2, h.1.2.1, h.1.2.2, fun hk => ?_⟩
  have := h.2
  rw [if_pos hk] at this
  simpa using this

def apAD : Nat → Nat
  | 0 => 9
  | 1 => 10
  | 2 => 11
  | 3 => 12
  | 4 => 13
  | 5 => 14
  | 6 => 15
  | 7 => 16
  | 8 => 17
  | 9 => 18
  | 10 => 4
  | _ => 0
def apAG (gb gw κ : Nat) (t : Int) (WW S1 : ByteArray) : Nat → Value → World → Prop
  | 0, y, W => y = .pointer (some ⟨gb, 1, none⟩)
  | 1, y, W => y = .int .i64 (κ + 1)
  | 2, y, W => y = .int .i64 κ
  | 3, y, W => y = .pointer (some ⟨gw, κ, none⟩)
  | 4, y, W => y = .string WW
  | 5, y, W => y = .string (WW ++ ByteArray.mk #[32])
  | 6, y, W => y = .pointer (some ⟨gb, 0, none⟩)
  | 7, y, W => y = .int .i64 t
  | 8, y, W => y = .string S1
  | 9, y, W => y = .string (WW ++ ByteArray.mk #[32] ++ S1)
  | 10, y, W => y = .string (WW ++ ByteArray.mk #[32] ++ S1)
  | _, _, _ => True
def apBD : Nat → Nat
  | 0 => 7
  | 1 => 8
  | 2 => 9
  | 3 => 10
  | 4 => 11
  | 5 => 12
  | 6 => 13
  | 7 => 14
  | 8 => 15
  | 9 => 16
  | 10 => 17
  | 11 => 3
  | _ => 0
def apBG (gb κ : Nat) (t : Int) (WW S1 : ByteArray) : Nat → Value → World → Prop
  | 0, y, W => ∃ g, y = .slice (some ⟨g, 0, none⟩) 5 5 ∧ Whole W g 9 wordsA
  | 1, y, W => y = .pointer (some ⟨gb, 1, none⟩)
  | 2, y, W => y = .int .i64 (κ + 1)
  | 3, y, W => y = .int .i64 κ
  | 4, y, W => ∃ q, y = .pointer (some q) ∧ q.block < W.heap.size ∧ W.cell? q = some (.string WW)
  | 5, y, W => y = .string WW
  | 6, y, W => y = .string (WW ++ ByteArray.mk #[32])
  | 7, y, W => y = .pointer (some ⟨gb, 0, none⟩)
  | 8, y, W => y = .int .i64 t
  | 9, y, W => y = .string S1
  | 10, y, W => y = .string (WW ++ ByteArray.mk #[32] ++ S1)
  | 11, y, W => y = .string (WW ++ ByteArray.mk #[32] ++ S1)
  | _, _, _ => True
theorem apB_al {gb κ : Nat} {t : Int} {WW S1 : ByteArray} {w : World} {o : Obj} : ∀ {j : Nat} {y : Value}, apBG gb κ t WW S1 j y w → apBG gb κ t WW S1 j y (w.alloc o)
  | 0, _, ⟨g, h1, h2⟩ => ⟨g, h1, h2.alloc _⟩
  | 1, _, h => h
  | 2, _, h => h
  | 3, _, h => h
  | 4, _, ⟨q, h1, h2, h3⟩ => ⟨q, h1, by simp; omega, (((Below.refl w.heap.size w).alloc (Nat.le_refl _) o).cell h2).trans h3⟩
  | 5, _, h => h
  | 6, _, h => h
  | 7, _, h => h
  | 8, _, h => h
  | 9, _, h => h
  | 10, _, h => h
  | 11, _, h => h
  | _ + 12, _, h => h
theorem apB_be {gb κ : Nat} {t : Int} {WW S1 : ByteArray} {w w' : World} (hb : Below w.heap.size w w') : ∀ {j : Nat} {y : Value}, apBG gb κ t WW S1 j y w → apBG gb κ t WW S1 j y w'
  | 0, _, ⟨g, h1, h2⟩ => ⟨g, h1, h2.below hb h2.lt⟩
  | 1, _, h => h
  | 2, _, h => h
  | 3, _, h => h
  | 4, _, ⟨q, h1, h2, h3⟩ => ⟨q, h1, Nat.lt_of_lt_of_le h2 hb.size, (hb.cell h2).trans h3⟩
  | 5, _, h => h
  | 6, _, h => h
  | 7, _, h => h
  | 8, _, h => h
  | 9, _, h => h
  | 10, _, h => h
  | 11, _, h => h
  | _ + 12, _, h => h
theorem apA_any {gb gw κ : Nat} {t : Int} {WW S1 : ByteArray} {w w' : World} : ∀ {j : Nat} {y : Value}, apAG gb gw κ t WW S1 j y w → apAG gb gw κ t WW S1 j y w'
  | 0, _, h => h
  | 1, _, h => h
  | 2, _, h => h
  | 3, _, h => h
  | 4, _, h => h
  | 5, _, h => h
  | 6, _, h => h
  | 7, _, h => h
  | 8, _, h => h
  | 9, _, h => h
  | 10, _, h => h
  | _ + 11, _, h => h
set_option maxRecDepth 100000 in
set_option maxHeartbeats 8000000 in
theorem appealText_val (t k u : Int) (S : ByteArray) (hS : Hid (apT t k u = S)) (w : World) (hT : Pow w w.heap.size) :
    Calls Tryd.prog 7 #[.agg #[.int .i64 t, .int .i64 k, .int .i64 u]] w fun e w' => e = .returned (.string S) ∧ Below w.heap.size w w' := by
  cases hr : rulB t k u with
  | false =>
    have hcall := fun W => isRuling_val t k u false hr W
    replace hcall := Lib.hid hcall
    obtain rfl : (⟨#[]⟩ : ByteArray) = S := by rw [← hS.out]; unfold apT; rw [hr]; rfl
    clear hS hr
    have hb0 : Below w.heap.size w (w.alloc (.cells #[.int .i64 t, .int .i64 k, .int .i64 u] 25)) := (Below.refl _ _).alloc (Nat.le_refl _) _
    have hb0 := hb0.alloc (by simp) (.cells wordsA 47)
    go_enter Tryd.func7, Tryd.ntmps7
    go_wp2_with fail
    refine (hcall.out _).mono ?_
    rintro e w1 ⟨rfl, hb1⟩
    have hbb : Below w.heap.size w w1 := hb0.trans (hb1.mono hb0.size)
    clear hb0 hb1 hcall
    go_wp2
    go_ret
    exact ⟨rfl, hbb⟩
  | true =>
    obtain ⟨t0, t1, k0, k1, hu⟩ := rulT_t hr
    obtain ⟨κ, rfl⟩ : ∃ κ : Nat, k = κ + 1 := ⟨(k - 1).toNat, by omega⟩
    have hκ : κ < 5 := by omega
    have hcall1 := fun W => isRuling_val t (κ + 1) u true hr W
    replace hcall1 := Lib.hid hcall1
    have hwr : IntKind.i64.wrap ((κ : Int) + 1 - 1) = κ := by rw [IntKind.wrap_i64]; omega
    have hwr2 : IntKind.i64.wrap (κ : Int) = κ := by rw [IntKind.wrap_i64]; omega
    have hS' := hS.out
    unfold apT at hS'
    rw [if_pos hr, show ((κ : Int) + 1 - 1).toNat = κ by omega] at hS'
    have hw := wordsA_get hκ
    clear hS hr
    have hWs := wordA_size κ
    generalize wordA κ = WW at hS' hw hWs
    have htx := fun (n : Int) h0 h1 (W : World) (hb : Below w.heap.size w W) => text_any n h0 h1 w.heap.size W (hT.on hb)
    clear hT
    have ht1 := htx t t0 (by omega)
    have hs1 := dd_size t0 (show t ≤ 9223372036854775807 by omega)
    have hs2 : (κ = 0 ∨ κ = 2) → (dd u).size ≤ 21 := fun h => dd_size (hu (by omega)).1 (by have := (hu (by omega)).2; omega)
    obtain ⟨S1, hS1⟩ : ∃ z, dd t = z := ⟨_, rfl⟩
    rw [hS1] at hS' ht1 hs1
    have hk5 : (κ : Int) < 5 := by omega
    have c1 : ¬ (9223372036854775807 < WW.size + 1) := by omega
    have c2 : ¬ (9223372036854775807 < WW.size + 1 + S1.size) := by omega
    have ht2 : (κ = 0 ∨ κ = 2) → ∀ (W : World), Below w.heap.size w W → Calls Tryd.prog 23 #[.int .i64 u] W fun e w' => e = .returned (.string (dd u)) ∧ Below W.heap.size W w' := fun h W hb => htx u (hu (by omega)).1 (by have := (hu (by omega)).2; omega) W hb
    clear htx hu
    generalize dd u = S2 at hS' ht2 hs2
    replace ht1 := Lib.hid ht1
    replace ht2 := Lib.hid ht2
    replace hS' := Lib.hid hS'
    replace hw := Lib.hid hw
    clear hS1
    have hW0 := Whole.new w 25 #[.int .i64 t, .int .i64 (κ + 1), .int .i64 u]
    have hb0 : Below w.heap.size w (w.alloc (.cells #[.int .i64 t, .int .i64 (κ + 1), .int .i64 u] 25)) := (Below.refl _ _).alloc (Nat.le_refl _) _

    replace hW0 := hW0.alloc (.cells wordsA 47)
    have hV0 := Whole.new (w.alloc (.cells #[.int .i64 t, .int .i64 (κ + 1), .int .i64 u] 25)) 47 wordsA
    simp only [World.size_alloc] at hV0
    replace hb0 := hb0.alloc (by simp) (.cells wordsA 47)
    replace hW0 := Lib.hid hW0
    replace hV0 := Lib.hid hV0
    go_enter Tryd.func7, Tryd.ntmps7
    go_wp2_with fail
    refine (hcall1.out _).mono ?_
    rintro e w1 ⟨rfl, hb1⟩
    have hW1 := hW0.out.below hb1 hW0.out.lt
    have hV1 := hV0.out.below hb1 hV0.out.lt
    have hbb : Below w.heap.size w w1 := hb0.trans (hb1.mono hb0.size)
    have hzz := hbb.size
    clear hb0 hb1 hcall1 hW0 hV0
    have hy0 : Hid (w1.cell? ⟨w.heap.size, 0, none⟩ = some (.int .i64 t)) := Lib.hid (by simpa using hW1.cell 0)
    have hy1 : Hid (w1.cell? ⟨w.heap.size, 1, none⟩ = some (.int .i64 (κ + 1))) := Lib.hid (by simpa using hW1.cell 1)
    have hy2 : Hid (w1.cell? ⟨w.heap.size, 2, none⟩ = some (.int .i64 u)) := Lib.hid (by simpa using hW1.cell 2)
    have hgl := hW1.lt
    have hyw := Lib.hid ((hV1.cell κ).trans hw.out)
    have hwl := hV1.lt
    have hcall : Hid (∀ W : World, Below w1.heap.size w1 W → Calls Tryd.prog 23 #[.int .i64 t] W fun e w' => e = .returned (.string S1) ∧ Below W.heap.size W w') := Lib.hid (fun W hb => ht1.out W (hbb.trans (hb.mono hzz)))
    clear hW1 hV1 ht1
    go_wp2_with fail

    refine wp_region_inv (fun L x wx => Below w1.heap.size w1 wx ∧ Held apAD (apAG w.heap.size (w.heap.size + 1) κ t WW S1) 11 L x wx) [4, 9, 10, 11, 12, 13, 14, 15, 16, 17, 18] [[], [0], [1], [2], [3], [4], [], [6], [7], [5, 8], [9, 8, 0, 1, 2, 3, 4, 5, 6, 7, 8, 9]] (by kernel_rfl) (by kernel_rfl) (by kernel_rfl) ?_ ?_ ?_
    · intro x
      exact ⟨(Below.refl _ _).drew, Held.none⟩
    · rintro L x wx ⟨hB, hH⟩
      have hBz := hB.size
      refine ⟨InvAt.mk rfl (by simp) ?_, InvAt.mk rfl (by simp) ?_, InvAt.mk rfl (by simp) ?_, InvAt.mk rfl (by simp) ?_, InvAt.mk rfl (by simp) ?_, InvAt.mk rfl (by simp) ?_, InvAt.mk rfl (by simp) ?_, InvAt.mk rfl (by simp) ?_, InvAt.mk rfl (by simp) ?_, InvAt.mk rfl (by simp) ?_, InvAt.mk rfl (by simp) ?_, trivial⟩
      · intro hL hd K hK
        simp only [fillA, fillL]
        go_simp
        exact hK (.pointer (some ⟨w.heap.size, 1, none⟩)) _ _ ⟨hB, hH.step 0 9 _ rfl (by decide) (fun j y h => h) rfl⟩ rfl
      · intro hL hd K hK
        have e0 : x 9 = .pointer (some ⟨w.heap.size, 1, none⟩) := hH 0 (by omega) (hd 0 (by simp))
        have y0 := (hB.cell (by show _ < _; omega)).trans hy1.out
        simp only [fillA, fillL]
        simp only [e0]
        simp only [fillA, fillL, e0] at hK
        go_simp
        exact hK (.int .i64 (κ + 1)) _ _ ⟨hB, hH.step 1 10 _ rfl (by decide) (fun j y h => h) rfl⟩ rfl
      · intro hL hd K hK
        have e1 : x 10 = .int .i64 (κ + 1) := hH 1 (by omega) (hd 1 (by simp))
        simp only [fillA, fillL]
        simp only [e1]
        simp only [fillA, fillL, e1] at hK
        go_simp
        exact hK (.int .i64 κ) _ _ ⟨hB, hH.step 2 11 _ rfl (by decide) (fun j y h => h) rfl⟩ rfl
      · intro hL hd K hK
        have e2 : x 11 = .int .i64 κ := hH 2 (by omega) (hd 2 (by simp))
        simp only [fillA, fillL]
        simp only [e2]
        simp only [fillA, fillL, e2] at hK
        go_simp
        exact hK (.pointer (some ⟨w.heap.size + 1, κ, none⟩)) _ _ ⟨hB, hH.step 3 12 _ rfl (by decide) (fun j y h => h) rfl⟩ rfl
      · intro hL hd K hK
        have e3 : x 12 = .pointer (some ⟨w.heap.size + 1, κ, none⟩) := hH 3 (by omega) (hd 3 (by simp))
        have y0 := (hB.cell (by show _ < _; omega)).trans hyw.out
        simp only [fillA, fillL]
        simp only [e3]
        simp only [fillA, fillL, e3] at hK
        go_simp
        exact hK (.string WW) _ _ ⟨hB, hH.step 4 13 _ rfl (by decide) (fun j y h => h) rfl⟩ rfl
      · intro hL hd K hK
        have e4 : x 13 = .string WW := hH 4 (by omega) (hd 4 (by simp))
        simp only [fillA, fillL]
        simp only [e4]
        simp only [fillA, fillL, e4] at hK
        go_simp
        exact hK (.string (WW ++ ByteArray.mk #[32])) _ _ ⟨hB, hH.step 5 14 _ rfl (by decide) (fun j y h => h) rfl⟩ rfl
      · intro hL hd K hK
        simp only [fillA, fillL]
        go_simp
        exact hK (.pointer (some ⟨w.heap.size, 0, none⟩)) _ _ ⟨hB, hH.step 6 15 _ rfl (by decide) (fun j y h => h) rfl⟩ rfl
      · intro hL hd K hK
        have e6 : x 15 = .pointer (some ⟨w.heap.size, 0, none⟩) := hH 6 (by omega) (hd 6 (by simp))
        have y0 := (hB.cell (by show _ < _; omega)).trans hy0.out
        simp only [fillA, fillL]
        simp only [e6]
        simp only [fillA, fillL, e6] at hK
        go_simp
        exact hK (.int .i64 t) _ _ ⟨hB, hH.step 7 16 _ rfl (by decide) (fun j y h => h) rfl⟩ rfl
      · intro hL hd K hK
        have e7 : x 16 = .int .i64 t := hH 7 (by omega) (hd 7 (by simp))
        simp only [fillA, fillL]
        simp only [e7]
        simp only [fillA, fillL, e7] at hK
        go_simp
        go_at_call 23
        refine (hcall.out wx hB).mono ?_
        rintro e wy ⟨rfl, hby⟩
        exact hK (.string S1) _ _ ⟨hB.trans (hby.mono hBz), hH.step 8 17 _ rfl (by decide) (fun j y h => apA_any h) rfl⟩ rfl
      · intro hL hd K hK
        have e5 : x 14 = .string (WW ++ ByteArray.mk #[32]) := hH 5 (by omega) (hd 5 (by simp))
        have e8 : x 17 = .string S1 := hH 8 (by omega) (hd 8 (by simp))
        simp only [fillA, fillL]
        simp only [e5, e8]
        simp only [fillA, fillL, e5, e8] at hK
        go_simp
        exact hK (.string (WW ++ ByteArray.mk #[32] ++ S1)) _ _ ⟨hB, hH.step 9 18 _ rfl (by decide) (fun j y h => h) rfl⟩ rfl
      · intro hL hd K hK
        have e9 : x 18 = .string (WW ++ ByteArray.mk #[32] ++ S1) := hH 9 (by omega) (hd 9 (by simp))
        simp only [fillA, fillL]
        simp only [e9]
        simp only [fillA, fillL, e9] at hK
        go_simp
        exact hK (.string (WW ++ ByteArray.mk #[32] ++ S1)) _ _ ⟨hB, hH.step 10 4 _ rfl (by decide) (fun j y h => h) rfl⟩ rfl
    · rintro x wx ⟨hB, hH⟩
      have eS : x 4 = .string (WW ++ ByteArray.mk #[32] ++ S1) := hH 10 (by omega) (by rfl)
      have hbx : Below w.heap.size w wx := hbb.trans (hB.mono hzz)
      have hzx := hB.size
      have y1 := (hB.cell (by show _ < _; omega)).trans hy1.out
      have y2 := (hB.cell (by show _ < _; omega)).trans hy2.out
      clear hH hcall
      simp only [fillA, fillL, eS]
      by_cases h1 : κ = 0 ∨ κ = 2
      · have h2 := ht2.out h1 wx hbx
        have hS2 := hS'.out
        have hs3 := hs2 h1
        have c3 : ¬ (9223372036854775807 < 1 + S2.size) := by omega
        have c4 : ¬ (9223372036854775807 < WW.size + 1 + S1.size + (1 + S2.size)) := by omega
        have c5 : ¬ (9223372036854775807 < WW.size + 1 + S1.size + 1) := by omega
        have c6 : ¬ (9223372036854775807 < WW.size + 1 + S1.size + 1 + S2.size) := by omega
        rw [if_pos (by omega)] at hS2
        rw [ByteArray.append_assoc (b := ByteArray.mk #[32]) (c := S2)] at hS2
        replace h2 := Lib.hid h2
        replace hS2 := Lib.hid hS2
        clear hS' ht2
        obtain rfl | rfl := h1
        all_goals
          go_wp2_with fail
          refine h2.out.mono ?_
          rintro e w5 ⟨rfl, hb5⟩
          have hb6 := hbx.trans (hb5.mono hbx.size)
          go_wp2
          go_ret
          rw [← hS2.out]
          exact ⟨rfl, hb6⟩
      · have hS2 := hS'.out
        rw [if_neg (by omega)] at hS2
        have n0 : (((κ : Int) + 1) == 1) = false := by rw [beq_eq_false_iff_ne]; omega
        have n2 : (((κ : Int) + 1) == 3) = false := by rw [beq_eq_false_iff_ne]; omega
        replace hS2 := Lib.hid hS2
        clear hS' ht2
        go_wp2
        go_ret
        rw [← hS2.out]
        exact ⟨rfl, hbx⟩
set_option maxRecDepth 100000 in
set_option maxHeartbeats 8000000 in
theorem sAppealText_val (t k u : Int) (S : ByteArray) (hS : Hid (apT t k u = S)) (w : World) :
    Calls Tryd.prog 5 #[.agg #[.int .i64 t, .int .i64 k, .int .i64 u]] w fun e w' => e = .returned (.string S) ∧ Below w.heap.size w w' := by
  cases hr : rulB t k u with
  | false =>
    have hcall := fun W => l19Ruling_val t k u false hr W
    replace hcall := Lib.hid hcall
    obtain rfl : (⟨#[]⟩ : ByteArray) = S := by rw [← hS.out]; unfold apT; rw [hr]; rfl
    clear hS hr
    have hb0 : Below w.heap.size w (w.alloc (.cells #[.int .i64 t, .int .i64 k, .int .i64 u] 25)) := (Below.refl _ _).alloc (Nat.le_refl _) _
    
    go_enter Tryd.func5, Tryd.ntmps5
    go_wp2_with fail
    refine (hcall.out _).mono ?_
    rintro e w1 ⟨rfl, hb1⟩
    have hbb : Below w.heap.size w w1 := hb0.trans (hb1.mono hb0.size)
    clear hb0 hb1 hcall
    go_wp2
    go_ret
    exact ⟨rfl, hbb⟩
  | true =>
    obtain ⟨t0, t1, k0, k1, hu⟩ := rulT_t hr
    obtain ⟨κ, rfl⟩ : ∃ κ : Nat, k = κ + 1 := ⟨(k - 1).toNat, by omega⟩
    have hκ : κ < 5 := by omega
    have hcall1 := fun W => l19Ruling_val t (κ + 1) u true hr W
    replace hcall1 := Lib.hid hcall1
    have hwr : IntKind.i64.wrap ((κ : Int) + 1 - 1) = κ := by rw [IntKind.wrap_i64]; omega
    have hwr2 : IntKind.i64.wrap (κ : Int) = κ := by rw [IntKind.wrap_i64]; omega
    have hS' := hS.out
    unfold apT at hS'
    rw [if_pos hr, show ((κ : Int) + 1 - 1).toNat = κ by omega] at hS'
    have hw := wordsA_get hκ
    clear hS hr
    have hWs := wordA_size κ
    generalize wordA κ = WW at hS' hw hWs
    have htx := fun (n : Int) h0 h1 (W : World) (_ : Below w.heap.size w W) => number_any n h0 h1 W
    
    have ht1 := htx t t0 (by omega)
    have hs1 := dd_size t0 (show t ≤ 9223372036854775807 by omega)
    have hs2 : (κ = 0 ∨ κ = 2) → (dd u).size ≤ 21 := fun h => dd_size (hu (by omega)).1 (by have := (hu (by omega)).2; omega)
    obtain ⟨S1, hS1⟩ : ∃ z, dd t = z := ⟨_, rfl⟩
    rw [hS1] at hS' ht1 hs1
    have hk5 : (κ : Int) < 5 := by omega
    have c1 : ¬ (9223372036854775807 < WW.size + 1) := by omega
    have c2 : ¬ (9223372036854775807 < WW.size + 1 + S1.size) := by omega
    have ht2 : (κ = 0 ∨ κ = 2) → ∀ (W : World), Below w.heap.size w W → Calls Tryd.prog 21 #[.int .i64 u] W fun e w' => e = .returned (.string (dd u)) ∧ Below W.heap.size W w' := fun h W hb => htx u (hu (by omega)).1 (by have := (hu (by omega)).2; omega) W hb
    clear htx hu
    generalize dd u = S2 at hS' ht2 hs2
    replace ht1 := Lib.hid ht1
    replace ht2 := Lib.hid ht2
    replace hS' := Lib.hid hS'
    replace hw := Lib.hid hw
    clear hS1
    have hW0 := Whole.new w 25 #[.int .i64 t, .int .i64 (κ + 1), .int .i64 u]
    have hb0 : Below w.heap.size w (w.alloc (.cells #[.int .i64 t, .int .i64 (κ + 1), .int .i64 u] 25)) := (Below.refl _ _).alloc (Nat.le_refl _) _

    replace hW0 := Lib.hid hW0
    
    go_enter Tryd.func5, Tryd.ntmps5
    go_wp2_with fail
    refine (hcall1.out _).mono ?_
    rintro e w1 ⟨rfl, hb1⟩
    have hW1 := hW0.out.below hb1 hW0.out.lt
    
    have hbb : Below w.heap.size w w1 := hb0.trans (hb1.mono hb0.size)
    have hzz := hbb.size
    clear hb0 hb1 hcall1 hW0 
    have hy0 : Hid (w1.cell? ⟨w.heap.size, 0, none⟩ = some (.int .i64 t)) := Lib.hid (by simpa using hW1.cell 0)
    have hy1 : Hid (w1.cell? ⟨w.heap.size, 1, none⟩ = some (.int .i64 (κ + 1))) := Lib.hid (by simpa using hW1.cell 1)
    have hy2 : Hid (w1.cell? ⟨w.heap.size, 2, none⟩ = some (.int .i64 u)) := Lib.hid (by simpa using hW1.cell 2)
    have hgl := hW1.lt
    
    
    have hcall : Hid (∀ W : World, Below w1.heap.size w1 W → Calls Tryd.prog 21 #[.int .i64 t] W fun e w' => e = .returned (.string S1) ∧ Below W.heap.size W w') := Lib.hid (fun W hb => ht1.out W (hbb.trans (hb.mono hzz)))
    clear hW1  ht1
    go_wp2_with fail

    refine wp_region_inv (fun L x wx => Below w1.heap.size w1 wx ∧ Held apBD (apBG w.heap.size κ t WW S1) 12 L x wx) [3, 7, 8, 9, 10, 11, 12, 13, 14, 15, 16, 17] [[], [], [1], [2], [0, 3], [4], [5], [], [7], [8], [6, 9], [10, 9, 0, 1, 2, 3, 4, 5, 6, 7, 8, 9, 10]] (by kernel_rfl) (by kernel_rfl) (by kernel_rfl) ?_ ?_ ?_
    · intro x
      exact ⟨(Below.refl _ _).drew, Held.none⟩
    · rintro L x wx ⟨hB, hH⟩
      have hBz := hB.size
      refine ⟨InvAt.mk rfl (by simp) ?_, InvAt.mk rfl (by simp) ?_, InvAt.mk rfl (by simp) ?_, InvAt.mk rfl (by simp) ?_, InvAt.mk rfl (by simp) ?_, InvAt.mk rfl (by simp) ?_, InvAt.mk rfl (by simp) ?_, InvAt.mk rfl (by simp) ?_, InvAt.mk rfl (by simp) ?_, InvAt.mk rfl (by simp) ?_, InvAt.mk rfl (by simp) ?_, InvAt.mk rfl (by simp) ?_, trivial⟩
      · intro hL hd K hK
        simp only [fillA, fillL]
        go_simp
        refine hK (.slice (some ⟨wx.heap.size, 0, none⟩) 5 5) _ _ ⟨hB.alloc hBz _, hH.step 0 7 _ rfl (by decide) (fun j y h => apB_al h) ⟨wx.heap.size, rfl, Whole.new _ _ _⟩⟩ rfl
      · intro hL hd K hK
        simp only [fillA, fillL]
        go_simp
        exact hK (.pointer (some ⟨w.heap.size, 1, none⟩)) _ _ ⟨hB, hH.step 1 8 _ rfl (by decide) (fun j y h => h) rfl⟩ rfl
      · intro hL hd K hK
        have e1 : x 8 = .pointer (some ⟨w.heap.size, 1, none⟩) := hH 1 (by omega) (hd 1 (by simp))
        have y0 := (hB.cell (by show _ < _; omega)).trans hy1.out
        simp only [fillA, fillL]
        simp only [e1]
        simp only [fillA, fillL, e1] at hK
        go_simp
        exact hK (.int .i64 (κ + 1)) _ _ ⟨hB, hH.step 2 9 _ rfl (by decide) (fun j y h => h) rfl⟩ rfl
      · intro hL hd K hK
        have e2 : x 9 = .int .i64 (κ + 1) := hH 2 (by omega) (hd 2 (by simp))
        simp only [fillA, fillL]
        simp only [e2]
        simp only [fillA, fillL, e2] at hK
        go_simp
        exact hK (.int .i64 κ) _ _ ⟨hB, hH.step 3 10 _ rfl (by decide) (fun j y h => h) rfl⟩ rfl
      · intro hL hd K hK
        obtain ⟨g, e0, hg⟩ : ∃ g, x 7 = .slice (some ⟨g, 0, none⟩) 5 5 ∧ Whole wx g 9 wordsA := (hH 0 (by omega) (hd 0 (by simp)))
        have e3 : x 10 = .int .i64 κ := hH 3 (by omega) (hd 3 (by simp))
        simp only [fillA, fillL]
        simp only [e0, e3]
        simp only [fillA, fillL, e0, e3] at hK
        go_simp
        exact hK (.pointer (some ⟨g, κ, none⟩)) _ _ ⟨hB, hH.step 4 11 _ rfl (by decide) (fun j y h => h) ⟨_, rfl, hg.lt, (hg.cell κ).trans hw.out⟩⟩ rfl
      · intro hL hd K hK
        obtain ⟨q, e4, hq, hqc⟩ : ∃ q, x 11 = .pointer (some q) ∧ q.block < wx.heap.size ∧ wx.cell? q = some (.string WW) := (hH 4 (by omega) (hd 4 (by simp)))
        simp only [fillA, fillL]
        simp only [e4]
        simp only [fillA, fillL, e4] at hK
        go_simp
        exact hK (.string WW) _ _ ⟨hB, hH.step 5 12 _ rfl (by decide) (fun j y h => h) rfl⟩ rfl
      · intro hL hd K hK
        have e5 : x 12 = .string WW := hH 5 (by omega) (hd 5 (by simp))
        simp only [fillA, fillL]
        simp only [e5]
        simp only [fillA, fillL, e5] at hK
        go_simp
        exact hK (.string (WW ++ ByteArray.mk #[32])) _ _ ⟨hB, hH.step 6 13 _ rfl (by decide) (fun j y h => h) rfl⟩ rfl
      · intro hL hd K hK
        simp only [fillA, fillL]
        go_simp
        exact hK (.pointer (some ⟨w.heap.size, 0, none⟩)) _ _ ⟨hB, hH.step 7 14 _ rfl (by decide) (fun j y h => h) rfl⟩ rfl
      · intro hL hd K hK
        have e7 : x 14 = .pointer (some ⟨w.heap.size, 0, none⟩) := hH 7 (by omega) (hd 7 (by simp))
        have y0 := (hB.cell (by show _ < _; omega)).trans hy0.out
        simp only [fillA, fillL]
        simp only [e7]
        simp only [fillA, fillL, e7] at hK
        go_simp
        exact hK (.int .i64 t) _ _ ⟨hB, hH.step 8 15 _ rfl (by decide) (fun j y h => h) rfl⟩ rfl
      · intro hL hd K hK
        have e8 : x 15 = .int .i64 t := hH 8 (by omega) (hd 8 (by simp))
        simp only [fillA, fillL]
        simp only [e8]
        simp only [fillA, fillL, e8] at hK
        go_simp
        go_at_call 21
        refine (hcall.out wx hB).mono ?_
        rintro e wy ⟨rfl, hby⟩
        exact hK (.string S1) _ _ ⟨hB.trans (hby.mono hBz), hH.step 9 16 _ rfl (by decide) (fun j y h => apB_be hby h) rfl⟩ rfl
      · intro hL hd K hK
        have e6 : x 13 = .string (WW ++ ByteArray.mk #[32]) := hH 6 (by omega) (hd 6 (by simp))
        have e9 : x 16 = .string S1 := hH 9 (by omega) (hd 9 (by simp))
        simp only [fillA, fillL]
        simp only [e6, e9]
        simp only [fillA, fillL, e6, e9] at hK
        go_simp
        exact hK (.string (WW ++ ByteArray.mk #[32] ++ S1)) _ _ ⟨hB, hH.step 10 17 _ rfl (by decide) (fun j y h => h) rfl⟩ rfl
      · intro hL hd K hK
        have e10 : x 17 = .string (WW ++ ByteArray.mk #[32] ++ S1) := hH 10 (by omega) (hd 10 (by simp))
        simp only [fillA, fillL]
        simp only [e10]
        simp only [fillA, fillL, e10] at hK
        go_simp
        exact hK (.string (WW ++ ByteArray.mk #[32] ++ S1)) _ _ ⟨hB, hH.step 11 3 _ rfl (by decide) (fun j y h => h) rfl⟩ rfl
    · rintro x wx ⟨hB, hH⟩
      have eS : x 3 = .string (WW ++ ByteArray.mk #[32] ++ S1) := hH 11 (by omega) (by rfl)
      have hbx : Below w.heap.size w wx := hbb.trans (hB.mono hzz)
      have hzx := hB.size
      have y1 := (hB.cell (by show _ < _; omega)).trans hy1.out
      have y2 := (hB.cell (by show _ < _; omega)).trans hy2.out
      clear hH hcall
      simp only [fillA, fillL, eS]
      by_cases h1 : κ = 0 ∨ κ = 2
      · have h2 := ht2.out h1 wx hbx
        have hS2 := hS'.out
        have hs3 := hs2 h1
        have c3 : ¬ (9223372036854775807 < 1 + S2.size) := by omega
        have c4 : ¬ (9223372036854775807 < WW.size + 1 + S1.size + (1 + S2.size)) := by omega
        have c5 : ¬ (9223372036854775807 < WW.size + 1 + S1.size + 1) := by omega
        have c6 : ¬ (9223372036854775807 < WW.size + 1 + S1.size + 1 + S2.size) := by omega
        rw [if_pos (by omega)] at hS2
        
        replace h2 := Lib.hid h2
        replace hS2 := Lib.hid hS2
        clear hS' ht2
        obtain rfl | rfl := h1
        all_goals
          go_wp2_with fail
          refine h2.out.mono ?_
          rintro e w5 ⟨rfl, hb5⟩
          have hb6 := hbx.trans (hb5.mono hbx.size)
          go_wp2
          go_ret
          rw [← hS2.out]
          exact ⟨rfl, hb6⟩
      · have hS2 := hS'.out
        rw [if_neg (by omega)] at hS2
        have n0 : (((κ : Int) + 1) == 1) = false := by rw [beq_eq_false_iff_ne]; omega
        have n2 : (((κ : Int) + 1) == 3) = false := by rw [beq_eq_false_iff_ne]; omega
        replace hS2 := Lib.hid hS2
        clear hS' ht2
        go_wp2
        go_ret
        rw [← hS2.out]
        exact ⟨rfl, hbx⟩
end Go.Proofs.YteacjoemlobmoaaDoor
