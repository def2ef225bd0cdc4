/- The facts found: the reference's. -/
import Derived.Test.YtcilgohjeobamaaHear4
set_option linter.unusedSimpArgs false
set_option linter.unusedVariables false
namespace Go.Proofs.Ytcilgohjeobamaa
open Go.RowKit Go.Shelf

set_option maxRecDepth 100000 in
set_option maxHeartbeats 8000000 in
theorem l18Facts_any (A : Option Addr) (n c B : Nat) (xs : Nat → Int) (wo : Int) (w : World) (hx : Ints w B A (n * 3) xs) (hB : B ≤ w.heap.size) (hn : n ≤ 60)
    (hs : ∀ i, i < n → 0 ≤ xs (i * 3 + 1) ∧ xs (i * 3 + 1) ≤ 7 ∧ (xs (i * 3 + 2) = 1 ∨ xs (i * 3 + 2) = -1)) :
    Calls Try.prog 60 #[.slice A n c, .int .i64 wo] w fun e w' => e = .returned (.slice (some ⟨w.heap.size, 0, none⟩) 8 8) ∧ SumsAt w' w.heap.size (factV xs wo n) ∧ Below w.heap.size w w' := by
  obtain ⟨i0, hi, hz0, hz1, hz2⟩ := info_parts infoInt64
  have hmk := fun W => make_eq (P := Try.prog) 31 2 i0 _ Try.underlying31 hi hz0 8 1 hz1 (by rw [hz2]; omega) (by omega) W
  have h8 : ((8 : Nat) : Int) = 8 := rfl
  rw [h8] at hmk
  clear hi hz0 hz1 hz2 h8
  replace hx := Lib.hid hx
  replace hs := Lib.hid hs
  go_enter Try.func60, Try.ntmps60
  go_wp2
  clear hmk
  go_loopw [6] (fun vi wr => ∃ k : Nat, k ≤ n ∧ vi = .int .i64 k ∧ SumsAt wr w.heap.size (sumF xs wo k) ∧ Below w.heap.size w wr) (fun vi _ => (n - intOf vi).toNat)
  case atStart => exact ⟨0, by omega, rfl, SumsAt.zero w, (Below.refl _ _).alloc (Nat.le_refl _) _⟩
  case round =>
    obtain ⟨k, hk, rfl, hS, hbel⟩ := hrel
    have hsz := hbel.size
    by_cases hlt : k < n
    · obtain ⟨b, o, rfl, hadB, hcode⟩ := hx.out (by omega)
      have g0 : wr.cell? ⟨b, o + k * 3, none⟩ = some (.int .i64 (xs (k * 3))) := by rw [hbel.cell (by simp; omega)]; exact hcode (k * 3) (by omega)
      have g1 : wr.cell? ⟨b, o + k * 3 + 1, none⟩ = some (.int .i64 (xs (k * 3 + 1))) := by rw [hbel.cell (by simp; omega)]; exact hcode (k * 3 + 1) (by omega)
      have g2 : wr.cell? ⟨b, o + k * 3 + 2, none⟩ = some (.int .i64 (xs (k * 3 + 2))) := by rw [hbel.cell (by simp; omega)]; exact hcode (k * 3 + 2) (by omega)
      have hbl : b < wr.heap.size := by omega
      obtain ⟨f0, f1, hsy⟩ := hs.out k hlt
      have hstep : ∀ j, sumF xs wo (k + 1) j = if xs (k * 3) ≠ wo ∧ xs (k * 3 + 1) = j then sumF xs wo k j + wtV (xs (k * 3)) * xs (k * 3 + 2) else sumF xs wo k j := fun _ => rfl
      obtain ⟨fn, hfn⟩ : ∃ fn : Nat, xs (k * 3 + 1) = fn := ⟨(xs (k * 3 + 1)).toNat, by omega⟩
      have hfn8 : fn < 8 := by omega
      have hbd := sumF_bd (wo := wo) (f := fn) (n := n) (fun i hi => (hs.out i hi).2.2) k (by omega)
      rw [hfn] at g1
      simp only [hfn] at hstep
      obtain ⟨y, fy⟩ := hS.cells fn hfn8
      have hFl : w.heap.size < wr.heap.size := by obtain ⟨cs, hW, _⟩ := hS; exact hW.lt
      clear hcode hfn f0 f1
      generalize xs (k * 3) = sp at g0 hstep
      generalize xs (k * 3 + 2) = sy at g2 hstep hsy
      have hsyb : -1 ≤ sy ∧ sy ≤ 1 := by omega
      clear hsy
      by_cases hw : sp = wo
      · have hw1 : (sp != wo) = false := by simpa using hw
        have hS1 : SumsAt wr w.heap.size (sumF xs wo (k + 1)) := hS.congr (fun j _ => by rw [hstep j, if_neg (by omega)])
        replace hstep := Lib.hid hstep
        clear hS y fy
        by_cases h1 : sp < 100
        · go_wp2
          go_roundw
          case rel => exact ⟨k + 1, by omega, by go_num, hS1.alloc _, hbel.alloc hsz _⟩
          case measure => simp [intOf]; omega
        · go_wp2
          go_roundw
          case rel => exact ⟨k + 1, by omega, by go_num, hS1.alloc _, hbel.alloc hsz _⟩
          case measure => simp [intOf]; omega
      · have hw1 : (sp != wo) = true := by simpa using hw
        replace hS := Lib.hid hS
        by_cases h1 : sp < 100
        · have hst : ∀ j, j < 8 → sumF xs wo (k + 1) j = if j = fn then sumF xs wo k fn + sy else sumF xs wo k j := fun j _ => by
            rw [hstep j]
            by_cases e : j = fn
            · subst e; rw [if_pos ⟨hw, rfl⟩, if_pos rfl]; simp [wtV, h1]
            · rw [if_neg (by omega), if_neg e]
          replace hst := Lib.hid hst
          clear hstep
          generalize sumF xs wo k fn = z at y hbd hst
          go_wp2
          go_region
          go_wp2
          go_roundw
          case rel => exact ⟨k + 1, by omega, by go_num, ((hS.out.put fn _ hst.out).alloc _).drew, ((hbel.setCell (p := ⟨w.heap.size, fn, none⟩) (Nat.le_refl _) _).alloc (by simp; omega) _).drew⟩
          case measure => simp [intOf]; omega
        · have hst : ∀ j, j < 8 → sumF xs wo (k + 1) j = if j = fn then sumF xs wo k fn + 3 * sy else sumF xs wo k j := fun j _ => by
            rw [hstep j]
            by_cases e : j = fn
            · subst e; rw [if_pos ⟨hw, rfl⟩, if_pos rfl]; simp [wtV, h1]
            · rw [if_neg (by omega), if_neg e]
          replace hst := Lib.hid hst
          clear hstep
          generalize sumF xs wo k fn = z at y hbd hst
          go_wp2
          go_region
          go_wp2
          go_roundw
          case rel => exact ⟨k + 1, by omega, by go_num, ((hS.out.put fn _ hst.out).alloc _).drew, ((hbel.setCell (p := ⟨w.heap.size, fn, none⟩) (Nat.le_refl _) _).alloc (by simp; omega) _).drew⟩
          case measure => simp [intOf]; omega
    · obtain rfl : k = n := by omega
      go_wp2_with fail
      have hS0 : SumsAt wr w.heap.size (fun i => if i < 0 then factV xs wo k i else sumF xs wo k i) := hS.congr (fun j _ => by simp)
      have hbel0 := hbel
      clear hS hbel
      go_loopw [9] (fun vi wx => ∃ j : Nat, j ≤ 8 ∧ vi = .int .i64 j ∧ SumsAt wx w.heap.size (fun i => if i < j then factV xs wo k i else sumF xs wo k i) ∧ Below w.heap.size w wx) (fun vi _ => (8 - intOf vi).toNat)
      case atStart => exact ⟨0, by omega, rfl, hS0, hbel0⟩
      case round =>
        clear hS0 hbel0
        obtain ⟨j, hj, rfl, hS, hbel⟩ := hrel
        by_cases hlt : j < 8
        · obtain ⟨y, fy⟩ := hS.cells j hlt
          rw [if_neg (by omega)] at y
          have hFl := hS.lt
          have hnx : ∀ i, i < 8 → (if i < j + 1 then factV xs wo k i else sumF xs wo k i) = if i = j then sgnV (sumF xs wo k j) else (if i < j then factV xs wo k i else sumF xs wo k i) := fun i _ => by
            by_cases e : i = j
            · subst e; rw [if_pos (by omega), if_pos rfl]; rfl
            · rw [if_neg e]
              by_cases h : i < j
              · rw [if_pos (by omega), if_pos h]
              · rw [if_neg (by omega), if_neg h]
          replace hnx := Lib.hid hnx
          have hS' := Lib.hid hS
          clear hS
          generalize sumF xs wo k j = z at y hnx
          have hnx' := hnx.out
          clear hnx
          by_cases z1 : z < 0
          · have z1' : z < 1 := by omega
            have z1'' : ¬ -1 < z := by omega
            have hz : sgnV z = -1 := by unfold sgnV; rw [if_pos z1]
            rw [hz] at hnx'
            replace hnx' := Lib.hid hnx'
            clear hz
            go_wp2
            try go_region
            try go_wp2
            go_roundw
            case rel => exact ⟨j + 1, by omega, by go_num, by first | exact hS'.out.put j _ hnx'.out | exact (hS'.out.put j _ hnx'.out).drew, by first | exact hbel.setCell (p := ⟨w.heap.size, j, none⟩) (Nat.le_refl _) _ | exact (hbel.setCell (p := ⟨w.heap.size, j, none⟩) (Nat.le_refl _) _).drew⟩
            case measure => simp [intOf]; omega
          by_cases z2 : 0 < z
          · have z2' : ¬ z < 1 := by omega
            have hz : sgnV z = 1 := by unfold sgnV; rw [if_neg z1, if_pos z2]
            rw [hz] at hnx'
            replace hnx' := Lib.hid hnx'
            clear hz
            go_wp2
            try go_region
            try go_wp2
            go_roundw
            case rel => exact ⟨j + 1, by omega, by go_num, by first | exact hS'.out.put j _ hnx'.out | exact (hS'.out.put j _ hnx'.out).drew, by first | exact hbel.setCell (p := ⟨w.heap.size, j, none⟩) (Nat.le_refl _) _ | exact (hbel.setCell (p := ⟨w.heap.size, j, none⟩) (Nat.le_refl _) _).drew⟩
            case measure => simp [intOf]; omega
          · obtain rfl : z = 0 := by omega
            have hz : sgnV 0 = 0 := rfl
            rw [hz] at hnx'
            replace hnx' := Lib.hid hnx'
            clear hz
            go_wp2
            try go_region
            try go_wp2
            go_roundw
            case rel => exact ⟨j + 1, by omega, by go_num, by first | exact hS'.out.put j _ hnx'.out | exact (hS'.out.put j _ hnx'.out).drew, by first | exact hbel.setCell (p := ⟨w.heap.size, j, none⟩) (Nat.le_refl _) _ | exact (hbel.setCell (p := ⟨w.heap.size, j, none⟩) (Nat.le_refl _) _).drew⟩
            case measure => simp [intOf]; omega
        · obtain rfl : j = 8 := by omega
          go_wp2
          go_ret
          exact ⟨rfl, hS.congr (fun i hi => by simp [hi]), hbel⟩
end Go.Proofs.Ytcilgohjeobamaa
