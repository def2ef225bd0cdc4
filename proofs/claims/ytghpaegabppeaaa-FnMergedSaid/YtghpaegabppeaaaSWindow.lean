/- Slices of Window: the size, the copy and the comparison that the laws use. -/
import Derived.Test.YtghpaegabppeaaaMem
import Derived.Handy
import Derived.Deep.RegionWith
namespace Go.Proofs.Ytghpaegabppeaaa
open Go.RowKit

theorem infoWindow : (Try.prog.info? 51).map (fun i => (i.zero, i.size, i.bytes)) = some (some (.agg #[.int .i64 0, .int .i64 0]), 2, 16) := by kernel_rfl

theorem szWindowS_any (A : Option Addr) (n c : Nat) (left : Int) (w : World) (h0 : 0 ≤ left) (h1 : left ≤ 1048576) (hn : n ≤ 9223372036854775807) :
    Calls Try.prog 13 #[.slice A n c, .int .i64 left] w fun e w' => e = .returned (.int .i64 (if left < n then -1 else left - n)) ∧ w = w' := by
  by_cases h : left < n
  · rw [if_pos h]
    go_enter Try.func13, Try.ntmps13
    go_wp2
    go_ret
    exact ⟨rfl, rfl⟩
  · rw [if_neg h]
    go_enter Try.func13, Try.ntmps13
    go_wp2
    go_ret
    exact ⟨rfl, rfl⟩
theorem toWindow_any (a b : Int) (w : World) : Calls Try.prog 40 #[.agg #[.int .i64 a, .int .i64 b]] w fun e w' => e = .returned (.agg #[.int .i64 a, .int .i64 b]) ∧ Below w.heap.size w w' := by
  go_enter Try.func40, Try.ntmps40
  go_wp2
  refine bodyPost_ret (v := .agg #[.int .i64 a, .int .i64 b]) (by simp [results, Try.results40, go_sem]) rfl ⟨rfl, ?_⟩
  go_grown
set_option maxHeartbeats 1000000 in
theorem toWindowS_any (A : Option Addr) (n c : Nat) (xs : Nat → Int) (w : World) (hx : Ints w w.heap.size A (n * 2) xs) (hn : n ≤ 1048576) :
    Calls Try.prog 15 #[.slice A n c] w fun e w' => e = .returned (.slice (some ⟨w.heap.size, 0, none⟩) n n) ∧
      (∃ cs, Whole w' w.heap.size 51 cs ∧ cs.size = n * 2 ∧ ∀ j, j < n * 2 → cs[j]? = some (.int .i64 (xs j))) ∧ Below w.heap.size w w' := by
  obtain ⟨i0, hi, hz0, hz1, hz2⟩ := info_parts infoWindow
  have hmk := fun W => make_eq (P := Try.prog) 25 51 i0 _ Try.underlying25 hi hz0 n 2 hz1 (by rw [hz2]; omega) (by omega) W
  clear hi hz0 hz1 hz2
  have hx' := Lib.hid hx
  clear hx
  go_enter Try.func15, Try.ntmps15
  go_wp2
  clear hmk
  go_loopw [4] (fun v wr => ∃ k : Nat, k ≤ n ∧ v = .int .i64 k ∧ (∃ cs, Whole wr w.heap.size 51 cs ∧ cs.size = n * 2 ∧ ∀ j, j < k * 2 → cs[j]? = some (.int .i64 (xs j))) ∧ Below w.heap.size w wr) (fun v _ => (n - intOf v).toNat)
  case atStart => exact ⟨0, by omega, rfl, ⟨_, Whole.new _ _ _, zeros_size _ _, fun j hj => by simp at hj⟩, (Below.refl _ _).alloc (Nat.le_refl _) _⟩
  case round =>
    obtain ⟨k, hk1, rfl, ⟨cs, hw, hsz, hcs⟩, hbel⟩ := hrel
    by_cases h1 : k < n
    · obtain ⟨b, o, rfl, hadB, hcode⟩ := hx'.out (by omega)
      have g0 : wr.cell? ⟨b, o + k * 2, none⟩ = some (.int .i64 (xs (k * 2))) := by rw [hbel.cell hadB]; exact hcode (k * 2) (by omega)
      have g1 : wr.cell? ⟨b, o + k * 2 + 1, none⟩ = some (.int .i64 (xs (k * 2 + 1))) := by rw [hbel.cell hadB]; exact hcode (k * 2 + 1) (by omega)
      clear hcode
      go_wp2_with fail
      refine (toWindow_any _ _ _).mono ?_
      rintro e w1 ⟨rfl, hb1⟩
      have hw1 := hw.below hb1 hw.lt
      have s0 := hw1.some_ (k * 2) (by omega)
      have f0 := hw1.frz (k * 2)
      have s1 := hw1.some_ (k * 2 + 1) (by omega)
      have f1 := hw1.frz (k * 2 + 1)
      replace hcs := Lib.hid hcs
      replace hsz := Lib.hid hsz
      go_wp2
      go_roundw
      case rel =>
        refine ⟨k + 1, by omega, by go_num, ⟨_, (hw1.put (k * 2) _).put (k * 2 + 1) _, by simp [hsz.out], fun j hj => ?_⟩, ((hbel.trans (hb1.mono hbel.size)).setCell (Nat.le_refl _) _).setCell (Nat.le_refl _) _⟩
        simp only [Array.getElem?_setIfInBounds, Array.size_setIfInBounds]
        by_cases e1 : j = k * 2 + 1
        · subst e1; simp [hsz.out]; omega
        rw [if_neg (fun e => e1 e.symm)]
        by_cases e0 : j = k * 2
        · subst e0; simp [hsz.out]; omega
        rw [if_neg (fun e => e0 e.symm)]
        exact hcs.out j (by omega)
      case measure => simp [intOf]; omega
    · obtain rfl : k = n := by omega
      go_wp2
      go_ret
      exact ⟨rfl, ⟨cs, hw, hsz, hcs⟩, hbel⟩
theorem eqWindow_same (a b : Int) (w : World) : Calls Try.prog 42 #[.agg #[.int .i64 a, .int .i64 b], .agg #[.int .i64 a, .int .i64 b]] w fun e w' => e = .returned (.bool true) ∧ Below w.heap.size w w' := by
  go_enter Try.func42, Try.ntmps42
  go_wp2
  go_ret
  exact ⟨rfl, ((Below.refl _ _).alloc (Nat.le_refl _) _).alloc (by simp) _⟩
set_option maxHeartbeats 1000000 in
theorem eqWindowS_same (A A' : Option Addr) (n c c'' B : Nat) (xs : Nat → Int) (w : World) (hx : Ints w B A (n * 2) xs) (hx2 : Ints w B A' (n * 2) xs) (hB : B ≤ w.heap.size) (hn : n ≤ 9223372036854775807) :
    Calls Try.prog 17 #[.slice A n c, .slice A' n c''] w fun e w' => e = .returned (.bool true) ∧ Below w.heap.size w w' := by
  replace hx := Lib.hid hx
  replace hx2 := Lib.hid hx2
  go_enter Try.func17, Try.ntmps17
  go_wp2
  go_loopw [5] (fun v wr => ∃ k : Nat, k ≤ n ∧ v = .int .i64 k ∧ Below w.heap.size w wr) (fun v _ => (n - intOf v).toNat)
  case atStart => exact ⟨0, by omega, rfl, Below.refl _ _⟩
  case round =>
    obtain ⟨k, hk1, rfl, hbel⟩ := hrel
    by_cases h1 : k < n
    · obtain ⟨b, o, rfl, hadB, hcode⟩ := hx.out (by omega)
      obtain ⟨b2, o2, rfl, hadB2, hcode2⟩ := hx2.out (by omega)
      have g0 : wr.cell? ⟨b, o + k * 2, none⟩ = some (.int .i64 (xs (k * 2))) := by rw [hbel.cell (by simp; omega)]; exact hcode (k * 2) (by omega)
      have g0' : wr.cell? ⟨b2, o2 + k * 2, none⟩ = some (.int .i64 (xs (k * 2))) := by rw [hbel.cell (by simp; omega)]; exact hcode2 (k * 2) (by omega)
      have g1 : wr.cell? ⟨b, o + k * 2 + 1, none⟩ = some (.int .i64 (xs (k * 2 + 1))) := by rw [hbel.cell (by simp; omega)]; exact hcode (k * 2 + 1) (by omega)
      have g1' : wr.cell? ⟨b2, o2 + k * 2 + 1, none⟩ = some (.int .i64 (xs (k * 2 + 1))) := by rw [hbel.cell (by simp; omega)]; exact hcode2 (k * 2 + 1) (by omega)
      clear hcode hcode2
      go_wp2
      go_region_with ((go_at_call 42; refine (eqWindow_same _ _ _).mono ?_; rintro e w' ⟨rfl, hbb⟩))
      all_goals
        go_wp2
        go_roundw
        case rel => exact ⟨k + 1, by omega, by go_num, hbel.drew.trans (hbb.mono hbel.size)⟩
        case measure => simp [intOf]; omega
    · obtain rfl : k = n := by omega
      go_wp2
      go_ret
      exact ⟨rfl, hbel⟩
end Go.Proofs.Ytghpaegabppeaaa
