/- Slices of Statement: the size, the copy and the comparison that the laws use. -/
import Derived.Test.YtcilgohjeobamaaMem
import Derived.Handy
import Derived.Deep.RegionWith
namespace Go.Proofs.Ytcilgohjeobamaa
open Go.RowKit

theorem infoStatement : (Try.prog.info? 59).map (fun i => (i.zero, i.size, i.bytes)) = some (some (.agg #[.int .i64 0, .int .i64 0, .int .i64 0]), 3, 24) := by kernel_rfl

theorem szStatementS_any (A : Option Addr) (n c : Nat) (left : Int) (w : World) (h0 : 0 ≤ left) (h1 : left ≤ 1048576) (hn : n ≤ 9223372036854775807) :
    Calls Try.prog 23 #[.slice A n c, .int .i64 left] w fun e w' => e = .returned (.int .i64 (if left < n then -1 else left - n)) ∧ w = w' := by
  by_cases h : left < n
  · rw [if_pos h]
    go_enter Try.func23, Try.ntmps23
    go_wp2
    go_ret
    exact ⟨rfl, rfl⟩
  · rw [if_neg h]
    go_enter Try.func23, Try.ntmps23
    go_wp2
    go_ret
    exact ⟨rfl, rfl⟩
theorem toStatement_any (a b c' : Int) (w : World) : Calls Try.prog 61 #[.agg #[.int .i64 a, .int .i64 b, .int .i64 c']] w fun e w' => e = .returned (.agg #[.int .i64 a, .int .i64 b, .int .i64 c']) ∧ Below w.heap.size w w' := by
  go_enter Try.func61, Try.ntmps61
  go_wp2
  refine bodyPost_ret (v := .agg #[.int .i64 a, .int .i64 b, .int .i64 c']) (by simp [results, Try.results61, go_sem]) rfl ⟨rfl, ?_⟩
  go_grown
set_option maxHeartbeats 1000000 in
theorem toStatementS_any (A : Option Addr) (n c : Nat) (xs : Nat → Int) (w : World) (hx : Ints w w.heap.size A (n * 3) xs) (hn : n ≤ 1048576) :
    Calls Try.prog 25 #[.slice A n c] w fun e w' => e = .returned (.slice (some ⟨w.heap.size, 0, none⟩) n n) ∧
      (∃ cs, Whole w' w.heap.size 59 cs ∧ cs.size = n * 3 ∧ ∀ j, j < n * 3 → cs[j]? = some (.int .i64 (xs j))) ∧ Below w.heap.size w w' := by
  obtain ⟨i0, hi, hz0, hz1, hz2⟩ := info_parts infoStatement
  have hmk := fun W => make_eq (P := Try.prog) 46 59 i0 _ Try.underlying46 hi hz0 n 3 hz1 (by rw [hz2]; omega) (by omega) W
  clear hi hz0 hz1 hz2
  have hx' := Lib.hid hx
  clear hx
  go_enter Try.func25, Try.ntmps25
  go_wp2
  clear hmk
  go_loopw [4] (fun v wr => ∃ k : Nat, k ≤ n ∧ v = .int .i64 k ∧ (∃ cs, Whole wr w.heap.size 59 cs ∧ cs.size = n * 3 ∧ ∀ j, j < k * 3 → cs[j]? = some (.int .i64 (xs j))) ∧ Below w.heap.size w wr) (fun v _ => (n - intOf v).toNat)
  case atStart => exact ⟨0, by omega, rfl, ⟨_, Whole.new _ _ _, zeros_size _ _, fun j hj => by simp at hj⟩, (Below.refl _ _).alloc (Nat.le_refl _) _⟩
  case round =>
    obtain ⟨k, hk1, rfl, ⟨cs, hw, hsz, hcs⟩, hbel⟩ := hrel
    by_cases h1 : k < n
    · obtain ⟨b, o, rfl, hadB, hcode⟩ := hx'.out (by omega)
      have g0 : wr.cell? ⟨b, o + k * 3, none⟩ = some (.int .i64 (xs (k * 3))) := by rw [hbel.cell hadB]; exact hcode (k * 3) (by omega)
      have g1 : wr.cell? ⟨b, o + k * 3 + 1, none⟩ = some (.int .i64 (xs (k * 3 + 1))) := by rw [hbel.cell hadB]; exact hcode (k * 3 + 1) (by omega)
      have g2 : wr.cell? ⟨b, o + k * 3 + 2, none⟩ = some (.int .i64 (xs (k * 3 + 2))) := by rw [hbel.cell hadB]; exact hcode (k * 3 + 2) (by omega)
      clear hcode
      go_wp2_with fail
      refine (toStatement_any _ _ _ _).mono ?_
      rintro e w1 ⟨rfl, hb1⟩
      have hw1 := hw.below hb1 hw.lt
      have s0 := hw1.some_ (k * 3) (by omega)
      have f0 := hw1.frz (k * 3)
      have s1 := hw1.some_ (k * 3 + 1) (by omega)
      have f1 := hw1.frz (k * 3 + 1)
      have s2 := hw1.some_ (k * 3 + 2) (by omega)
      have f2 := hw1.frz (k * 3 + 2)
      replace hcs := Lib.hid hcs
      replace hsz := Lib.hid hsz
      go_wp2
      go_roundw
      case rel =>
        refine ⟨k + 1, by omega, by go_num, ⟨_, ((hw1.put (k * 3) _).put (k * 3 + 1) _).put (k * 3 + 2) _, by simp [hsz.out], fun j hj => ?_⟩, (((hbel.trans (hb1.mono hbel.size)).setCell (Nat.le_refl _) _).setCell (Nat.le_refl _) _).setCell (Nat.le_refl _) _⟩
        simp only [Array.getElem?_setIfInBounds, Array.size_setIfInBounds]
        by_cases e2 : j = k * 3 + 2
        · subst e2; simp [hsz.out]; omega
        rw [if_neg (fun e => e2 e.symm)]
        by_cases e1 : j = k * 3 + 1
        · subst e1; simp [hsz.out]; omega
        rw [if_neg (fun e => e1 e.symm)]
        by_cases e0 : j = k * 3
        · subst e0; simp [hsz.out]; omega
        rw [if_neg (fun e => e0 e.symm)]
        exact hcs.out j (by omega)
      case measure => simp [intOf]; omega
    · obtain rfl : k = n := by omega
      go_wp2
      go_ret
      exact ⟨rfl, ⟨cs, hw, hsz, hcs⟩, hbel⟩
theorem eqStatement_same (a b c' : Int) (w : World) : Calls Try.prog 64 #[.agg #[.int .i64 a, .int .i64 b, .int .i64 c'], .agg #[.int .i64 a, .int .i64 b, .int .i64 c']] w fun e w' => e = .returned (.bool true) ∧ Below w.heap.size w w' := by
  go_enter Try.func64, Try.ntmps64
  go_wp2
  go_ret
  exact ⟨rfl, ((Below.refl _ _).alloc (Nat.le_refl _) _).alloc (by simp) _⟩
set_option maxHeartbeats 1000000 in
theorem eqStatementS_same (A A' : Option Addr) (n c c'' B : Nat) (xs : Nat → Int) (w : World) (hx : Ints w B A (n * 3) xs) (hx2 : Ints w B A' (n * 3) xs) (hB : B ≤ w.heap.size) (hn : n ≤ 9223372036854775807) :
    Calls Try.prog 28 #[.slice A n c, .slice A' n c''] w fun e w' => e = .returned (.bool true) ∧ Below w.heap.size w w' := by
  replace hx := Lib.hid hx
  replace hx2 := Lib.hid hx2
  go_enter Try.func28, Try.ntmps28
  go_wp2
  go_loopw [5] (fun v wr => ∃ k : Nat, k ≤ n ∧ v = .int .i64 k ∧ Below w.heap.size w wr) (fun v _ => (n - intOf v).toNat)
  case atStart => exact ⟨0, by omega, rfl, Below.refl _ _⟩
  case round =>
    obtain ⟨k, hk1, rfl, hbel⟩ := hrel
    by_cases h1 : k < n
    · obtain ⟨b, o, rfl, hadB, hcode⟩ := hx.out (by omega)
      obtain ⟨b2, o2, rfl, hadB2, hcode2⟩ := hx2.out (by omega)
      have g0 : wr.cell? ⟨b, o + k * 3, none⟩ = some (.int .i64 (xs (k * 3))) := by rw [hbel.cell (by simp; omega)]; exact hcode (k * 3) (by omega)
      have g0' : wr.cell? ⟨b2, o2 + k * 3, none⟩ = some (.int .i64 (xs (k * 3))) := by rw [hbel.cell (by simp; omega)]; exact hcode2 (k * 3) (by omega)
      have g1 : wr.cell? ⟨b, o + k * 3 + 1, none⟩ = some (.int .i64 (xs (k * 3 + 1))) := by rw [hbel.cell (by simp; omega)]; exact hcode (k * 3 + 1) (by omega)
      have g1' : wr.cell? ⟨b2, o2 + k * 3 + 1, none⟩ = some (.int .i64 (xs (k * 3 + 1))) := by rw [hbel.cell (by simp; omega)]; exact hcode2 (k * 3 + 1) (by omega)
      have g2 : wr.cell? ⟨b, o + k * 3 + 2, none⟩ = some (.int .i64 (xs (k * 3 + 2))) := by rw [hbel.cell (by simp; omega)]; exact hcode (k * 3 + 2) (by omega)
      have g2' : wr.cell? ⟨b2, o2 + k * 3 + 2, none⟩ = some (.int .i64 (xs (k * 3 + 2))) := by rw [hbel.cell (by simp; omega)]; exact hcode2 (k * 3 + 2) (by omega)
      clear hcode hcode2
      go_wp2
      go_region_with ((go_at_call 64; refine (eqStatement_same _ _ _ _).mono ?_; rintro e w' ⟨rfl, hbb⟩))
      all_goals
        go_wp2
        go_roundw
        case rel => exact ⟨k + 1, by omega, by go_num, hbel.drew.trans (hbb.mono hbel.size)⟩
        case measure => simp [intOf]; omega
    · obtain rfl : k = n := by omega
      go_wp2
      go_ret
      exact ⟨rfl, hbel⟩
end Go.Proofs.Ytcilgohjeobamaa
