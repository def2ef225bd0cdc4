/- Slices of Penalty: the size, the copy and the comparison that the laws use. -/
import Derived.Test.YtcjeeampjhcljaaMem
import Derived.Handy
import Derived.Deep.RegionWith
namespace Go.Proofs.Ytcjeeampjhcljaa
open Go.RowKit

theorem infoPenalty : (Try.prog.info? 34).map (fun i => (i.zero, i.size, i.bytes)) = some (some (.agg #[.int .i64 0, .int .i64 0, .int .i64 0, .int .i64 0]), 4, 32) := by kernel_rfl

theorem eqPenalty_same (a b c' d : Int) (w : World) : Calls Try.prog 15 #[.agg #[.int .i64 a, .int .i64 b, .int .i64 c', .int .i64 d], .agg #[.int .i64 a, .int .i64 b, .int .i64 c', .int .i64 d]] w fun e w' => e = .returned (.bool true) ∧ Below w.heap.size w w' := by
  go_enter Try.func15, Try.ntmps15
  go_wp2
  go_ret
  exact ⟨rfl, ((Below.refl _ _).alloc (Nat.le_refl _) _).alloc (by simp) _⟩
set_option maxHeartbeats 1000000 in
theorem eqPenaltyS_same (A A' : Option Addr) (n c c'' B : Nat) (xs : Nat → Int) (w : World) (hx : Ints w B A (n * 4) xs) (hx2 : Ints w B A' (n * 4) xs) (hB : B ≤ w.heap.size) (hn : n ≤ 9223372036854775807) :
    Calls Try.prog 6 #[.slice A n c, .slice A' n c''] w fun e w' => e = .returned (.bool true) ∧ Below w.heap.size w w' := by
  replace hx := Lib.hid hx
  replace hx2 := Lib.hid hx2
  go_enter Try.func6, Try.ntmps6
  go_wp2
  go_loopw [5] (fun v wr => ∃ k : Nat, k ≤ n ∧ v = .int .i64 k ∧ Below w.heap.size w wr) (fun v _ => (n - intOf v).toNat)
  case atStart => exact ⟨0, by omega, rfl, Below.refl _ _⟩
  case round =>
    obtain ⟨k, hk1, rfl, hbel⟩ := hrel
    by_cases h1 : k < n
    · obtain ⟨b, o, rfl, hadB, hcode⟩ := hx.out (by omega)
      obtain ⟨b2, o2, rfl, hadB2, hcode2⟩ := hx2.out (by omega)
      have g0 : wr.cell? ⟨b, o + k * 4, none⟩ = some (.int .i64 (xs (k * 4))) := by rw [hbel.cell (by simp; omega)]; exact hcode (k * 4) (by omega)
      have g0' : wr.cell? ⟨b2, o2 + k * 4, none⟩ = some (.int .i64 (xs (k * 4))) := by rw [hbel.cell (by simp; omega)]; exact hcode2 (k * 4) (by omega)
      have g1 : wr.cell? ⟨b, o + k * 4 + 1, none⟩ = some (.int .i64 (xs (k * 4 + 1))) := by rw [hbel.cell (by simp; omega)]; exact hcode (k * 4 + 1) (by omega)
      have g1' : wr.cell? ⟨b2, o2 + k * 4 + 1, none⟩ = some (.int .i64 (xs (k * 4 + 1))) := by rw [hbel.cell (by simp; omega)]; exact hcode2 (k * 4 + 1) (by omega)
      have g2 : wr.cell? ⟨b, o + k * 4 + 2, none⟩ = some (.int .i64 (xs (k * 4 + 2))) := by rw [hbel.cell (by simp; omega)]; exact hcode (k * 4 + 2) (by omega)
      have g2' : wr.cell? ⟨b2, o2 + k * 4 + 2, none⟩ = some (.int .i64 (xs (k * 4 + 2))) := by rw [hbel.cell (by simp; omega)]; exact hcode2 (k * 4 + 2) (by omega)
      have g3 : wr.cell? ⟨b, o + k * 4 + 3, none⟩ = some (.int .i64 (xs (k * 4 + 3))) := by rw [hbel.cell (by simp; omega)]; exact hcode (k * 4 + 3) (by omega)
      have g3' : wr.cell? ⟨b2, o2 + k * 4 + 3, none⟩ = some (.int .i64 (xs (k * 4 + 3))) := by rw [hbel.cell (by simp; omega)]; exact hcode2 (k * 4 + 3) (by omega)
      clear hcode hcode2
      go_wp2
      go_region_with ((go_at_call 15; refine (eqPenalty_same _ _ _ _ _).mono ?_; rintro e w' ⟨rfl, hbb⟩))
      all_goals
        go_wp2
        go_roundw
        case rel => exact ⟨k + 1, by omega, by go_num, hbel.drew.trans (hbb.mono hbel.size)⟩
        case measure => simp [intOf]; omega
    · obtain rfl : k = n := by omega
      go_wp2
      go_ret
      exact ⟨rfl, hbel⟩
end Go.Proofs.Ytcjeeampjhcljaa
