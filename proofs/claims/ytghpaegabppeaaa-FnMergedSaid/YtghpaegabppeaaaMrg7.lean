/- The comparison of two lists of windows. -/
import Derived.Test.YtghpaegabppeaaaMrg6
set_option linter.unusedSimpArgs false
set_option linter.unusedVariables false
namespace Go.Proofs.Ytghpaegabppeaaa
open Go.RowKit Go.Shelf

set_option maxHeartbeats 4000000 in
theorem w6Windows_any (A A2 : Option Addr) (n c c2 B : Nat) (xs : Nat → Int) (w : World) (hx : Ints w B A (n * 2) xs) (hy : Ints w B A2 (n * 2) xs) (hB : B ≤ w.heap.size) (hn : n ≤ 9223372036854775807) :
    Calls Try.prog 38 #[.slice A n c, .slice A2 n c2] w fun e w' => e = .returned (.bool true) ∧ Below w.heap.size w w' := by
  replace hx := Lib.hid hx
  replace hy := Lib.hid hy
  go_enter Try.func38, Try.ntmps38
  go_wp2_with fail
  go_loopw [5] (fun v wr => ∃ k : Nat, k ≤ n ∧ v = .int .i64 k ∧ Below w.heap.size w wr) (fun v _ => (n - intOf v).toNat)
  case atStart => exact ⟨0, by omega, rfl, Below.refl _ _⟩
  case round =>
    obtain ⟨k, hk, rfl, hbel⟩ := hrel
    have hsz := hbel.size
    by_cases hlt : k < n
    · obtain ⟨b, o, rfl, hadB, hcode⟩ := hx.out (by omega)
      obtain ⟨b2, o2, rfl, hadB2, hcode2⟩ := hy.out (by omega)
      have g0 : wr.cell? ⟨b, o + k * 2, none⟩ = some (.int .i64 (xs (k * 2))) := by rw [hbel.cell (by simp; omega)]; exact hcode (k * 2) (by omega)
      have g1 : wr.cell? ⟨b, o + k * 2 + 1, none⟩ = some (.int .i64 (xs (k * 2 + 1))) := by rw [hbel.cell (by simp; omega)]; exact hcode (k * 2 + 1) (by omega)
      have q0 : wr.cell? ⟨b2, o2 + k * 2, none⟩ = some (.int .i64 (xs (k * 2))) := by rw [hbel.cell (by simp; omega)]; exact hcode2 (k * 2) (by omega)
      have q1 : wr.cell? ⟨b2, o2 + k * 2 + 1, none⟩ = some (.int .i64 (xs (k * 2 + 1))) := by rw [hbel.cell (by simp; omega)]; exact hcode2 (k * 2 + 1) (by omega)
      clear hcode hcode2
      generalize xs (k * 2) = z0 at g0 q0
      generalize xs (k * 2 + 1) = z1 at g1 q1
      go_wp2
      try go_quiet (fail)
      try go_wp2
      go_roundw
      case rel => exact ⟨k + 1, by omega, by go_num, by first | exact hbel | exact below_dN hbel _⟩
      case measure => simp [intOf]; omega
    · obtain rfl : k = n := by omega
      go_wp2
      go_ret
      exact ⟨rfl, hbel⟩
theorem ioV_law {K : Nat} {ys : Nat → Int} {t : Int} (h : isL K ys = true) (h0 : 0 ≤ t) (h1 : t ≤ 1000000000) : ioV K ys t = (opB ys t K, 0) := by
  unfold ioV
  rw [h, if_pos rfl, if_pos (by unfold inB; simp; omega)]
end Go.Proofs.Ytghpaegabppeaaa
