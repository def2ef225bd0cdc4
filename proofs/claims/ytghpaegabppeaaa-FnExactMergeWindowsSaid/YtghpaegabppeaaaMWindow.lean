/- Slices of Window: what the laws write into them and look for. -/
import Derived.Test.YtghpaegabppeaaaRow
import Derived.Handy
import Derived.Deep.RegionWith
import Derived.RegionTactic
import Derived.BigRegion
namespace Go.Proofs.Ytghpaegabppeaaa
open Go.RowKit
set_option linter.unusedSimpArgs false
set_option linter.unusedVariables false

set_option maxHeartbeats 2000000 in
theorem markWindowS_any (A : Option Addr) (n c g : Nat) (xs : Nat → Int) (k0 : Int) (w : World) (hx : Row w g A (n * 2) xs) (h0 : 0 ≤ k0) (h1 : k0 + n * 2 ≤ 4611686018427387904) :
    Calls Try.prog 35 #[.slice A n c, .int .i64 k0] w fun e w' => e = .returned (.int .i64 (k0 + n * 2)) ∧ Row w' g A (n * 2) (fun j => k0 + j) ∧ w.grownBy w' (some g) := by
  replace hx := Lib.hid hx
  go_enter Try.func35, Try.ntmps35
  go_wp2
  go_loopw [1, 5] (fun v1 v5 wr => ∃ i : Nat, i ≤ n ∧ v1 = .int .i64 (k0 + ((i * 2 : Nat) : Int)) ∧ v5 = .int .i64 i ∧ Row wr g A (n * 2) (fun j => if j < i * 2 then k0 + j else xs j) ∧ w.grownBy wr (some g)) (fun v1 v5 _ => (n - intOf v5).toNat)
  case atStart => exact ⟨0, by omega, by simp, rfl, by simpa using hx.out, only_refl _ _⟩
  case round =>
    obtain ⟨i, hi, rfl, rfl, hr, hg⟩ := hrel
    clear hx
    by_cases h2 : i < n
    · obtain ⟨o, rfl, hl, kc, kf⟩ := hr.open_ (by omega)
      clear hr
      have c0 := kc (i * 2) (by omega)
      rw [if_neg (by omega)] at c0
      have f0 := kf (i * 2) (by omega)
      replace c0 : wr.cell? ⟨g, o + i * 2, none⟩ = _ := c0
      replace f0 : wr.frozen? ⟨g, o + i * 2, none⟩ = false := f0
      have c1 := kc (i * 2 + 1) (by omega)
      rw [if_neg (by omega)] at c1
      have f1 := kf (i * 2 + 1) (by omega)
      replace c1 : wr.cell? ⟨g, o + i * 2 + 1, none⟩ = _ := c1
      replace f1 : wr.frozen? ⟨g, o + i * 2 + 1, none⟩ = false := f1
      replace kc := Lib.hid kc
      replace kf := Lib.hid kf
      go_wp2
      go_roundw
      case rel =>
        refine ⟨i + 1, by omega, by go_num, by go_num, fun _ => ⟨o, rfl, by simpa using hl, fun j hj => ⟨?_, by simpa using kf.out j hj⟩⟩, only_put (only_put (hg) _ _) _ _⟩
        have r0 := kc.out
        have r1 := row_set (ys := fun j => k0 + (j : Int)) (m := i * 2) r0 (by omega) (v := k0 + ((i * 2 : Nat) : Int)) (by show _ = k0 + (((i * 2 : Nat)) : Int); omega)
        have r2 := row_set (ys := fun j => k0 + (j : Int)) (m := i * 2 + 1) r1 (by omega) (v := k0 + ((i * 2 : Nat) : Int) + 1) (by show _ = k0 + (((i * 2 + 1 : Nat)) : Int); omega)
        have e1 := r2 j hj
        have e2 : i * 2 + 1 + 1 = (i + 1) * 2 := by omega
        rw [e2] at e1
        first | exact e1 | (rw [← e1]; go_num)
      case measure => simp [intOf]; omega
    · obtain rfl : i = n := by omega
      go_wp2
      go_ret
      refine ⟨ret_k (by simp), fun h0 => ?_, hg⟩
      obtain ⟨o, e, hl, hc⟩ := hr h0
      refine ⟨o, e, hl, fun j hj => ⟨?_, (hc j hj).2⟩⟩
      have e1 := (hc j hj).1
      simp only [if_pos hj] at e1
      exact e1

set_option maxHeartbeats 2000000 in
theorem heldWindowS_any (A : Option Addr) (n c B : Nat) (xs : Nat → Int) (k0 : Int) (w : World) (hx : Ints w B A (n * 2) xs) (he : ∀ j : Nat, j < n * 2 → xs j = k0 + j) (h0 : 0 ≤ k0) (h1 : k0 + n * 2 ≤ 4611686018427387904) :
    Calls Try.prog 36 #[.slice A n c, .int .i64 k0] w fun e w' => e = .returned (.int .i64 (k0 + n * 2)) ∧ Below w.heap.size w w' := by
  replace hx := Lib.hid hx
  replace he := Lib.hid he
  go_enter Try.func36, Try.ntmps36
  go_wp2
  go_loopw [1, 5] (fun v1 v5 wr => ∃ i : Nat, i ≤ n ∧ v1 = .int .i64 (k0 + ((i * 2 : Nat) : Int)) ∧ v5 = .int .i64 i ∧ wr.heap = w.heap ∧ Below w.heap.size w wr) (fun v1 v5 _ => (n - intOf v5).toNat)
  case atStart => exact ⟨0, by omega, by simp, rfl, rfl, Below.refl _ _⟩
  case round =>
    obtain ⟨i, hi, rfl, rfl, hh, hb⟩ := hrel
    by_cases h2 : i < n
    · obtain ⟨b, o, rfl, hbl, hc⟩ := hx.out (by omega)

      have c0 := hc (i * 2) (by omega)
      rw [he.out _ (by omega), ← World.cell?_of_block (a := ⟨b, o + (i * 2), none⟩) (w' := wr) (by rw [hh])] at c0
      replace c0 : wr.cell? ⟨b, o + i * 2, none⟩ = some (.int .i64 (k0 + (((i * 2 : Nat)) : Int))) := c0
      have d0 : (k0 + (((i * 2 : Nat)) : Int) != k0 + ((i * 2 : Nat) : Int)) = false := by simp
      have c1 := hc (i * 2 + 1) (by omega)
      rw [he.out _ (by omega), ← World.cell?_of_block (a := ⟨b, o + (i * 2 + 1), none⟩) (w' := wr) (by rw [hh])] at c1
      replace c1 : wr.cell? ⟨b, o + i * 2 + 1, none⟩ = some (.int .i64 (k0 + (((i * 2 + 1 : Nat)) : Int))) := c1
      have d1 : (k0 + (((i * 2 + 1 : Nat)) : Int) != k0 + ((i * 2 : Nat) : Int) + 1) = false := by simp; omega
      clear hc
      go_wp2
      go_roundw
      case rel => exact ⟨i + 1, by omega, by go_num, by go_num, hh, hb⟩
      case measure => simp [intOf]; omega
    · obtain rfl : i = n := by omega
      go_wp2
      go_ret
      exact ⟨ret_k (by simp), hb⟩

end Go.Proofs.Ytghpaegabppeaaa
