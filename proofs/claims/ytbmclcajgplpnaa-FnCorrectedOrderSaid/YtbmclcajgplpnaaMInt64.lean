/- Slices of Int64: what the laws write into them and look for. -/
import Derived.Test.YtbmclcajgplpnaaRow
import Derived.Handy
import Derived.Deep.RegionWith
import Derived.RegionTactic
import Derived.BigRegion
namespace Go.Proofs.Ytbmclcajgplpnaa
open Go.RowKit
set_option linter.unusedSimpArgs false
set_option linter.unusedVariables false

set_option maxHeartbeats 2000000 in
theorem markInt64S_any (A : Option Addr) (n c g : Nat) (xs : Nat → Int) (k0 : Int) (w : World) (hx : Row w g A n xs) (h0 : 0 ≤ k0) (h1 : k0 + n * 1 ≤ 4611686018427387904) :
    Calls Try.prog 26 #[.slice A n c, .int .i64 k0] w fun e w' => e = .returned (.int .i64 (k0 + n * 1)) ∧ Row w' g A n (fun j => k0 + j) ∧ w.grownBy w' (some g) := by
  replace hx := Lib.hid hx
  go_enter Try.func26, Try.ntmps26
  go_wp2
  go_loopw [1, 5] (fun v1 v5 wr => ∃ i : Nat, i ≤ n ∧ v1 = .int .i64 (k0 + ((i : Nat) : Int)) ∧ v5 = .int .i64 i ∧ Row wr g A n (fun j => if j < i then k0 + j else xs j) ∧ w.grownBy wr (some g)) (fun v1 v5 _ => (n - intOf v5).toNat)
  case atStart => exact ⟨0, by omega, by simp, rfl, by simpa using hx.out, only_refl _ _⟩
  case round =>
    obtain ⟨i, hi, rfl, rfl, hr, hg⟩ := hrel
    clear hx
    by_cases h2 : i < n
    · obtain ⟨o, rfl, hl, kc, kf⟩ := hr.open_ (by omega)
      clear hr
      have c0 := kc (i) (by omega)
      rw [if_neg (by omega)] at c0
      have f0 := kf (i) (by omega)
      replace c0 : wr.cell? ⟨g, o + i, none⟩ = _ := c0
      replace f0 : wr.frozen? ⟨g, o + i, none⟩ = false := f0
      replace kc := Lib.hid kc
      replace kf := Lib.hid kf
      go_wp2
      go_roundw
      case rel =>
        refine ⟨i + 1, by omega, by go_num, by go_num, fun _ => ⟨o, rfl, by simpa using hl, fun j hj => ⟨?_, by simpa using kf.out j hj⟩⟩, only_put (hg) _ _⟩
        have r0 := kc.out
        have r1 := row_set (ys := fun j => k0 + (j : Int)) (m := i) r0 (by omega) (v := k0 + ((i : Nat) : Int)) (by show _ = k0 + (((i : Nat)) : Int); omega)
        have e1 := r1 j hj
        have e2 : i + 1 = (i + 1) := by omega
        rw [e2] at e1
        first | exact e1 | (rw [← e1]; go_num)
      case measure => simp [intOf]; omega
    · obtain rfl : i = n := by omega
      go_wp2
      go_ret
      refine ⟨ret_k (by simp), fun h0 => ?_, hg⟩
      obtain ⟨o, e, hl, hc⟩ := hr h0
      refine ⟨o, e, hl, fun j hj => ⟨?_, (hc j hj).2⟩⟩
      have e1 := (hc j hj).1
      simp only [if_pos hj] at e1
      exact e1

set_option maxHeartbeats 2000000 in
theorem heldInt64S_any (A : Option Addr) (n c B : Nat) (xs : Nat → Int) (k0 : Int) (w : World) (hx : Ints w B A n xs) (he : ∀ j : Nat, j < n → xs j = k0 + j) (h0 : 0 ≤ k0) (h1 : k0 + n * 1 ≤ 4611686018427387904) :
    Calls Try.prog 33 #[.slice A n c, .int .i64 k0] w fun e w' => e = .returned (.int .i64 (k0 + n * 1)) ∧ Below w.heap.size w w' := by
  replace hx := Lib.hid hx
  replace he := Lib.hid he
  go_enter Try.func33, Try.ntmps33
  go_wp2
  go_loopw [1, 5] (fun v1 v5 wr => ∃ i : Nat, i ≤ n ∧ v1 = .int .i64 (k0 + ((i : Nat) : Int)) ∧ v5 = .int .i64 i ∧ wr.heap = w.heap ∧ Below w.heap.size w wr) (fun v1 v5 _ => (n - intOf v5).toNat)
  case atStart => exact ⟨0, by omega, by simp, rfl, rfl, Below.refl _ _⟩
  case round =>
    obtain ⟨i, hi, rfl, rfl, hh, hb⟩ := hrel
    by_cases h2 : i < n
    · obtain ⟨b, o, rfl, hbl, hc⟩ := hx.out (by omega)

      have c0 := hc (i) (by omega)
      rw [he.out _ (by omega), ← World.cell?_of_block (a := ⟨b, o + (i), none⟩) (w' := wr) (by rw [hh])] at c0
      replace c0 : wr.cell? ⟨b, o + i, none⟩ = some (.int .i64 (k0 + (((i : Nat)) : Int))) := c0
      have d0 : (k0 + (((i : Nat)) : Int) != k0 + ((i : Nat) : Int)) = false := by simp
      clear hc
      go_wp2
      go_roundw
      case rel => exact ⟨i + 1, by omega, by go_num, by go_num, hh, hb⟩
      case measure => simp [intOf]; omega
    · obtain rfl : i = n := by omega
      go_wp2
      go_ret
      exact ⟨ret_k (by simp), hb⟩


theorem infoInt64 : (Try.prog.info? 2).map (fun i => (i.zero, i.size, i.bytes)) = some (some (.int .i64 0), 1, 8) := by kernel_rfl

set_option maxHeartbeats 1000000 in
theorem eqInt64S_same (A A' : Option Addr) (n c c'' B : Nat) (xs : Nat → Int) (w : World) (hx : Ints w B A n xs) (hx2 : Ints w B A' n xs) (hn : n ≤ 9223372036854775807) :
    Calls Try.prog 25 #[.slice A n c, .slice A' n c''] w fun e w' => e = .returned (.bool true) ∧ Below w.heap.size w w' := by
  replace hx := Lib.hid hx
  replace hx2 := Lib.hid hx2
  go_enter Try.func25, Try.ntmps25
  go_wp2
  go_loopw [5] (fun v wr => ∃ i : Nat, i ≤ n ∧ v = .int .i64 i ∧ wr.heap = w.heap ∧ Below w.heap.size w wr) (fun v _ => (n - intOf v).toNat)
  case atStart => exact ⟨0, by omega, rfl, rfl, Below.refl _ _⟩
  case round =>
    obtain ⟨i, hi, rfl, hh, hb⟩ := hrel
    by_cases h1 : i < n
    · obtain ⟨b, o, rfl, hadB, hcode⟩ := hx.out (by omega)
      obtain ⟨b2, o2, rfl, hadB2, hcode2⟩ := hx2.out (by omega)
      have g0 : wr.cell? ⟨b, o + i, none⟩ = some (.int .i64 (xs i)) := by rw [World.cell?_of_block (w := w) (by rw [hh])]; exact hcode i h1
      have g1 : wr.cell? ⟨b2, o2 + i, none⟩ = some (.int .i64 (xs i)) := by rw [World.cell?_of_block (w := w) (by rw [hh])]; exact hcode2 i h1
      clear hcode hcode2
      go_wp2
      go_quiet (fail)
      go_wp2
      go_roundw
      case rel => exact ⟨i + 1, by omega, by go_num, hh, below_dN hb _⟩
      case measure => simp [intOf]; omega
    · obtain rfl : i = n := by omega
      go_wp2
      go_ret
      exact ⟨rfl, hb⟩
set_option maxHeartbeats 1000000 in
theorem toInt64S_any (A : Option Addr) (n c : Nat) (xs : Nat → Int) (w : World) (hx : Ints w w.heap.size A n xs) (hn : n ≤ 1048576) :
    Calls Try.prog 23 #[.slice A n c] w fun e w' => e = .returned (.slice (some ⟨w.heap.size, 0, none⟩) n n) ∧
      (∃ cs, Whole w' w.heap.size 2 cs ∧ cs.size = n ∧ ∀ j, j < n → cs[j]? = some (.int .i64 (xs j))) ∧ Below w.heap.size w w' := by
  obtain ⟨i0, hi, hz0, hz1, hz2⟩ := info_parts infoInt64
  have hmk := fun W => make_eq (P := Try.prog) 39 2 i0 _ Try.underlying39 hi hz0 n 1 hz1 (by rw [hz2]; omega) (by omega) W
  simp only [Nat.mul_one] at hmk
  clear hi hz0 hz1 hz2
  have hx' := Lib.hid hx
  clear hx
  go_enter Try.func23, Try.ntmps23
  go_wp2
  clear hmk
  go_loopw [4] (fun v wr => ∃ k : Nat, k ≤ n ∧ v = .int .i64 k ∧ (∃ cs, Whole wr w.heap.size 2 cs ∧ cs.size = n ∧ ∀ j, j < k → cs[j]? = some (.int .i64 (xs j))) ∧ Below w.heap.size w wr) (fun v _ => (n - intOf v).toNat)
  case atStart => exact ⟨0, by omega, rfl, ⟨_, Whole.new _ _ _, zeros_size _ _, fun j hj => by simp at hj⟩, (Below.refl _ _).alloc (Nat.le_refl _) _⟩
  case round =>
    obtain ⟨k, hk1, rfl, ⟨cs, hw, hsz, hcs⟩, hbel⟩ := hrel
    by_cases h1 : k < n
    · obtain ⟨b, o, rfl, hadB, hcode⟩ := hx'.out (by omega)
      have g0 : wr.cell? ⟨b, o + k, none⟩ = some (.int .i64 (xs k)) := by rw [hbel.cell hadB]; exact hcode k (by omega)
      clear hcode
      have s0 := hw.some_ k (by omega)
      have f0 := hw.frz k
      replace hcs := Lib.hid hcs
      replace hsz := Lib.hid hsz
      go_wp2
      go_roundw
      case rel =>
        refine ⟨k + 1, by omega, by go_num, ⟨_, hw.put k _, by simp [hsz.out], fun j hj => ?_⟩, hbel.setCell (Nat.le_refl _) _⟩
        simp only [Array.getElem?_setIfInBounds, Array.size_setIfInBounds]
        by_cases e0 : j = k
        · subst e0; simp [hsz.out]; omega
        rw [if_neg (fun e => e0 e.symm)]
        exact hcs.out j (by omega)
      case measure => simp [intOf]; omega
    · obtain rfl : k = n := by omega
      go_wp2
      go_ret
      exact ⟨rfl, ⟨cs, hw, hsz, hcs⟩, hbel⟩

end Go.Proofs.Ytbmclcajgplpnaa
