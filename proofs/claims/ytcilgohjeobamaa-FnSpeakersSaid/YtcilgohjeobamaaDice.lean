/- The dice of the laws: the range of their numbers. -/
import Derived.Test.YtcilgohjeobamaaPick
import Derived.Laws.BitsLemmas
import Derived.RegionTactic
import Derived.BigRegion
import Derived.ChangeAlike
set_option linter.unusedSimpArgs false
set_option linter.unusedVariables false
namespace Go.Proofs.Ytcilgohjeobamaa
open Go.RowKit

def DiceX (w : World) (g : Nat) (A : Option Addr) (m c : Nat) : Prop := ∃ (i : Nat) (h : Int), i ≤ m ∧ Whole w g 81 #[.slice A m c, .int .i64 i, .int .u64 h]
theorem u64_wrap_bd (n : Int) : 0 ≤ IntKind.u64.wrap n ∧ IntKind.u64.wrap n < 18446744073709551616 := by
  rw [IntKind.wrap_u64]; omega
theorem mask24 (y : Int) (h0 : 0 ≤ y) (h1 : y < 9223372036854775808) : 0 ≤ wrap64 (bits .and .u64 y 16777215) ∧ wrap64 (bits .and .u64 y 16777215) ≤ 16777215 := by
  have h := bits_mask .u64 63 (by decide) (fun n h0 h1 => by rw [IntKind.wrap_u64]; omega) 24 (by decide) y h0 (by omega)
  have e : ((2 : Int) ^ 24 - 1) = 16777215 := by decide
  have e2 : ((2 : Int) ^ 24) = 16777216 := by decide
  rw [e, e2] at h
  rw [h]
  unfold wrap64
  omega
set_option maxHeartbeats 4000000 in
theorem roll_any (A : Option Addr) (m c B : Nat) (bs : Nat → Int) (s : Int) (w : World) (hc : Nums .u8 w B A m bs) (hB : B ≤ w.heap.size) (hm : m ≤ 100000) :
    Calls Try.prog 21 #[.slice A m c, .int .u64 s] w fun e w' => e = .returned (.pointer (some ⟨w.heap.size, 0, none⟩)) ∧ DiceX w' w.heap.size A m c ∧ Below w.heap.size w w' := by
  have hc' := Lib.hid hc
  clear hc
  go_enter Try.func21, Try.ntmps21
  go_wp2
  go_loopw [6] (fun v wr => ∃ (k : Nat) (h : Int), k ≤ m ∧ v = .int .i64 k ∧ Whole wr w.heap.size 81 #[.slice A m c, .int .i64 0, .int .u64 h] ∧ Below w.heap.size w wr) (fun v _ => (m - intOf v).toNat)
  case atStart => exact ⟨0, _, by omega, rfl, Whole.new _ _ _, (Below.refl _ _).alloc (Nat.le_refl _) _⟩
  case round =>
    obtain ⟨k, h, hk1, rfl, hw, hbel⟩ := hrel
    by_cases h1 : k < m
    · obtain ⟨ad, rfl, hadB, hcode⟩ := hc'.out (by omega)
      have c2 := hw.cell 2
      have fr := hw.frz 2
      simp at c2
      have k1 : wr.cell? (ad.add k) = some (.int .u8 (bs k)) := by
        rw [hbel.cell (by rw [block_add]; omega)]
        exact hcode k h1
      have hw' := Lib.hid hw
      clear hw hcode
      go_wp2
      go_region
      go_wp2
      go_roundw
      case rel =>
        refine ⟨k + 1, IntKind.u64.wrap (IntKind.u64.wrap (IntKind.u64.wrap (h * 1099511628211) + IntKind.u64.wrap (bs k)) + 3), by omega, by go_num, ?_, ?_⟩
        · exact (hw'.out.put 2 _).drewN _
        · exact (hbel.setCell (Nat.le_refl _) _).drew
      case measure => simp [intOf]; omega
    · obtain rfl : k = m := by omega
      go_wp2
      go_ret
      exact ⟨rfl, ⟨0, h, by omega, hw⟩, hbel⟩
set_option maxHeartbeats 4000000 in
theorem below_any (A : Option Addr) (m c B g : Nat) (bs : Nat → Int) (n : Int) (w : World) (hc : Nums .u8 w B A m bs) (hB : B ≤ g) (hm : m ≤ 100000) (hb : ∀ j, 0 ≤ bs j ∧ bs j ≤ 255) (hd : DiceX w g A m c) (n1 : 1 ≤ n) (n2 : n ≤ 9223372036854775807) :
    Calls Try.prog 22 #[.pointer (some ⟨g, 0, none⟩), .int .i64 n] w fun e w' => ∃ r : Int, e = .returned (.int .i64 r) ∧ 0 ≤ r ∧ r < n ∧ DiceX w' g A m c ∧ w.grownBy w' (some g) := by
  obtain ⟨i, h, hi, hw⟩ := hd
  have c0 := hw.cell 0
  have c1 := hw.cell 1
  have c2 := hw.cell 2
  have f1 := hw.frz 1
  have f2 := hw.frz 2
  have hgl := hw.lt
  simp at c0 c1 c2
  obtain ⟨h', hh⟩ : ∃ h', IntKind.u64.wrap (IntKind.u64.wrap (h * 6364136223846793005) + 1442695040888963407) = h' := ⟨_, rfl⟩
  have hb' := u64_wrap_bd (IntKind.u64.wrap (h * 6364136223846793005) + 1442695040888963407)
  rw [hh] at hb'
  have hx' := mask24 (h' / 8589934592) (by omega) (by omega)
  obtain ⟨x, hx⟩ : ∃ x, wrap64 (bits .and .u64 (h' / 8589934592) 16777215) = x := ⟨_, rfl⟩
  rw [hx] at hx'
  have hn0 : n ≠ 0 := by omega
  by_cases h2 : i < m
  · obtain ⟨ad, rfl, hadB, hcode⟩ := hc (by omega)
    obtain ⟨b0, b1⟩ := hb i
    have k2 : ∀ u, (w.setCell ⟨g, 2, none⟩ u).cell? (ad.add i) = some (.int .u8 (bs i)) := fun u => by
      rw [World.cell?_setCell_other _ _ _ _ (fun e => by have := congrArg Addr.block e; rw [block_add] at this; simp at this; omega)]
      exact hcode i h2
    clear hc hb hcode
    generalize bs i = y at k2 b0 b1
    have hr : 0 ≤ (x + y) % n ∧ (x + y) % n < n := ⟨Int.emod_nonneg _ (by omega), Int.emod_lt_of_pos _ (by omega)⟩
    have hW := Lib.hid hw
    clear hw
    go_enter Try.func22, Try.ntmps22
    go_wp2
    go_quiet (fail)
    go_wp2
    go_quiet (fail)
    go_wp2
    go_ret
    refine ⟨_, rfl, hr.1, hr.2, ⟨i + 1, h', by omega, ?_⟩, only_put (only_drewN' (only_put (only_refl _ _) _ _) _) _ _⟩
    exact ((hW.out.put 2 (.int .u64 h')).drewN _).put 1 (.int .i64 ((i : Int) + 1))
  · have hr : 0 ≤ x % n ∧ x % n < n := ⟨Int.emod_nonneg _ (by omega), Int.emod_lt_of_pos _ (by omega)⟩
    have hW := Lib.hid hw
    clear hw hc hb
    go_enter Try.func22, Try.ntmps22
    go_wp2
    go_quiet (fail)
    go_wp2
    go_ret
    refine ⟨_, rfl, by first | exact hr.1 | (rw [hx]; exact hr.1), by first | exact hr.2 | (rw [hx]; exact hr.2), ⟨i, h', by omega, ?_⟩, only_drewN' (only_put (only_refl _ _) _ _) _⟩
    exact (hW.out.put 2 (.int .u64 h')).drewN _
end Go.Proofs.Ytcilgohjeobamaa
