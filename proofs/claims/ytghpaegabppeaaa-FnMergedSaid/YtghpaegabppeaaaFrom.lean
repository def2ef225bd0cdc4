/- The contract of l01From: the source over a code. -/
import Derived.Test.YtghpaegabppeaaaDraw
import Derived.RegionTactic
import Derived.BigRegion
import Derived.ChangeAlike
namespace Go.Proofs.Ytghpaegabppeaaa
open Go.RowKit

theorem from_any (A : Option Addr) (m c : Nat) (bs : Nat → Int) (w : World) (B : Nat) (hc : Nums .u8 w B A m bs) (hB : B ≤ w.heap.size) (hm : m ≤ 100000) (hb : ∀ j, 0 ≤ bs j ∧ bs j ≤ 255) :
    Calls Try.prog 50 #[.slice A m c] w fun e w' => e = .returned (.pointer (some ⟨w.heap.size, 0, none⟩)) ∧ Src w' B w.heap.size m bs (0, fromV bs (min m 64)) ∧ Below w.heap.size w w' := by
  obtain ⟨g, hg⟩ : ∃ g, g = w.heap.size := ⟨_, rfl⟩
  have hg' := Lib.hid hg
  have hb' := Lib.hid hb
  have hc' := Lib.hid hc
  clear hb hc
  go_enter Try.func50, Try.ntmps50
  go_wp2
  go_loopw [4] (fun v wr => ∃ k : Nat, k ≤ m ∧ k ≤ 64 ∧ v = .int .i64 k ∧ Whole wr w.heap.size 75 #[.slice A m c, .int .i64 0, .int .i64 (fromV bs k)] ∧ Below w.heap.size w wr) (fun v _ => (64 - intOf v).toNat)
  case atStart => exact ⟨0, by omega, by omega, rfl, Whole.new _ _ _, (Below.refl _ _).alloc (Nat.le_refl _) _⟩
  case round =>
    obtain ⟨k, hk1, hk2, rfl, hw, hbel⟩ := hrel
    by_cases h1 : k < m
    · by_cases h2 : k < 64
      · obtain ⟨ad, rfl, hadB, hcode⟩ := hc'.out (by omega)
        obtain ⟨b0, b1⟩ := hb'.out k
        obtain ⟨f0, f1⟩ := fromV_bd bs k
        have c2 := hw.cell 2
        have fr := hw.frz 2
        simp at c2
        have k1 : wr.cell? (ad.add k) = some (.int .u8 (bs k)) := by
          rw [hbel.cell (by rw [block_add]; omega)]
          exact hcode k h1
        have hw' := Lib.hid hw
        clear hw hcode
        go_wp2
        go_region
        go_wp2
        go_roundw
        case rel =>
          refine ⟨k + 1, by omega, by omega, by go_num, ?_, ?_⟩
          · exact (hw'.out.put 2 (.int .i64 (fromV bs (k + 1)))).drewN _
          · exact (hbel.setCell (Nat.le_refl _) _).drew
        case measure => simp [intOf]; omega
      · obtain rfl : k = 64 := by omega
        go_wp2
        go_ret
        refine ⟨rfl, ?_, hbel⟩
        rw [Nat.min_eq_right (by omega)]
        exact ⟨A, c, hw, hc'.out.below (hbel.mono hB), hB, by simp, hm, (fromV_bd _ _).1, (fromV_bd _ _).2, hb'.out⟩
    · obtain rfl : k = m := by omega
      go_wp2
      go_ret
      refine ⟨rfl, ?_, hbel⟩
      rw [Nat.min_eq_left (by omega)]
      exact ⟨A, c, hw, hc'.out.below (hbel.mono hB), hB, by simp, hm, (fromV_bd _ _).1, (fromV_bd _ _).2, hb'.out⟩
end Go.Proofs.Ytghpaegabppeaaa
