/- Lists of numbers: likeInts, hasInt. -/
import Derived.Test.YtbmclcajgplpnaaOwn
import Derived.RegionTactic
import Derived.BigRegion
import Derived.Handy
set_option linter.unusedSimpArgs false
set_option linter.unusedVariables false
namespace Go.Proofs.Ytbmclcajgplpnaa
open Go.RowKit

/-- likeInts over two rows of numbers. -/
theorem likeInts_any (A A2 : Option Addr) (n c m c2 B : Nat) (L M : List Int) (w : World) (hx : Ints w B A n (fun j => L.getD j 0)) (hy : Ints w B A2 m (fun j => M.getD j 0)) (hl : L.length = n) (hm : M.length = m) (hB : B ≤ w.heap.size) (hn : n ≤ 9223372036854775807) (hm2 : m ≤ 9223372036854775807) (he : L = M) :
    Calls Try.prog 35 #[.slice A n c, .slice A2 m c2] w fun e w' => e = .returned (.bool true) ∧ Below w.heap.size w w' := by
  subst he
  obtain rfl : n = m := by omega
  go_enter Try.func35, Try.ntmps35
  go_wp2_with fail
  go_loopw [5] (fun v wr => ∃ k : Nat, k ≤ n ∧ v = .int .i64 k ∧ Below w.heap.size w wr) (fun v _ => (n - intOf v).toNat)
  case atStart => exact ⟨0, by omega, rfl, Below.refl _ _⟩
  case round =>
    obtain ⟨k, hk, rfl, hbel⟩ := hrel
    have hsz := hbel.size
    by_cases hlt : k < n
    · obtain ⟨b, o, rfl, hadB, hcode⟩ := hx (by omega)
      obtain ⟨b2, o2, rfl, hadB2, hcode2⟩ := hy (by omega)
      have g0 : wr.cell? ⟨b, o + k, none⟩ = some (.int .i64 (L.getD k 0)) := by rw [hbel.cell (by simp; omega)]; exact hcode k hlt
      have g1 : wr.cell? ⟨b2, o2 + k, none⟩ = some (.int .i64 (L.getD k 0)) := by rw [hbel.cell (by simp; omega)]; exact hcode2 k hlt
      generalize L.getD k 0 = y at g0 g1
      clear hcode hcode2
      go_wp2
      try go_quiet (fail)
      try go_wp2
      go_roundw
      case rel => exact ⟨k + 1, by omega, by go_num, by first | exact hbel | exact below_dN hbel _⟩
      case measure => simp [intOf]; omega
    · obtain rfl : k = n := by omega
      go_wp2
      go_ret
      exact ⟨rfl, hbel⟩
end Go.Proofs.Ytbmclcajgplpnaa
