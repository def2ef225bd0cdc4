/- Lists of numbers: likeInts, hasInt. -/
import Derived.Test.YteacjoemlobmoaaDoorOwn
import Derived.RegionTactic
import Derived.BigRegion
import Derived.Handy
set_option linter.unusedSimpArgs false
set_option linter.unusedVariables false
namespace Go.Proofs.YteacjoemlobmoaaDoor
open Go.RowKit

/-- likeInts over two rows of numbers. -/
theorem likeInts_any (A A2 : Option Addr) (n c m c2 B : Nat) (L M : List Int) (w : World) (hx : Ints w B A n (fun j => L.getD j 0)) (hy : Ints w B A2 m (fun j => M.getD j 0)) (hl : L.length = n) (hm : M.length = m) (hB : B ≤ w.heap.size) (hn : n ≤ 9223372036854775807) (hm2 : m ≤ 9223372036854775807) (he : L = M) :
    Calls Tryd.prog 17 #[.slice A n c, .slice A2 m c2] w fun e w' => e = .returned (.bool true) ∧ Below w.heap.size w w' := by
  subst he
  obtain rfl : n = m := by omega
  go_enter Tryd.func17, Tryd.ntmps17
  go_wp2_with fail
  go_loopw [5] (fun v wr => ∃ k : Nat, k ≤ n ∧ v = .int .i64 k ∧ Below w.heap.size w wr) (fun v _ => (n - intOf v).toNat)
  case atStart => exact ⟨0, by omega, rfl, Below.refl _ _⟩
  case round =>
    obtain ⟨k, hk, rfl, hbel⟩ := hrel
    have hsz := hbel.size
    by_cases hlt : k < n
    · obtain ⟨b, o, rfl, hadB, hcode⟩ := hx (by omega)
      obtain ⟨b2, o2, rfl, hadB2, hcode2⟩ := hy (by omega)
      have g0 : wr.cell? ⟨b, o + k, none⟩ = some (.int .i64 (L.getD k 0)) := by rw [hbel.cell (by simp; omega)]; exact hcode k hlt
      have g1 : wr.cell? ⟨b2, o2 + k, none⟩ = some (.int .i64 (L.getD k 0)) := by rw [hbel.cell (by simp; omega)]; exact hcode2 k hlt
      generalize L.getD k 0 = y at g0 g1
      clear hcode hcode2
      go_wp2
      try go_quiet (fail)
      try go_wp2
      go_roundw
      case rel => exact ⟨k + 1, by omega, by go_num, by first | exact hbel | exact below_dN hbel _⟩
      case measure => simp [intOf]; omega
    · obtain rfl : k = n := by omega
      go_wp2
      go_ret
      exact ⟨rfl, hbel⟩
theorem hasInt_any (A : Option Addr) (n c B : Nat) (L : List Int) (x : Int) (w : World) (hx : Ints w B A n (fun j => L.getD j 0)) (hl : L.length = n) (hB : B ≤ w.heap.size) (hn : n ≤ 9223372036854775807) :
    Calls Tryd.prog 18 #[.slice A n c, .int .i64 x] w fun e w' => e = .returned (.bool (L.contains x)) ∧ Below w.heap.size w w' := by
  go_enter Tryd.func18, Tryd.ntmps18
  go_wp2_with fail
  go_loopw [5] (fun v wr => ∃ k : Nat, k ≤ n ∧ v = .int .i64 k ∧ Hid (∀ j, j < k → L.getD j 0 ≠ x) ∧ Below w.heap.size w wr) (fun v _ => (n - intOf v).toNat)
  case atStart => exact ⟨0, by omega, rfl, Lib.hid (fun j hj => by omega), Below.refl _ _⟩
  case round =>
    obtain ⟨k, hk, rfl, hne, hbel⟩ := hrel
    by_cases hlt : k < n
    · obtain ⟨b, o, rfl, hadB, hcode⟩ := hx (by omega)
      have g0 : wr.cell? ⟨b, o + k, none⟩ = some (.int .i64 (L.getD k 0)) := by rw [hbel.cell (by simp; omega)]; exact hcode k hlt
      have hmem : L.getD k 0 ∈ L := by
        rw [List.getD_eq_getElem?_getD, List.getElem?_eq_getElem (by omega)]
        exact List.getElem_mem _
      generalize hy : L.getD k 0 = y at g0 hmem
      replace hy := Lib.hid hy
      clear hcode
      by_cases he : y = x
      · subst he
        have hct := List.contains_iff_mem.2 hmem
        rw [hct] at *
        go_wp2
        go_ret
        exact ⟨rfl, hbel⟩
      · have he' : (y == x) = false := by simpa using he
        go_wp2
        go_roundw
        case rel =>
          refine ⟨k + 1, by omega, by go_num, Lib.hid (fun j hj => ?_), hbel⟩
          by_cases e : j = k
          · subst e; rw [hy.out]; exact he
          · exact hne.out j (by omega)
        case measure => simp [intOf]; omega
    · obtain rfl : k = n := by omega
      have hf : L.contains x = false := by
        rw [← Bool.not_eq_true, List.contains_iff_mem]
        intro hm
        obtain ⟨j, hj, e⟩ := List.getElem_of_mem hm
        refine hne.out j (by omega) ?_
        rw [List.getD_eq_getElem?_getD, List.getElem?_eq_getElem hj]
        simpa using e
      go_wp2
      go_ret
      exact ⟨by rw [hf]; rfl, hbel⟩
end Go.Proofs.YteacjoemlobmoaaDoor
