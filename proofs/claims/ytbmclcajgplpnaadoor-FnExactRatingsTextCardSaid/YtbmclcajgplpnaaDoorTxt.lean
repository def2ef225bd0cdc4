/- Numbers as text: the program's and the reference's. -/
import Derived.Test.YtbmclcajgplpnaaDoorBase
import Derived.Test.YtbmclcajgplpnaaDoorOwn
import Derived.Test.YtbmclcajgplpnaaDoorFmt
import Derived.Lib.AppendIntMem
import Derived.Lib.ItoaMem
import Derived.Lib.ItoaLen
import Derived.Laws.IdiomStrings
import Derived.Laws.OwnMore
import Derived.OwnWalk
import Derived.WalkKit
import Derived.RegionTactic
import Derived.BigRegion
set_option linter.unusedSimpArgs false
set_option linter.unusedVariables false
namespace Go.Proofs.YtbmclcajgplpnaaDoor
open Go.RowKit Go.Shelf

/-- A number's text. -/
def dd (n : Int) : ByteArray := ⟨(Lib.decDigits n.toNat).toArray⟩
theorem dd_size {n : Int} (h0 : 0 ≤ n) (h1 : n ≤ 9223372036854775807) : (dd n).size ≤ 21 := by
  have h := Lib.itoa_length_le n (by omega) h1
  unfold Lib.itoa at h
  rw [if_neg (by omega)] at h
  unfold dd ByteArray.size
  simpa using h
/-- The table of the powers of ten, whatever the call does from block B on. -/
abbrev Pow (w : World) (B : Nat) : Prop := Lib.TabBelow Tryd.prog B w "internal/strconv.uint64pow10" .u64 Lib.pow10Tab
theorem grow_below (w : World) (k : Nat) (os : Array Obj) : Below w.heap.size w (Go.Sort.grow (w.drewN k) os) := by
  refine ⟨rfl, rfl, rfl, ?_, fun j hj => ?_⟩
  · unfold Go.Sort.grow
    simp [World.drewN]
  · unfold Go.Sort.grow
    simp [World.drewN, Array.getElem?_append, hj]
theorem text_any (n : Int) (h0 : 0 ≤ n) (h1 : n ≤ 9223372036854775807) (B : Nat) (w : World) (hT : Pow w B) :
    Calls Tryd.prog 13 #[.int .i64 n] w fun e w' => e = .returned (.string (dd n)) ∧ Below w.heap.size w w' := by
  have hcall := fmt_any n (by omega) h1 w hT.here
  have he : Lib.itoa n = Lib.decDigits n.toNat := by unfold Lib.itoa; rw [if_neg (by omega)]
  rw [he] at hcall
  change Calls Tryd.prog 13 #[.int .i64 n] w fun e w' => e = .returned (.string ⟨(Lib.decDigits n.toNat).toArray⟩) ∧ Below w.heap.size w w'
  generalize (Lib.decDigits n.toNat).toArray = S at *
  replace hcall := Lib.hid hcall
  go_enter Tryd.func13, Tryd.ntmps13
  go_wp2_with fail
  refine hcall.out.mono ?_
  rintro e w' ⟨rfl, k, os, rfl⟩
  go_wp2
  go_ret
  exact ⟨rfl, grow_below w k os⟩
def emp : Value → Nat
  | .slice _ 0 _ => 1
  | _ => 0
/-- What the digits so far and the rest say. -/
def lawN (u r : Nat) (L : List UInt8) : Prop := (L = [] ∧ r = u) ∨ (L ≠ [] ∧ Lib.decDigits u = (if r = 0 then [] else Lib.decDigits r) ++ L)
theorem lawN_step {u r : Nat} {L : List UInt8} (h : lawN u r L) (hr : 0 < r ∨ L = []) : lawN u (r / 10) (UInt8.ofNat (48 + r % 10) :: L) := by
  have key : Lib.decDigits r = (if r / 10 = 0 then [] else Lib.decDigits (r / 10)) ++ [UInt8.ofNat (48 + r % 10)] := by
    rw [Lib.decDigits]
    by_cases h10 : r < 10
    · rw [dif_pos h10, if_pos (by omega), Nat.mod_eq_of_lt h10]; rfl
    · rw [dif_neg h10, if_neg (by omega)]
  right
  refine ⟨by simp, ?_⟩
  rcases h with ⟨rfl, rfl⟩ | ⟨hL, h⟩
  · exact key
  · rcases hr with hr | hr
    · rw [h, if_neg (by omega), key, List.append_assoc]; rfl
    · exact absurd hr hL
theorem lawN_len {u r : Nat} {L : List UInt8} (h : lawN u r L) (hu : u ≤ 9223372036854775807) : L.length ≤ 21 := by
  rcases h with ⟨rfl, _⟩ | ⟨_, h⟩
  · simp
  · have h1 := Lib.itoa_length_le (u : Int) (by omega) (by omega)
    rw [Lib.itoa_nonneg, h, List.length_append] at h1
    omega
theorem lawN_end {u : Nat} {L : List UInt8} (h : lawN u 0 L) (hL : L ≠ []) : Lib.decDigits u = L := by
  rcases h with ⟨rfl, _⟩ | ⟨_, h⟩
  · exact absurd rfl hL
  · rw [if_pos rfl] at h; exact h
theorem infoByte : (Tryd.prog.info? 5).map (fun i => (i.zero, i.size, i.bytes)) = some (some (.int .u8 0), 1, 1) := by kernel_rfl
theorem byteCells_get {L : List UInt8} {j : Nat} (h : j < L.length) : (Lib.byteCells L)[j]? = some (.int .u8 (L[j].toNat : Int)) := by simp [Lib.byteCells, h]
end Go.Proofs.YtbmclcajgplpnaaDoor
