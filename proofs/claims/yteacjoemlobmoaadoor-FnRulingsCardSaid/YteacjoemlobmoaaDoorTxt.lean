/- Numbers as text: the program's and the reference's. -/
import Derived.Test.YteacjoemlobmoaaDoorBase
import Derived.Test.YteacjoemlobmoaaDoorOwn
import Derived.Test.YteacjoemlobmoaaDoorFmt
import Derived.Lib.AppendIntMem
import Derived.Lib.ItoaMem
import Derived.Lib.ItoaLen
import Derived.Laws.IdiomStrings
import Derived.Laws.OwnMore
import Derived.OwnWalk
import Derived.WalkKit
import Derived.RegionTactic
import Derived.BigRegion
set_option linter.unusedSimpArgs false
set_option linter.unusedVariables false
namespace Go.Proofs.YteacjoemlobmoaaDoor
open Go.RowKit Go.Shelf

/-- A number's text. -/
def dd (n : Int) : ByteArray := ⟨(Lib.decDigits n.toNat).toArray⟩
theorem dd_size {n : Int} (h0 : 0 ≤ n) (h1 : n ≤ 9223372036854775807) : (dd n).size ≤ 21 := by
  have h := Lib.itoa_length_le n (by omega) h1
  unfold Lib.itoa at h
  rw [if_neg (by omega)] at h
  unfold dd ByteArray.size
  simpa using h
/-- The table of the powers of ten, whatever the call does from block B on. -/
abbrev Pow (w : World) (B : Nat) : Prop := Lib.TabBelow Tryd.prog B w "internal/strconv.uint64pow10" .u64 Lib.pow10Tab
theorem grow_below (w : World) (k : Nat) (os : Array Obj) : Below w.heap.size w (Go.Sort.grow (w.drewN k) os) := by
  refine ⟨rfl, rfl, rfl, ?_, fun j hj => ?_⟩
  · unfold Go.Sort.grow
    simp [World.drewN]
  · unfold Go.Sort.grow
    simp [World.drewN, Array.getElem?_append, hj]
theorem text_any (n : Int) (h0 : 0 ≤ n) (h1 : n ≤ 9223372036854775807) (B : Nat) (w : World) (hT : Pow w B) :
    Calls Tryd.prog 23 #[.int .i64 n] w fun e w' => e = .returned (.string (dd n)) ∧ Below w.heap.size w w' := by
  have hcall := fmt_any n (by omega) h1 w hT.here
  have he : Lib.itoa n = Lib.decDigits n.toNat := by unfold Lib.itoa; rw [if_neg (by omega)]
  rw [he] at hcall
  change Calls Tryd.prog 23 #[.int .i64 n] w fun e w' => e = .returned (.string ⟨(Lib.decDigits n.toNat).toArray⟩) ∧ Below w.heap.size w w'
  generalize (Lib.decDigits n.toNat).toArray = S at *
  replace hcall := Lib.hid hcall
  go_enter Tryd.func23, Tryd.ntmps23
  go_wp2_with fail
  refine hcall.out.mono ?_
  rintro e w' ⟨rfl, k, os, rfl⟩
  go_wp2
  go_ret
  exact ⟨rfl, grow_below w k os⟩
def emp : Value → Nat
  | .slice _ 0 _ => 1
  | _ => 0
/-- What the digits so far and the rest say. -/
def lawN (u r : Nat) (L : List UInt8) : Prop := (L = [] ∧ r = u) ∨ (L ≠ [] ∧ Lib.decDigits u = (if r = 0 then [] else Lib.decDigits r) ++ L)
theorem lawN_step {u r : Nat} {L : List UInt8} (h : lawN u r L) (hr : 0 < r ∨ L = []) : lawN u (r / 10) (UInt8.ofNat (48 + r % 10) :: L) := by
  have key : Lib.decDigits r = (if r / 10 = 0 then [] else Lib.decDigits (r / 10)) ++ [UInt8.ofNat (48 + r % 10)] := by
    rw [Lib.decDigits]
    by_cases h10 : r < 10
    · rw [dif_pos h10, if_pos (by omega), Nat.mod_eq_of_lt h10]; rfl
    · rw [dif_neg h10, if_neg (by omega)]
  right
  refine ⟨by simp, ?_⟩
  rcases h with ⟨rfl, rfl⟩ | ⟨hL, h⟩
  · exact key
  · rcases hr with hr | hr
    · rw [h, if_neg (by omega), key, List.append_assoc]; rfl
    · exact absurd hr hL
theorem lawN_len {u r : Nat} {L : List UInt8} (h : lawN u r L) (hu : u ≤ 9223372036854775807) : L.length ≤ 21 := by
  rcases h with ⟨rfl, _⟩ | ⟨_, h⟩
  · simp
  · have h1 := Lib.itoa_length_le (u : Int) (by omega) (by omega)
    rw [Lib.itoa_nonneg, h, List.length_append] at h1
    omega
theorem lawN_end {u : Nat} {L : List UInt8} (h : lawN u 0 L) (hL : L ≠ []) : Lib.decDigits u = L := by
  rcases h with ⟨rfl, _⟩ | ⟨_, h⟩
  · exact absurd rfl hL
  · rw [if_pos rfl] at h; exact h
theorem infoByte : (Tryd.prog.info? 5).map (fun i => (i.zero, i.size, i.bytes)) = some (some (.int .u8 0), 1, 1) := by kernel_rfl
theorem byteCells_get {L : List UInt8} {j : Nat} (h : j < L.length) : (Lib.byteCells L)[j]? = some (.int .u8 (L[j].toNat : Int)) := by simp [Lib.byteCells, h]
set_option maxRecDepth 100000 in
set_option maxHeartbeats 4000000 in
theorem number_any (n : Int) (h0 : 0 ≤ n) (h1 : n ≤ 9223372036854775807) (w : World) :
    Calls Tryd.prog 21 #[.int .i64 n] w fun e w' => e = .returned (.string (dd n)) ∧ Below w.heap.size w w' := by
  obtain ⟨u, rfl⟩ : ∃ u : Nat, n = u := ⟨n.toNat, by omega⟩
  obtain ⟨S, hS⟩ : ∃ S, dd (u : Int) = S := ⟨_, rfl⟩
  rw [hS]
  replace hS := Lib.hid hS
  obtain ⟨i0, hi, hz0', hz1', hz2'⟩ := info_parts infoByte
  replace hi := Lib.hid hi
  replace hz0' := Lib.hid hz0'
  replace hz1' := Lib.hid hz1'
  replace hz2' := Lib.hid hz2'
  have ho0 : (w.alloc (.cells #[] 5)).ownsRow w.heap.size 5 1 (.slice (some ⟨w.heap.size, 0, none⟩) 0 0) 0 (Lib.byteCells []) := own_empty (Whole.new _ _ _) (Nat.le_refl _)
  have hb0 : Below w.heap.size w (w.alloc (.cells #[] 5)) := (Below.refl _ _).alloc (Nat.le_refl _) _
  go_enter Tryd.func21, Tryd.ntmps21
  go_wp2_with fail
  go_loopw [3, 4] (fun v3 v4 wr => ∃ (r nz g cap : Nat) (L : List UInt8), r ≤ u ∧ v4 = .int .i64 r ∧ v3 = .slice (some ⟨g, 0, none⟩) nz cap ∧ Hid (lawN u r L) ∧ Hid (L.length = nz) ∧ wr.ownsRow w.heap.size 5 1 v3 nz (Lib.byteCells L) ∧ Below w.heap.size w wr) (fun v3 v4 _ => 2 * (intOf v4).toNat + emp v3)
  case atStart => exact ⟨u, 0, w.heap.size, 0, [], Nat.le_refl _, rfl, rfl, Lib.hid (.inl ⟨rfl, rfl⟩), Lib.hid rfl, ho0, hb0⟩
  case round =>
    obtain ⟨r, nz, g, cap, L, hr, rfl, rfl, hlaw, hnz, hown, hbel⟩ := hrel
    clear ho0 hb0
    have hsz := hbel.size
    have hlen := lawN_len hlaw.out (by omega)
    rw [hnz.out] at hlen
    have hrow := hown.cells rfl
    by_cases hgo : 0 < r ∨ nz = 0
    · have hgo' : 0 < r ∨ L = [] := by
        rcases hgo with h | h
        · exact .inl h
        · exact .inr (List.length_eq_zero_iff.1 (hnz.out.trans h))
      have hlaw2 := Lib.hid (lawN_step hlaw.out hgo')
      have hmod : ((r : Int).tmod 10) = ((r % 10 : Nat) : Int) := by rw [Int.tmod_eq_emod_of_nonneg (by omega)]; omega
      have hdiv : ((r : Int).tdiv 10) = ((r / 10 : Nat) : Int) := by rw [Int.tdiv_eq_ediv_of_nonneg (by omega)]; omega
      obtain ⟨q, hq⟩ : ∃ q, r % 10 = q := ⟨_, rfl⟩
      have hq10 : q < 10 := by omega
      rw [hq] at hlaw2 hmod
      have hu8 : (UInt8.ofNat (48 + q)).toNat = 48 + q := by simp; omega
      have hwr : IntKind.u8.wrap ((48 : Int) + q) = 48 + q := by rw [IntKind.wrap_u8]; omega
      have hnew := World.ownsRow_lit (base := w.heap.size) (size := 1) (e := 5) wr #[.int .u8 (48 + q)] 1 hsz (by simp [maxLen]) rfl
      have hemp : 0 < nz → emp (.slice (some ⟨g, 0, none⟩) nz cap) = 0 := fun h => by
        cases nz with
        | zero => omega
        | succ k => rfl
      have hcells : ∀ j u, (Lib.byteCells L)[j]? = some u → (wr.alloc (.cells #[.int .u8 (48 + (q : Int))] 5)).cell? ((⟨g, 0, none⟩ : Addr).add j) = some u := fun j u hu => (hown.alloc _).cells rfl j u hu
      have hbl : (Lib.byteCells L).length = nz := by rw [Lib.byteCells_length]; exact hnz.out
      have h1c : ∀ u ∈ Lib.byteCells L, u.oneCell' = true := fun u hu => by
        obtain ⟨b, -, rfl⟩ := List.mem_map.1 hu
        rfl
      obtain ⟨M, hM⟩ : ∃ M, Lib.byteCells L = M := ⟨_, rfl⟩
      rw [hM] at hbl h1c hcells hown
      replace hbl := Lib.hid hbl
      replace h1c := Lib.hid h1c
      replace hcells := Lib.hid hcells
      replace hM := Lib.hid hM
      clear hrow
      have key : ∀ (P : Prop), P → P := fun _ h => h
      have hem1 : emp (.slice (some ⟨g, 0, none⟩) 0 cap) = 1 := rfl
      have hem2 : ∀ a c, emp (.slice a (1 + nz) c) = 0 := fun a c => by rw [Nat.add_comm]; rfl
      by_cases h : 0 < r
      · have t1 : (0 : Int) < r := by omega
        go_wp2_with (at_builtin; refine wpList_append_own_at _ rfl _ _ 28 rfl w.heap.size 5 i0 _ 1 1 Tryd.underlying28 hi.out hz0'.out hz1'.out hz2'.out rfl (by decide) _ _ _ rfl hnew ⟨g, 0, none⟩ nz cap M rfl (by rw [hbl.out, Nat.mul_one]) (fun j u hu => hcells.out j u hu) h1c.out (by unfold maxLen; omega) (by omega) (by simp; omega) ?_)
        intro v' wy hown' hgrow _ hat
        have hbW : Below w.heap.size w (wr.alloc (.cells #[.int .u8 (48 + (q : Int))] 5)) := hbel.alloc hsz _
        have hby : Below w.heap.size w wy := hbW.trans (below_only hgrow hbW.size (fun k hk => (hnew.lt k hk).1))
        have hoy : wy.ownsRow w.heap.size 5 1 v' (1 + nz) (Lib.byteCells (UInt8.ofNat (48 + q) :: L)) := by
          have e : Lib.byteCells (UInt8.ofNat (48 + q) :: L) = [.int .u8 (48 + (q : Int))] ++ M := by
            rw [← hM.out]
            unfold Lib.byteCells
            rw [List.map_cons, hu8]
            simp
          rw [e]
          exact hown'
        obtain ⟨g', cap', cur', hv', -⟩ := own_open hoy (by omega)
        subst hv'
        have hz' : (UInt8.ofNat (48 + q) :: L).length = 1 + nz := by rw [List.length_cons, hnz.out]; omega
        replace hz' := Lib.hid hz'
        clear hown' hgrow hat hnew hown hu8
        go_wp2
        go_roundw
        case rel => exact ⟨r / 10, 1 + nz, g', cap', _, by omega, by go_num, rfl, hlaw2, hz', hoy, hby⟩
        case measure => simp [intOf, hem2]; omega
      · obtain rfl : r = 0 := by omega
        obtain rfl : nz = 0 := by omega
        obtain rfl : q = 0 := by omega
        have hbW : Below w.heap.size w (wr.alloc (.cells #[.int .u8 48] 5)) := hbel.alloc hsz _
        have hL : L = [] := List.length_eq_zero_iff.1 hnz.out
        subst hL
        clear hown hu8 hcells
        go_wp2
        go_roundw
        case rel => exact ⟨0, 1, wr.heap.size, 1, _, by omega, rfl, rfl, hlaw2, Lib.hid rfl, hnew, hbW⟩
        case measure => simp [intOf, hem2, hem1]
    · obtain rfl : r = 0 := by omega
      obtain ⟨m, rfl⟩ : ∃ m, nz = m + 1 := ⟨nz - 1, by omega⟩
      have hL : L ≠ [] := fun e => by rw [e] at hnz; have := hnz.out; simp at this
      have hend := lawN_end hlaw.out hL
      have hSL : S = ⟨L.toArray⟩ := by rw [← hS.out]; unfold dd; rw [← hend]; rfl
      have hcv := run_convert_bytes_back (P := Tryd.prog) wr 28 9 5 ⟨g, 0, none⟩ cap L Tryd.underlying28 Tryd.underlying5 Tryd.underlying9 (fun j hj => hrow j _ (byteCells_get hj))
      rw [hnz.out, ← hSL] at hcv
      clear hlaw hown hrow hend hSL
      go_wp2
      go_ret
      exact ⟨rfl, hbel⟩
end Go.Proofs.YteacjoemlobmoaaDoor
