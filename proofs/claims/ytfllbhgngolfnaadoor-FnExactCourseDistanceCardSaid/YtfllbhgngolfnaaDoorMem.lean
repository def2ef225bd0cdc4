/- Words for memory: a block that is known whole; a slice of integers or of structs of integers that can be read; what a step leaves as it was. -/
import Derived.Test.YtfllbhgngolfnaaDoorProg
import Derived.WalkKit
import Derived.WalkLawsBesides
import Derived.WalkSpells
import Derived.WalkSmall
import Derived.LoopTactic
import Derived.Deep.LoopGhost
import Derived.Lib.Hide
import Derived.Deep.QuietTactic
import Derived.BigQuiet
import Derived.Laws.AppendOwn
import Derived.Laws.MakeOwn
import Derived.Laws.Rows
import Derived.Deep.AppendLies
namespace Go.Proofs.YtfllbhgngolfnaaDoor
open Go.RowKit

theorem block_add (a : Addr) (n : Nat) : (a.add n).block = a.block := by unfold Addr.add; split <;> rfl
theorem add_zero_off (g j : Nat) : (⟨g, 0, none⟩ : Addr).add j = ⟨g, j, none⟩ := by unfold Addr.add; split <;> simp_all

/-- Block g holds just these cells, of element type t, none of them frozen. -/
def Whole (w : World) (g : Nat) (t : TypeId) (cs : Array Value) : Prop := w.heap[g]? = some (.cells cs t (0, 0))

section
variable {w w' : World} {g : Nat} {t : TypeId} {cs : Array Value}
theorem Whole.lt (h : Whole w g t cs) : g < w.heap.size := by
  by_cases hlt : g < w.heap.size
  · exact hlt
  · have h' : w.heap[g]? = some (.cells cs t (0, 0)) := h
    rw [Array.getElem?_eq_none (by omega)] at h'
    cases h'
theorem Whole.cell (h : Whole w g t cs) (i : Nat) : w.cell? ⟨g, i, none⟩ = cs[i]? := cell_of_row w g i cs t (0, 0) h
theorem Whole.frz (h : Whole w g t cs) (i : Nat) : w.frozen? ⟨g, i, none⟩ = false := by
  have h' : w.heap[g]? = some (.cells cs t (0, 0)) := h
  simp [World.frozen?, h']
theorem Whole.new (w : World) (t : TypeId) (cs : Array Value) : Whole (w.alloc (.cells cs t)) w.heap.size t cs := by
  show (w.heap.push _)[w.heap.size]? = _
  simp
theorem Whole.drew (h : Whole w g t cs) : Whole w.drew g t cs := h
theorem Whole.drewN (h : Whole w g t cs) (n : Nat) : Whole (w.drewN n) g t cs := h
theorem Whole.alloc (h : Whole w g t cs) (o : Obj) : Whole (w.alloc o) g t cs := (Below.heap_alloc w o g h.lt).trans h
theorem Whole.put (h : Whole w g t cs) (i : Nat) (u : Value) : Whole (w.setCell ⟨g, i, none⟩ u) g t (cs.setIfInBounds i u) := by
  have h' : w.heap[g]? = some (.cells cs t (0, 0)) := h
  show (w.setCell ⟨g, i, none⟩ u).heap[g]? = _
  simp [World.setCell, Array.getElem?_modify, h']
theorem Whole.far (h : Whole w g t cs) {p : Addr} (hp : g ≠ p.block) (u : Value) : Whole (w.setCell p u) g t cs := (Below.heap_setCell w p u g hp).trans h
theorem Whole.below {B : Nat} (h : Whole w g t cs) (hb : Below B w w') (hg : g < B) : Whole w' g t cs := (hb.block g hg).trans h
theorem Whole.grown {row : Option Nat} (h : Whole w g t cs) (hb : w.grownBy w' row) (hg : row ≠ some g) : Whole w' g t cs := (hb.block g h.lt (fun e => hg e.symm)).trans h
end

/-- Nothing that was there has turned but block g. -/
theorem only_refl (w : World) (row : Option Nat) : w.grownBy w row := ⟨rfl, rfl, rfl, Nat.le_refl _, fun _ _ _ => rfl⟩
section
variable {a w w' : World} {row : Option Nat}
theorem only_trans {b : World} (h : a.grownBy b row) (k : b.grownBy w row) : a.grownBy w row :=
  ⟨k.os.trans h.os, k.tape.trans h.tape, k.output.trans h.output, Nat.le_trans h.size k.size, fun i hi hne => (k.block i (Nat.lt_of_lt_of_le hi h.size) hne).trans (h.block i hi hne)⟩
theorem only_drew' (h : a.grownBy w row) : a.grownBy w.drew row := ⟨h.os, h.tape, h.output, h.size, h.block⟩
theorem only_drewN' (h : a.grownBy w row) (n : Nat) : a.grownBy (w.drewN n) row := ⟨h.os, h.tape, h.output, h.size, h.block⟩
theorem only_new (h : a.grownBy w row) (o : Obj) : a.grownBy (w.alloc o) row :=
  only_trans h (World.grownBy_alloc w o row)
theorem only_put {g : Nat} (h : a.grownBy w (some g)) (i : Nat) (u : Value) : a.grownBy (w.setCell ⟨g, i, none⟩ u) (some g) :=
  only_trans h ⟨rfl, rfl, rfl, by simp [World.setCell], fun k _ hne => Below.heap_setCell _ _ _ _ (fun e => hne (by rw [e]))⟩
theorem only_put_new {g : Nat} (h : a.grownBy w row) (hg : a.heap.size ≤ g) (i : Nat) (u : Value) : a.grownBy (w.setCell ⟨g, i, none⟩ u) row :=
  ⟨h.os, h.tape, h.output, by simpa [World.setCell] using h.size, fun k hk hne => (Below.heap_setCell _ _ _ _ (by simp; omega)).trans (h.block k hk hne)⟩
theorem only_below (h : Below a.heap.size a w) (row : Option Nat) : a.grownBy w row := ⟨h.os, h.tape, h.output, h.size, fun i hi _ => h.block i hi⟩
theorem below_only {B : Nat} (h : a.grownBy w row) (hB : B ≤ a.heap.size) (hr : ∀ k, row = some k → B ≤ k) : Below B a w :=
  ⟨h.os, h.tape, h.output, h.size, fun k hk => h.block k (by omega) (fun e => by have := hr k e.symm; omega)⟩
theorem below_dN {B : Nat} (h : Below B a w) (n : Nat) : Below B a (w.drewN n) := ⟨h.os, h.tape, h.output, h.size, h.block⟩
end

/-- The n numbers xs lie in a row that begins at A (nothing is said of A where n is 0), in cells of kind k, below block B. -/
def Nums (k : IntKind) (w : World) (B : Nat) (A : Option Addr) (n : Nat) (xs : Nat → Int) : Prop :=
  0 < n → ∃ ad, A = some ad ∧ ad.block < B ∧ ∀ j, j < n → w.cell? (ad.add j) = some (.int k (xs j))
section
variable {k : IntKind} {w w' : World} {B n : Nat} {A : Option Addr} {xs : Nat → Int}
theorem Nums.keep (h : Nums k w B A n xs) (hk : ∀ p : Addr, p.block < B → w'.cell? p = w.cell? p) : Nums k w' B A n xs := fun hn => by
  obtain ⟨ad, e, hb, hc⟩ := h hn
  exact ⟨ad, e, hb, fun j hj => (hk _ (by rw [block_add]; exact hb)).trans (hc j hj)⟩
theorem Nums.below (h : Nums k w B A n xs) (hb : Below B w w') : Nums k w' B A n xs := h.keep fun _ hp => hb.cell hp
theorem Nums.only {row : Option Nat} (h : Nums k w B A n xs) (hg : w.grownBy w' row) (hB : B ≤ w.heap.size) (hr : ∀ g, row = some g → B ≤ g) : Nums k w' B A n xs :=
  h.keep fun p hp => World.cell?_of_block (hg.block p.block (by omega) (fun e => by have := hr _ e.symm; omega))
theorem Nums.more {B' : Nat} (h : Nums k w B A n xs) (hB : B ≤ B') : Nums k w B' A n xs := fun hn => by
  obtain ⟨ad, e, hb, hc⟩ := h hn
  exact ⟨ad, e, by omega, hc⟩
end

/-- The n numbers xs lie in a row that begins at A (nothing is said of A where n is 0), below block B. -/
def Ints (w : World) (B : Nat) (A : Option Addr) (n : Nat) (xs : Nat → Int) : Prop :=
  0 < n → ∃ b o, A = some ⟨b, o, none⟩ ∧ b < B ∧ ∀ j, j < n → w.cell? ⟨b, o + j, none⟩ = some (.int .i64 (xs j))
section
variable {w w' : World} {B n : Nat} {A : Option Addr} {xs : Nat → Int}
theorem Ints.keep (h : Ints w B A n xs) (hk : ∀ p : Addr, p.block < B → w'.cell? p = w.cell? p) : Ints w' B A n xs := fun hn => by
  obtain ⟨b, o, e, hb, hc⟩ := h hn
  exact ⟨b, o, e, hb, fun j hj => (hk _ hb).trans (hc j hj)⟩
theorem Ints.below (h : Ints w B A n xs) (hb : Below B w w') : Ints w' B A n xs := h.keep fun _ hp => hb.cell hp
theorem Ints.only {row : Option Nat} (h : Ints w B A n xs) (hg : w.grownBy w' row) (hB : B ≤ w.heap.size) (hr : ∀ g, row = some g → B ≤ g) : Ints w' B A n xs :=
  h.keep fun p hp => World.cell?_of_block (hg.block p.block (by omega) (fun e => by have := hr _ e.symm; omega))
theorem Ints.more {B' : Nat} (h : Ints w B A n xs) (hB : B ≤ B') : Ints w B' A n xs := fun hn => by
  obtain ⟨b, o, e, hb, hc⟩ := h hn
  exact ⟨b, o, e, by omega, hc⟩
theorem Ints.dN (h : Ints w B A n xs) (k : Nat) : Ints (w.drewN k) B A n xs := h
theorem Ints.fewer {m : Nat} (h : Ints w B A n xs) (hm : m ≤ n) : Ints w B A m xs := fun hn => by
  obtain ⟨b, o, e, hb, hc⟩ := h (by omega)
  exact ⟨b, o, e, hb, fun j hj => hc j (by omega)⟩
theorem Ints.congr {ys : Nat → Int} (h : Ints w B A n xs) (he : ∀ j, j < n → xs j = ys j) : Ints w B A n ys := fun hn => by
  obtain ⟨b, o, e, hb, hc⟩ := h hn
  exact ⟨b, o, e, hb, fun j hj => by rw [hc j hj, he j hj]⟩
/-- A whole block read as a row. -/
theorem Ints.of_whole {g : Nat} {t : TypeId} {cs : Array Value} (h : Whole w g t cs) (hB : g < B) (hc : ∀ j, j < n → cs[j]? = some (.int .i64 (xs j))) : Ints w B (some ⟨g, 0, none⟩) n xs :=
  fun _ => ⟨g, 0, rfl, hB, fun j hj => by rw [Nat.zero_add, h.cell]; exact hc j hj⟩
/-- A row of the call's own read as a row. -/
theorem Ints.of_own {base : Nat} {e : TypeId} {size c m : Nat} {ys : List Value} (h : w.ownsRow base e size (.slice A m c) m ys) (hB : w.heap.size ≤ B) (hn : n ≤ ys.length) (hc : ∀ j, j < n → ys[j]? = some (.int .i64 (xs j))) : Ints w B A n xs := by
  intro hn0
  rcases h.2 with ⟨hv, hy⟩ | ⟨g, cap, cur, hv, _, hh, _⟩
  · have hl := h.1; rw [hy, Nat.zero_mul] at hl; omega
  · injection hv with hA _ _
    subst hA
    have hl : g < w.heap.size := (Array.getElem?_eq_some_iff.1 hh).1
    refine ⟨g, 0, rfl, by omega, fun j hj => ?_⟩
    have := h.cells (g := g) rfl j _ (hc j hj)
    rw [add_zero_off] at this
    rw [Nat.zero_add]
    exact this
end

/-- The cells of a new row. -/
def zeros (z : Array Value) (n : Nat) : Array Value := madeCells z n
theorem zeros_size (z : Array Value) (n : Nat) : (zeros z n).size = n := size_madeCells z n
theorem make_eq {P : Program} (t e : TypeId) (i : TypeInfo) (z : Value) (ht : P.underlying t = some (.slice e)) (hi : P.info? e = some i) (hz : i.zero = some z)
    (n size : Nat) (hs : i.size = size) (hbytes : i.bytes * n ≤ 281474976710656) (h63 : n ≤ 9223372036854775807) (w : World) :
    (Instr.makeSlice t (.int .i64 (n : Int)) (.int .i64 (n : Int))).run P w = .ok (.slice (some ⟨w.heap.size, 0, none⟩) n n) (w.alloc (.cells (zeros z.cells (n * size)) e)) := by
  have hb : (i.bytes : Int) * (n : Int) ≤ 281474976710656 := by
    have h : ((i.bytes * n : Nat) : Int) ≤ 281474976710656 := by omega
    rwa [Int.natCast_mul] at h
  have hr := run_make (P := P) w t e i z ht hi hz .i64 .i64 n n (by omega) (by omega) hb (by omega)
  simp only [Int.toNat_natCast] at hr
  rw [hr, hs]; rfl
theorem Whole.put2 {w : World} {g : Nat} {t : TypeId} {cs : Array Value} (h : Whole w g t cs) (i : Nat) (u : Value) : Whole (w.setCell ⟨g, i, none⟩ u) g t (cs.setIfInBounds i u) := h.put i u
theorem Whole.some_ {w : World} {g : Nat} {t : TypeId} {cs : Array Value} (h : Whole w g t cs) (i : Nat) (hi : i < cs.size) : w.cell? ⟨g, i, none⟩ = some cs[i] := by rw [h.cell, Array.getElem?_eq_getElem hi]
end Go.Proofs.YtfllbhgngolfnaaDoor
