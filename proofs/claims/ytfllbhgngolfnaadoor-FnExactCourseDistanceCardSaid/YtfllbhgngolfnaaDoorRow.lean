/- Rows that are written into: block g holds n numbers from an offset on, and none of them is frozen. -/
import Derived.Test.YtfllbhgngolfnaaDoorOwn
namespace Go.Proofs.YtfllbhgngolfnaaDoor
open Go.RowKit
set_option linter.unusedSimpArgs false

theorem ret_k {k : IntKind} {a b : Int} (h : a = b) : Ending.returned (.int k a) = .returned (.int k b) := by rw [h]
/-- Block g holds n numbers from A on; none is frozen. -/
def Row (w : World) (g : Nat) (A : Option Addr) (n : Nat) (xs : Nat → Int) : Prop :=
  0 < n → ∃ o, A = some ⟨g, o, none⟩ ∧ g < w.heap.size ∧ ∀ j, j < n → w.cell? ⟨g, o + j, none⟩ = some (.int .i64 (xs j)) ∧ w.frozen? ⟨g, o + j, none⟩ = false
section
variable {w w' : World} {g n : Nat} {A : Option Addr} {xs : Nat → Int}
theorem Row.grown {row : Option Nat} (h : Row w g A n xs) (hg : w.grownBy w' row) (hr : row ≠ some g) : Row w' g A n xs := fun hn => by
  obtain ⟨o, e, hl, hc⟩ := h hn
  have hb := hg.block g hl (fun e => hr e.symm)
  refine ⟨o, e, Nat.lt_of_lt_of_le hl hg.size, fun j hj => ⟨(World.cell?_of_block (a := ⟨g, o + j, none⟩) hb).trans (hc j hj).1, ?_⟩⟩
  exact (World.frozen?_of_block (a := ⟨g, o + j, none⟩) hb).trans (hc j hj).2
theorem Row.grown2 {row : Option Nat} (h : Row w g A n xs) (hg : w.grownBy w' row) (hr : n = 0 ∨ row ≠ some g) : Row w' g A n xs := by
  rcases hr with h0 | hr
  · exact fun hn => by omega
  · exact h.grown hg hr
theorem Row.below (h : Row w g A n xs) (hb : Below w.heap.size w w') : Row w' g A n xs := h.grown (row := none) (only_below hb none) (by simp)
theorem Row.ints (h : Row w g A n xs) : Ints w w.heap.size A n xs := fun hn => by
  obtain ⟨o, e, hl, hc⟩ := h hn
  exact ⟨g, o, e, hl, fun j hj => (hc j hj).1⟩
theorem Row.of_whole {t : TypeId} {cs : Array Value} (h : Whole w g t cs) (hc : ∀ j, j < n → cs[j]? = some (.int .i64 (xs j))) : Row w g (some ⟨g, 0, none⟩) n xs :=
  fun _ => ⟨0, rfl, h.lt, fun j hj => ⟨by rw [Nat.zero_add, h.cell]; exact hc j hj, by rw [Nat.zero_add]; exact h.frz j⟩⟩
theorem Row.of_own {base c m N : Nat} {e : TypeId} {size : Nat} {ys : List Int} (h : w.ownsRow base e size (.slice A m c) m (ys.map (Value.int .i64))) (hN : N = m * size) :
    ∃ g, base ≤ g ∧ (N = 0 ∨ g < w.heap.size) ∧ Row w g A N (fun j => ys.getD j 0) := by
  have hl := h.1
  rw [List.length_map] at hl
  subst hN
  rcases h.2 with ⟨hv, hy⟩ | ⟨g, cap, cur, hv, hb, hh, hnc, hcm, _, ht⟩
  · injection hv with _ h0 _
    subst h0
    exact ⟨base, Nat.le_refl _, .inl (Nat.zero_mul _), fun h0 => by omega⟩
  · injection hv with hA _ _
    subst hA
    have hw : Whole w g e cur := hh
    refine ⟨g, hb, .inr hw.lt, Row.of_whole hw (fun j hj => ?_)⟩
    have hu : (ys.map (Value.int .i64))[j]? = some (.int .i64 (ys.getD j 0)) := by
      rw [List.getElem?_map, List.getElem?_eq_getElem (by omega)]
      simp [List.getD, List.getElem?_eq_getElem (show j < ys.length by omega)]
    rw [← ht, List.getElem?_take] at hu
    by_cases h3 : j < m * size
    · rw [if_pos h3] at hu; simpa using hu
    · exact absurd hj h3
end
/-- A row laid open. -/
theorem Row.open_ {w : World} {g n : Nat} {A : Option Addr} {xs : Nat → Int} (h : Row w g A n xs) (hn : 0 < n) : ∃ o, A = some ⟨g, o, none⟩ ∧ g < w.heap.size ∧ (∀ j, j < n → w.cell? ⟨g, o + j, none⟩ = some (.int .i64 (xs j))) ∧ ∀ j, j < n → w.frozen? ⟨g, o + j, none⟩ = false := by
  obtain ⟨o, e, hl, hc⟩ := h hn
  exact ⟨o, e, hl, fun j hj => (hc j hj).1, fun j hj => (hc j hj).2⟩
/-- The cells of a row behind a store of its cell m, where the first m cells are new. -/
theorem row_set {w : World} {g o n m : Nat} {xs ys : Nat → Int} (hc : ∀ j, j < n → w.cell? ⟨g, o + j, none⟩ = some (.int .i64 (if j < m then ys j else xs j))) (hm : m < n) {v : Int} (hv : v = ys m) :
    ∀ j, j < n → (w.setCell ⟨g, o + m, none⟩ (.int .i64 v)).cell? ⟨g, o + j, none⟩ = some (.int .i64 (if j < m + 1 then ys j else xs j)) := by
  intro j hj
  by_cases e : j = m
  · subst e
    rw [if_pos (by omega), hv]
    exact World.cell?_setCell_same _ _ _ (hc j hm)
  · rw [World.cell?_setCell_other _ _ _ _ (fun e' => e (by injection e' with _ e' _; omega)), hc j hj]
    by_cases h1 : j < m
    · rw [if_pos h1, if_pos (by omega)]
    · rw [if_neg h1, if_neg (by omega)]
/-- A list of numbers on its way back, with a code: m elements of type t, size numbers each, in a row of the call's own. -/
def Gave (t : TypeId) (size m : Nat) (w w' : World) (e : Ending) (L : List Int) (co : Int) : Prop :=
  ∃ A c, e = .returned (.tuple #[.slice A m c, .int .i64 co]) ∧ m ≤ 100000 ∧ w'.ownsRow w.heap.size t size (.slice A m c) m (L.map (Value.int .i64)) ∧ Below w.heap.size w w'
theorem gave_nil {t : TypeId} {size : Nat} {w w' : World} {co : Int} (h : Below w.heap.size w w') : Gave t size 0 w w' (.returned (.tuple #[.slice none 0 0, .int .i64 co])) [] co :=
  ⟨none, 0, rfl, by omega, ⟨by simp, .inl ⟨rfl, rfl⟩⟩, h⟩
end Go.Proofs.YtfllbhgngolfnaaDoor
