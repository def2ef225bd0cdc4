/- Rows of the call's own, that are appended to. -/
import Derived.Test.YtfllbhgngolfnaaDoorMem
import Derived.OwnWalk
namespace Go.Proofs.YtfllbhgngolfnaaDoor
open Go.RowKit
set_option linter.unusedSimpArgs false

/-- An empty row of the call's own. -/
theorem own_empty {w : World} {g base : Nat} {e : TypeId} {size : Nat} (h : Whole w g e #[]) (hb : base ≤ g) : w.ownsRow base e size (.slice (some ⟨g, 0, none⟩) 0 0) 0 [] :=
  ⟨by simp, .inr ⟨g, 0, #[], rfl, hb, h, Nat.le_refl _, by simp [maxLen], by simp, by simp⟩⟩
/-- A row of the call's own over a step that leaves its block. -/
theorem own_only {w w' : World} {base : Nat} {e : TypeId} {size : Nat} {v : Value} {n : Nat} {xs : List Value} {row : Option Nat} (h : w.ownsRow base e size v n xs) (hg : w.grownBy w' row) (hr : ∀ k, row = some k → k < base) : w'.ownsRow base e size v n xs := by
  refine h.kept hg ?_
  cases hv : v.ownBlock with
  | none => exact .inl rfl
  | some k =>
    right
    intro e
    have := (h.lt k hv).1
    have := hr k e.symm
    omega
theorem own_below {w w' : World} {base : Nat} {e : TypeId} {size : Nat} {v : Value} {n : Nat} {xs : List Value} (h : w.ownsRow base e size v n xs) (hb : Below w.heap.size w w') : w'.ownsRow base e size v n xs :=
  h.kept (row := none) ⟨hb.os, hb.tape, hb.output, hb.size, fun k hk _ => hb.block k hk⟩ (by cases v.ownBlock <;> simp)
/-- What an append leaves of all older blocks. -/
theorem only_own {a w w' : World} {row : Option Nat} {base : Nat} {v : Value} (h : a.grownBy w row) (hg : w.grownBy w' v.ownBlock) (hv : ∀ k, v.ownBlock = some k → base ≤ k) (hb : a.heap.size ≤ base) : a.grownBy w' row :=
  ⟨hg.os.trans h.os, hg.tape.trans h.tape, hg.output.trans h.output, Nat.le_trans h.size hg.size, fun k hk hne => (hg.block k (Nat.lt_of_lt_of_le hk h.size) (fun e => by have := hv k e.symm; omega)).trans (h.block k hk hne)⟩
/-- An owned row that is not empty, laid open: its block, whole. -/
theorem own_open {w : World} {base : Nat} {e : TypeId} {size : Nat} {v : Value} {n : Nat} {xs : List Value} (h : w.ownsRow base e size v n xs) (hn : 0 < n) :
    ∃ g cap cur, v = .slice (some ⟨g, 0, none⟩) n cap ∧ base ≤ g ∧ Whole w g e cur ∧ n ≤ cap ∧ cap ≤ maxLen ∧ cur.size = cap * size ∧ ∀ (j : Nat) (u : Value), xs[j]? = some u → cur[j]? = some u := by
  rcases h.2 with ⟨_, h0⟩ | ⟨g, cap, cur, rfl, hb, hh, hnc, hcm, hcs, ht⟩
  · omega
  · refine ⟨g, cap, cur, rfl, hb, hh, hnc, hcm, hcs, fun j u hu => ?_⟩
    rw [← ht, List.getElem?_take] at hu
    split at hu
    · simpa using hu
    · cases hu
theorem own_form {w : World} {base : Nat} {e : TypeId} {size : Nat} {v : Value} {n : Nat} {xs : List Value} (h : w.ownsRow base e size v n xs) : ∃ A c, v = .slice A n c ∧ n ≤ c ∧ c ≤ maxLen := by
  rcases h.2 with ⟨rfl, rfl⟩ | ⟨g, cap, cur, rfl, _, _, hnc, hcm, _⟩
  · exact ⟨none, 0, rfl, Nat.le_refl _, by simp [maxLen]⟩
  · exact ⟨_, cap, rfl, hnc, hcm⟩

theorem Ints.past {w w' : World} {B n g : Nat} {A : Option Addr} {xs : Nat → Int} (h : Ints w B A n xs) (hA : ∀ b o, A = some ⟨b, o, none⟩ → g < b) (hg : w.grownBy w' (some g)) (hB : B ≤ w.heap.size) : Ints w' w'.heap.size A n xs := by
  intro hn
  obtain ⟨b, o, e, hb, hc⟩ := h hn
  have hgb := hA b o e
  have hz := hg.size
  exact ⟨b, o, e, by omega, fun j hj => (World.cell?_of_block (a := ⟨b, o + j, none⟩) (hg.block b (by omega) (fun e => by injection e with e; omega))).trans (hc j hj)⟩
theorem put_keep {cs : Array Value} {i j : Nat} {u : Value} (h : i ≠ j) : (cs.setIfInBounds i u)[j]? = cs[j]? := by simp [Array.getElem?_setIfInBounds, h]
/-- A store of a number into a row of numbers: still numbers. -/
theorem ints_put {cs : Array Value} {m : Nat} {zs : Nat → Int} (h : ∀ j, j < m → cs[j]? = some (.int .i64 (zs j))) (i : Nat) (x : Int) :
    ∀ j, j < m → (cs.setIfInBounds i (.int .i64 x))[j]? = some (.int .i64 (if j = i then x else zs j)) := by
  intro j hj
  have hlt : j < cs.size := (Array.getElem?_eq_some_iff.1 (h j hj)).1
  by_cases e : j = i
  · subst e; simp [Array.getElem?_setIfInBounds, hlt]
  · simp [Array.getElem?_setIfInBounds, e, Ne.symm e, h j hj]
/-- The cells of a list of numbers. -/
theorem cells_of {w : World} {base : Nat} {e : TypeId} {size : Nat} {v : Value} {n : Nat} {zs : List Int} (h : w.ownsRow base e size v n (zs.map (Value.int .i64))) : zs.length = n * size ∧ ∀ j, j < n * size → (zs.map (Value.int .i64))[j]? = some (.int .i64 (zs.getD j 0)) := by
  have hl := h.1
  rw [List.length_map] at hl
  refine ⟨hl, fun j hj => ?_⟩
  rw [List.getElem?_map, List.getElem?_eq_getElem (by omega)]
  simp [List.getD, List.getElem?_eq_getElem (show j < zs.length by omega)]
end Go.Proofs.YtfllbhgngolfnaaDoor
