/- Regions that draw their order, whose operations read what is old, or call what makes new memory alone. -/
import Derived.Test.YtfllbhgngolfnaaDoorMem
namespace Go.Proofs.YtfllbhgngolfnaaDoor
open Go.RowKit

/-- The worlds in which all that lay in X lies as it lay. -/
structure Over (X : World) where
  w : World
  ok : Below X.heap.size X w
instance over_some (X : World) : Nonempty (Over X) := ⟨⟨X, Below.refl _ _⟩⟩
theorem wp_region_over {P : Program} {id : Nat} {Q : Exit → Act → World → Prop} {a : Act} {w : World} {l : List Oper} (hm : P.follows .mixedOrders = true) (hB : Region.lexB .any l.toArray = true)
    (h : wpQuiet P l.toArray (fun w' => ∃ u : Over w, w' = u.w) (fun a' => ∀ w', (∃ u : Over w, w' = u.w) → Q .normal a' w') l a) : (Code.region id l.toArray true).wp P Q a w :=
  wp_region_quiet (C := fun w' => ∃ u : Over w, w' = u.w) hm hB ⟨⟨_, (Below.refl _ _).drew⟩, rfl⟩ (by simpa using h)
theorem over_call {P : Program} {f : FuncId} {args : Array Value} {X : World} {u : Over X} {v : Value}
    (h : Calls P f args u.w fun e w' => e = .returned v ∧ Below u.w.heap.size u.w w') : Calls P f args u.w fun e w'' => e = .returned v ∧ ∃ u' : Over X, w'' = u'.w :=
  h.mono fun _ w' ⟨he, hb⟩ => ⟨he, ⟨w', u.ok.trans (hb.mono u.ok.size)⟩, rfl⟩
theorem over_same {P : Program} {f : FuncId} {args : Array Value} {X : World} {u : Over X} {v : Value}
    (h : Calls P f args u.w fun e w' => e = .returned v ∧ u.w = w') : Calls P f args u.w fun e w'' => e = .returned v ∧ ∃ u' : Over X, w'' = u'.w :=
  h.mono fun _ _ ⟨he, hb⟩ => ⟨he, u, hb.symm⟩
theorem Over.cell {X : World} (u : Over X) {p : Addr} {v : Value} (hp : p.block < X.heap.size) (h : X.cell? p = some v) : u.w.cell? p = some v := (u.ok.cell hp).trans h
end Go.Proofs.YtfllbhgngolfnaaDoor
