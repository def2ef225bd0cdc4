/- Draws of which only the range matters: a number of the source, one out of a literal list. -/
import Derived.Test.YtghpaegabppeaaaFrom
namespace Go.Proofs.Ytghpaegabppeaaa
open Go.RowKit

def SrcX (w : World) (B g m : Nat) (bs : Nat → Int) : Prop := ∃ st, Src w B g m bs st
theorem SrcX.dN {w : World} {B g m : Nat} {bs : Nat → Int} (h : SrcX w B g m bs) (k : Nat) : SrcX (w.drewN k) B g m bs := h
theorem SrcX.d1 {w : World} {B g m : Nat} {bs : Nat → Int} (h : SrcX w B g m bs) : SrcX w.drew B g m bs := h
theorem SrcX.lt {w : World} {B g m : Nat} {bs : Nat → Int} (h : SrcX w B g m bs) : g < w.heap.size := by
  obtain ⟨st, A, c, h1, _⟩ := h
  exact h1.lt
theorem SrcX.new {w : World} {B g m : Nat} {bs : Nat → Int} (h : SrcX w B g m bs) (o : Obj) : SrcX (w.alloc o) B g m bs := by
  have hl := h.lt
  obtain ⟨st, h⟩ := h
  exact ⟨st, h.keepOnly (World.grownBy_alloc w o none) (fun k e => by cases e)⟩
theorem SrcX.only {w w' : World} {B g m : Nat} {bs : Nat → Int} {row : Option Nat} (h : SrcX w B g m bs) (hb : w.grownBy w' row) (hr : ∀ k, row = some k → g < k) : SrcX w' B g m bs := by
  obtain ⟨st, h⟩ := h
  exact ⟨st, h.keepOnly hb hr⟩
theorem nextR (n : Int) (w : World) (B g m : Nat) (bs : Nat → Int) (h : SrcX w B g m bs) (h1 : 1 ≤ n) (h2 : n ≤ 9223372036854775807) :
    Calls Try.prog 53 #[.pointer (some ⟨g, 0, none⟩), .int .i64 n] w fun e w' => ∃ r : Int, e = .returned (.int .i64 r) ∧ 0 ≤ r ∧ r < n ∧ SrcX w' B g m bs ∧ w.grownBy w' (some g) := by
  obtain ⟨st, h⟩ := h
  refine (next_any n w B g m bs st h h2).mono ?_
  rintro e w' ⟨rfl, h3, h4⟩
  have := nextV_bd n m bs st h1
  exact ⟨_, rfl, this.1, this.2, ⟨_, h3⟩, h4⟩
theorem fromR (A : Option Addr) (m c : Nat) (bs : Nat → Int) (w : World) (B : Nat) (hc : Nums .u8 w B A m bs) (hB : B ≤ w.heap.size) (hm : m ≤ 100000) (hb : ∀ j, 0 ≤ bs j ∧ bs j ≤ 255) :
    Calls Try.prog 50 #[.slice A m c] w fun e w' => e = .returned (.pointer (some ⟨w.heap.size, 0, none⟩)) ∧ SrcX w' B w.heap.size m bs ∧ Below w.heap.size w w' :=
  (from_any A m c bs w B hc hB hm hb).mono fun _ _ ⟨h1, h2, h3⟩ => ⟨h1, ⟨_, h2⟩, h3⟩

theorem u8_bd {n : Int} (h : (Lit.int .u8 n).wf = true) : 0 ≤ n ∧ n ≤ 255 := by
  simp [Lit.wf, IntKind.min, IntKind.max, IntKind.signed, IntKind.bits] at h
  omega
/-- The code that came in, read. -/
theorem code_of {w : World} {a : Option Addr} {len cap : Nat} {zs : List Int} (h : (a = none ∧ len = 0 ∧ cap = 0 ∧ zs = []) ∨
    ∃ x, a = some x ∧ len ≤ cap ∧ cap ≤ maxLen ∧ zs.length = cap ∧ (∀ i, i < zs.length → w.cell? (x.add i) = some (.int .u8 (zs.getD i 0))) ∧ ∀ n ∈ zs, (Lit.int .u8 n).wf = true) :
    Nums .u8 w w.heap.size a len (fun j => zs.getD j 0) ∧ (∀ j, 0 ≤ zs.getD j 0 ∧ zs.getD j 0 ≤ 255) := by
  rcases h with ⟨rfl, rfl, rfl, rfl⟩ | ⟨x, rfl, h1, h2, h3, h4, h5⟩
  · exact ⟨fun h => by omega, fun j => by simp⟩
  · refine ⟨fun hn => ⟨x, rfl, ?_, fun j hj => h4 j (by omega)⟩, fun j => ?_⟩
    · have hc := h4 0 (by omega)
      have : x.add 0 = x := by unfold Addr.add; simp
      rw [this] at hc
      by_cases hx : x.block < w.heap.size
      · exact hx
      · simp [World.cell?, Array.getElem?_eq_none (Nat.le_of_not_lt hx)] at hc
    · by_cases hj : j < zs.length
      · have : zs.getD j 0 = zs[j] := by simp [List.getD, List.getElem?_eq_getElem hj]
        rw [this]
        exact u8_bd (h5 _ (List.getElem_mem _))
      · have : zs.getD j 0 = 0 := by simp [List.getD, List.getElem?_eq_none (Nat.le_of_not_lt hj)]
        rw [this]; omega
theorem Whole.pick {w : World} {g : Nat} {t : TypeId} {cs : Array Value} (h : Whole w g t cs) (xs : List Int) (hx : cs = (xs.map (Value.int .i64)).toArray) (k : Int) (k0 : 0 ≤ k) (k1 : k < xs.length) :
    ∃ x, x ∈ xs ∧ w.cell? ⟨g, k.toNat, none⟩ = some (.int .i64 x) := by
  subst hx
  refine ⟨xs[k.toNat]'(by omega), List.getElem_mem _, ?_⟩
  rw [h.cell]
  simp





def InR (lo hi r : Int) : Prop := lo ≤ r ∧ r ≤ hi

theorem results_four {fn : Func} {t u v x : Tmp} (h : fn.results = #[.tmp t, .tmp u, .tmp v, .tmp x]) (tmps : Array Value) (P : Program) (w : World) :
    (results fn tmps).run P w = .ok (.tuple #[tmps.getD t undef, tmps.getD u undef, tmps.getD v undef, tmps.getD x undef]) w := by simp [results, h]
end Go.Proofs.Ytghpaegabppeaaa
