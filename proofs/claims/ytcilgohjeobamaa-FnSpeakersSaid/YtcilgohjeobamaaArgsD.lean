/- What an argument that is a list of demands tells the walk. -/
import Derived.Test.YtcilgohjeobamaaArgs
import Derived.Test.YtcilgohjeobamaaDem2
namespace Go.Proofs.Ytcilgohjeobamaa
open Go.RowKit Go.ChangeShapes Go.WideShapes Go.Deep

section
variable {H : Type} {enc : TypeId × Value → H} {P : Program} {w : World} {base : Nat} {spare : Nat → Bool} {held : Bool}

theorem dems_of {t e t0 te t1 : TypeId} {fs : Array Field} {f0 f1 : Field} {fuel : Nat} {A : Option Addr} {len cap : Nat} {x : DataW H × List MemPlace} (ht : P.underlying t = some (.slice e)) (he : P.underlying e = some (.struct fs))
    (h0 : fs[0]? = some f0) (h1 : fs[1]? = some f1) (e0 : f0.type = t0) (e1 : f1.type = t1) (o0 : f0.offset = 0) (o1 : f1.offset = 1) (hC : P.cellsOf e = 2) (hC0 : P.cellsOf t0 = 1) (hC1 : P.cellsOf t1 = 1)
    (ht0 : P.underlying t0 = some (.slice te)) (hte : P.underlying te = some (.int .i64)) (hCe : P.cellsOf te = 1) (ht1 : P.underlying t1 = some (.int .i64))
    (h : DataW.trod enc P w base spare held fuel t [.slice A len cap] = some x) :
    len ≤ maxLen ∧ ∃ (fa : Nat → Option Addr) (fl fc : Nat → Nat) (fx : Nat → Nat → Int) (o : Nat → Int), Dems w w.heap.size A len fa fl fc fx o := by
  rcases open_slice ht h with ⟨h0, _⟩ | ⟨a, l, c, m, n, D, Pl, hcs, hb, hl, hm, hmm, hx, hel⟩
  · injection h0 with h0 _
    injection h0 with h1 h2 h3
    subst h2
    exact ⟨Nat.zero_le _, fun _ => none, fun _ => 0, fun _ => 0, fun _ _ => 0, fun _ => 0, fun hn => by omega, fun i hi => by omega⟩
  · injection hcs with hcs _
    injection hcs with h1' h2 h3
    subst h1' h2 h3
    have hlm : len ≤ m := by rw [hmm]; split <;> omega
    have key : ∀ i, i < len → ∃ v : Option Addr × Nat × Nat × (Nat → Int) × Int, w.cell? (a.add (i * 2)) = some (.slice v.1 v.2.1 v.2.2.1) ∧ w.cell? (a.add (i * 2 + 1)) = some (.int .i64 v.2.2.2.2) ∧ Ints w w.heap.size v.1 v.2.1 v.2.2.2.1 ∧ v.2.1 ≤ v.2.2.1 ∧ v.2.1 ≤ maxLen := by
      intro i hi
      obtain ⟨cs', hc, ht'⟩ := hel i (by omega)
      rw [hC] at hc
      obtain ⟨_, hcl, hat⟩ := World.cells?_some hc
      obtain ⟨ys, n', _, _, hlen, hyl, hf⟩ := DataW.trod_struct he ht'
      have q0 := hf 0 f0 h0
      have q1 := hf 1 f1 h1
      rw [e0, o0, hC0] at q0
      rw [e1, o1, hC1] at q1
      have r0 : (cs'.drop 0).take 1 = [cs'[0]'(by omega)] := by
        rw [List.drop_eq_getElem_cons (by omega)]
        rfl
      have r1 : (cs'.drop 1).take 1 = [cs'[1]'(by omega)] := by
        rw [List.drop_eq_getElem_cons (by omega)]
        rfl
      have hfs : 1 < fs.size := (Array.getElem?_eq_some_iff.1 h1).1
      rw [r0, List.getElem?_eq_getElem (by omega)] at q0
      rw [r1, List.getElem?_eq_getElem (by omega)] at q1
      obtain ⟨z, hz, _, _⟩ := DataW.trod_int ht1 q1
      injection hz with hz _
      have c0 := hat 0 (by omega)
      have c1 := hat 1 (by omega)
      rw [Go.Deep.add_add, List.getElem?_eq_getElem (by omega)] at c0 c1
      rw [hz] at c1
      rcases open_slice ht0 q0 with ⟨g0, _⟩ | ⟨a', l', c', m', n'', D', Pl', g0, _, gl, gm, _, _, _⟩
      · injection g0 with g0 _
        rw [g0] at c0
        exact ⟨(none, 0, 0, fun _ => 0, z), c0, c1, fun hn => by simp at hn, Nat.le_refl _, Nat.zero_le _⟩
      · injection g0 with g0 _
        rw [g0] at c0 q0
        obtain ⟨hmx, xs, hI, _⟩ := ints_of_ints ht0 hte hCe q0
        exact ⟨(some a', l', c', xs, z), c0, c1, hI, gl, hmx⟩
    obtain ⟨V, hV⟩ := choose_lt (α := Option Addr × Nat × Nat × (Nat → Int) × Int) key
    refine ⟨by omega, fun i => (V i).1, fun i => (V i).2.1, fun i => (V i).2.2.1, fun i => (V i).2.2.2.1, fun i => (V i).2.2.2.2, fun hn => ?_, fun i hi => ?_⟩
    · obtain ⟨hz, _⟩ := hV 0 hn
      have h0 : a.add (0 * 2) = a := by unfold Addr.add; simp
      rw [h0] at hz
      obtain ⟨p1, p2⟩ := plain_of_cell hz
      refine ⟨a.block, a.off, by rw [← p1], p2, fun i hi => ?_⟩
      obtain ⟨z0, z1, _⟩ := hV i hi
      have k0 : a.add (i * 2) = ⟨a.block, a.off + i * 2, none⟩ := (congrArg (fun x : Addr => x.add (i * 2)) p1).trans (Go.WideShapes.add_plain _ _ _)
      have k1 : a.add (i * 2 + 1) = ⟨a.block, a.off + i * 2 + 1, none⟩ := (congrArg (fun x : Addr => x.add (i * 2 + 1)) p1).trans (Go.WideShapes.add_plain _ _ _)
      rw [k0] at z0
      rw [k1] at z1
      exact ⟨z0, z1⟩
    · obtain ⟨_, _, z2, z3, z4⟩ := hV i hi
      exact ⟨z2, z3, z4⟩
end
end Go.Proofs.Ytcilgohjeobamaa
