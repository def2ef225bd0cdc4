/- What an argument that is a course tells the walk. -/
import Derived.Test.YtfllbhgngolfnaaDoorArgs
import Derived.Test.YtfllbhgngolfnaaDoorMks
set_option linter.unusedSimpArgs false
set_option linter.unusedVariables false
namespace Go.Proofs.YtfllbhgngolfnaaDoor
open Go.RowKit Go.ChangeShapes Go.WideShapes Go.Deep

instance : Inhabited MkV := ⟨⟨⟨#[]⟩, 0, 0, 0, 0⟩⟩
section
variable {H : Type} {enc : TypeId × Value → H} {w : World} {base : Nat} {spare : Nat → Bool} {held : Bool}
theorem cellsPt : Tryd.prog.cellsOf 23 = 2 := by kernel_rfl
theorem cellsLn : Tryd.prog.cellsOf 25 = 4 := by kernel_rfl
theorem cellsMk : Tryd.prog.cellsOf 51 = 5 := by kernel_rfl
theorem cellsCr : Tryd.prog.cellsOf 28 = 9 := by kernel_rfl
theorem cellsMs : Tryd.prog.cellsOf 26 = 1 := by kernel_rfl
theorem cellsI : Tryd.prog.cellsOf 2 = 1 := by kernel_rfl
theorem cellsS : Tryd.prog.cellsOf 9 = 1 := by kernel_rfl
theorem split2 {l : List Value} {m n : Nat} {x y : List Value} (h1 : (l.drop 0).take m = x) (h2 : (l.drop m).take n = y) (hl : l.length = m + n) : l = x ++ y := by
  rw [List.drop_zero] at h1
  rw [List.take_of_length_le (by simp; omega)] at h2
  rw [← h1, ← h2, List.take_append_drop]
theorem pt_of {fuel : Nat} {l : List Value} {x : DataW H × List MemPlace} (h : DataW.trod enc Tryd.prog w base spare held fuel 23 l = some x) : ∃ a b : Int, l = [.int .i64 a, .int .i64 b] := by
  obtain ⟨ys, n', _, _, hlen, hyl, hf⟩ := DataW.trod_struct Tryd.underlying23 h
  rw [cellsPt] at hlen
  have q0 : DataW.trod enc Tryd.prog w base spare held n' 2 ((l.drop 0).take (Tryd.prog.cellsOf 2)) = ys[0]? := hf 0 _ rfl
  rw [cellsI] at q0
  have q1 : DataW.trod enc Tryd.prog w base spare held n' 2 ((l.drop 1).take (Tryd.prog.cellsOf 2)) = ys[1]? := hf 1 _ rfl
  rw [cellsI] at q1
  have hyl' : ys.length = 2 := hyl
  rw [List.getElem?_eq_getElem (by omega)] at q0 q1
  obtain ⟨a, ha, _⟩ := DataW.trod_int Tryd.underlying2 q0
  obtain ⟨b, hb, _⟩ := DataW.trod_int Tryd.underlying2 q1
  exact ⟨a, b, split2 ha hb hlen⟩
theorem ln_of {fuel : Nat} {l : List Value} {x : DataW H × List MemPlace} (h : DataW.trod enc Tryd.prog w base spare held fuel 25 l = some x) : ∃ a b c d : Int, l = [.int .i64 a, .int .i64 b, .int .i64 c, .int .i64 d] := by
  obtain ⟨ys, n', _, _, hlen, hyl, hf⟩ := DataW.trod_struct Tryd.underlying25 h
  rw [cellsLn] at hlen
  have q0 : DataW.trod enc Tryd.prog w base spare held n' 23 ((l.drop 0).take (Tryd.prog.cellsOf 23)) = ys[0]? := hf 0 _ rfl
  rw [cellsPt] at q0
  have q1 : DataW.trod enc Tryd.prog w base spare held n' 23 ((l.drop 2).take (Tryd.prog.cellsOf 23)) = ys[1]? := hf 1 _ rfl
  rw [cellsPt] at q1
  have hyl' : ys.length = 2 := hyl
  rw [List.getElem?_eq_getElem (by omega)] at q0 q1
  obtain ⟨a, b, ha⟩ := pt_of q0
  obtain ⟨c, d, hb⟩ := pt_of q1
  exact ⟨a, b, c, d, split2 ha hb hlen⟩
theorem mk_of {fuel : Nat} {l : List Value} {x : DataW H × List MemPlace} (h : DataW.trod enc Tryd.prog w base spare held fuel 51 l = some x) : ∃ v : MkV, l = [.string v.S, .int .i64 v.x, .int .i64 v.y, .int .i64 v.s, .int .i64 v.z] ∧ v.S.size ≤ maxLen := by
  obtain ⟨ys, n', _, _, hlen, hyl, hf⟩ := DataW.trod_struct Tryd.underlying51 h
  rw [cellsMk] at hlen
  have q0 : DataW.trod enc Tryd.prog w base spare held n' 9 ((l.drop 0).take (Tryd.prog.cellsOf 9)) = ys[0]? := hf 0 _ rfl
  rw [cellsS] at q0
  have q1 : DataW.trod enc Tryd.prog w base spare held n' 23 ((l.drop 1).take (Tryd.prog.cellsOf 23)) = ys[1]? := hf 1 _ rfl
  rw [cellsPt] at q1
  have q2 : DataW.trod enc Tryd.prog w base spare held n' 2 ((l.drop 3).take (Tryd.prog.cellsOf 2)) = ys[2]? := hf 2 _ rfl
  rw [cellsI] at q2
  have q3 : DataW.trod enc Tryd.prog w base spare held n' 2 ((l.drop 4).take (Tryd.prog.cellsOf 2)) = ys[3]? := hf 3 _ rfl
  rw [cellsI] at q3
  have hyl' : ys.length = 4 := hyl
  rw [List.getElem?_eq_getElem (by omega)] at q0 q1 q2 q3
  obtain ⟨S, hS, _, hm⟩ := DataW.trod_string Tryd.underlying9 q0
  obtain ⟨a, b, hp⟩ := pt_of q1
  obtain ⟨s, hs, _⟩ := DataW.trod_int Tryd.underlying2 q2
  obtain ⟨z, hz, _⟩ := DataW.trod_int Tryd.underlying2 q3
  have hz' : ((l.drop 3).drop 1).take 1 = [.int .i64 z] := by rw [List.drop_drop]; exact hz
  have e3 : l.drop 3 = [.int .i64 s, .int .i64 z] := split2 (l := l.drop 3) (m := 1) (n := 1) (by simpa using hs) hz' (by simp; omega)
  have hp' : ((l.drop 1).drop 2).take 2 = [.int .i64 s, .int .i64 z] := by rw [List.drop_drop, List.take_of_length_le (by simp; omega)]; exact e3
  have e1 : l.drop 1 = [.int .i64 a, .int .i64 b, .int .i64 s, .int .i64 z] := split2 (l := l.drop 1) (m := 2) (n := 2) (by simpa using hp) hp' (by simp; omega)
  have e1' : (l.drop 1).take 4 = [.int .i64 a, .int .i64 b, .int .i64 s, .int .i64 z] := by rw [List.take_of_length_le (by simp; omega)]; exact e1
  have e0 : l = [.string S, .int .i64 a, .int .i64 b, .int .i64 s, .int .i64 z] := split2 (m := 1) (n := 4) hS e1' (by omega)
  exact ⟨⟨S, a, b, s, z⟩, e0, hm⟩
theorem marks_of {fuel : Nat} {A : Option Addr} {len cap : Nat} {x : DataW H × List MemPlace} (h : DataW.trod enc Tryd.prog w base spare held fuel 26 [.slice A len cap] = some x) :
    len ≤ maxLen ∧ ∃ M : Nat → MkV, Mks w w.heap.size A len M ∧ ∀ j, j < len → (M j).S.size ≤ maxLen := by
  rcases open_slice Tryd.underlying26 h with ⟨h0, _⟩ | ⟨a, l, c, m, n, D, Pl, hcs, hb, hl, hm, hmm, hx, hel⟩
  · injection h0 with h0 _
    injection h0 with h1 h2 h3
    subst h2
    exact ⟨Nat.zero_le _, fun _ => ⟨⟨#[]⟩, 0, 0, 0, 0⟩, fun hn => by omega, fun j hj => by omega⟩
  · injection hcs with hcs _
    injection hcs with h1 h2 h3
    subst h1 h2 h3
    have hlm : len ≤ m := by rw [hmm]; split <;> omega
    have key : ∀ i, i < len → ∃ v : MkV, (w.cell? (a.add (i * 5)) = some (.string v.S) ∧ w.cell? (a.add (i * 5 + 1)) = some (.int .i64 v.x) ∧ w.cell? (a.add (i * 5 + 2)) = some (.int .i64 v.y) ∧ w.cell? (a.add (i * 5 + 3)) = some (.int .i64 v.s) ∧ w.cell? (a.add (i * 5 + 4)) = some (.int .i64 v.z)) ∧ v.S.size ≤ maxLen := by
      intro i hi
      obtain ⟨cs', hc, ht'⟩ := hel i (by omega)
      rw [cellsMk] at hc
      obtain ⟨_, hcl, hat⟩ := World.cells?_some hc
      obtain ⟨v, rfl, hv⟩ := mk_of ht'
      have c0 := hat 0 (by omega)
      have c1 := hat 1 (by omega)
      have c2 := hat 2 (by omega)
      have c3 := hat 3 (by omega)
      have c4 := hat 4 (by omega)
      rw [Go.Deep.add_add] at c0 c1 c2 c3 c4
      exact ⟨v, ⟨c0, c1, c2, c3, c4⟩, hv⟩
    obtain ⟨V, hV⟩ := choose_lt (α := MkV) key
    refine ⟨by omega, V, fun hn => ?_, fun j hj => (hV j hj).2⟩
    have hz := (hV 0 hn).1.1
    have h0 : a.add (0 * 5) = a := by unfold Addr.add; simp
    rw [h0] at hz
    obtain ⟨p1, p2⟩ := plain_of_cell hz
    refine ⟨a.block, a.off, by rw [← p1], p2, fun i hi => ?_⟩
    obtain ⟨z0, z1, z2, z3, z4⟩ := (hV i hi).1
    have kk : ∀ k, a.add k = ⟨a.block, a.off + k, none⟩ := fun k => (congrArg (fun x : Addr => x.add k) p1).trans (Go.WideShapes.add_plain _ _ _)
    rw [kk] at z0 z1 z2 z3 z4
    exact ⟨z0, z1, z2, z3, z4⟩
theorem course_of {fuel : Nat} {l : List Value} {x : DataW H × List MemPlace} (h : DataW.trod enc Tryd.prog w base spare held fuel 28 l = some x) :
    ∃ (a b c d e f g h : Int) (A : Option Addr) (n cp : Nat) (M : Nat → MkV), l = [.int .i64 a, .int .i64 b, .int .i64 c, .int .i64 d, .int .i64 e, .int .i64 f, .int .i64 g, .int .i64 h, .slice A n cp] ∧ n ≤ maxLen ∧ Mks w w.heap.size A n M ∧ ∀ j, j < n → (M j).S.size ≤ maxLen := by
  obtain ⟨ys, n', _, _, hlen, hyl, hf⟩ := DataW.trod_struct Tryd.underlying28 h
  rw [cellsCr] at hlen
  have q0 : DataW.trod enc Tryd.prog w base spare held n' 25 ((l.drop 0).take (Tryd.prog.cellsOf 25)) = ys[0]? := hf 0 _ rfl
  rw [cellsLn] at q0
  have q1 : DataW.trod enc Tryd.prog w base spare held n' 25 ((l.drop 4).take (Tryd.prog.cellsOf 25)) = ys[1]? := hf 1 _ rfl
  rw [cellsLn] at q1
  have q2 : DataW.trod enc Tryd.prog w base spare held n' 26 ((l.drop 8).take (Tryd.prog.cellsOf 26)) = ys[2]? := hf 2 _ rfl
  rw [cellsMs] at q2
  have hyl' : ys.length = 3 := hyl
  rw [List.getElem?_eq_getElem (by omega)] at q0 q1 q2
  obtain ⟨a, b, c, d, h1⟩ := ln_of q0
  obtain ⟨e, f, g, h, h2⟩ := ln_of q1
  have hs : ∃ A n cp, (l.drop 8).take 1 = [.slice A n cp] := by
    rcases open_slice Tryd.underlying26 q2 with ⟨h0, _⟩ | ⟨a, l', c, m, n, D, Pl, hcs, _⟩
    · exact ⟨_, _, _, h0⟩
    · exact ⟨_, _, _, hcs⟩
  obtain ⟨A, n, cp, h3⟩ := hs
  rw [h3] at q2
  obtain ⟨m1, M, m2, m3⟩ := marks_of q2
  have h3' : ((l.drop 4).drop 4).take 1 = [.slice A n cp] := by rw [List.drop_drop]; exact h3
  have e4 : l.drop 4 = [.int .i64 e, .int .i64 f, .int .i64 g, .int .i64 h, .slice A n cp] := split2 (l := l.drop 4) (m := 4) (n := 1) (by simpa using h2) h3' (by simp; omega)
  have e4' : (l.drop 4).take 5 = [.int .i64 e, .int .i64 f, .int .i64 g, .int .i64 h, .slice A n cp] := by rw [List.take_of_length_le (by simp; omega)]; exact e4
  have e0 : l = [.int .i64 a, .int .i64 b, .int .i64 c, .int .i64 d, .int .i64 e, .int .i64 f, .int .i64 g, .int .i64 h, .slice A n cp] := split2 (m := 4) (n := 5) h1 e4' (by omega)
  exact ⟨a, b, c, d, e, f, g, h, A, n, cp, M, e0, m1, m2, m3⟩
end
end Go.Proofs.YtfllbhgngolfnaaDoor
