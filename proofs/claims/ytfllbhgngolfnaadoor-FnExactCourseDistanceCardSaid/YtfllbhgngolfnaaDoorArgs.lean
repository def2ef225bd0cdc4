/- What an argument that is a slice of structs of integers, or of integers, tells the walk. -/
import Derived.Test.YtfllbhgngolfnaaDoorMem
import Derived.Deep.Slices
import Derived.Deep.Fields
import Derived.ChangeSame
namespace Go.Proofs.YtfllbhgngolfnaaDoor
open Go.RowKit Go.ChangeShapes Go.WideShapes Go.Deep

section
variable {H : Type} {enc : TypeId × Value → H} {P : Program} {w : World} {base : Nat} {spare : Nat → Bool} {held : Bool}

theorem plain_of_cell {a : Addr} {v : Value} (h : w.cell? a = some v) : a = ⟨a.block, a.off, none⟩ ∧ a.block < w.heap.size := by
  obtain ⟨b, o, s⟩ := a
  unfold World.cell? at h
  simp only at h
  split at h
  · rename_i c t f hb
    have hl : b < w.heap.size := (Array.getElem?_eq_some_iff.1 hb).1
    cases s with
    | none => exact ⟨rfl, hl⟩
    | some x => simp at h
  · cases h

theorem ints_of_structs {t e : TypeId} {fs : Array Field} {fuel K : Nat} {A : Option Addr} {len cap : Nat} {x : DataW H × List MemPlace} (ht : P.underlying t = some (.slice e)) (he : P.underlying e = some (.struct fs))
    (hone : oneCellFields P fs = true) (hC : P.cellsOf e = K) (hK : fs.size = K) (hi : ∀ (j : Nat) (f : Field), fs[j]? = some f → P.underlying f.type = some (.int .i64))
    (h : DataW.trod enc P w base spare held fuel t [.slice A len cap] = some x) :
    len ≤ maxLen ∧ ∃ xs : Nat → Int, Ints w w.heap.size A (len * K) xs ∧ ∀ j, j < len * K → (Lit.int .i64 (xs j)).wf = true := by
  rcases open_slice ht h with ⟨h0, _⟩ | ⟨a, l, c, m, n, D, Pl, hcs, hb, hl, hm, hmm, hx, hel⟩
  · injection h0 with h0 _
    injection h0 with h1 h2 h3
    subst h2
    exact ⟨Nat.zero_le _, fun _ => 0, fun hn => by simp at hn, fun j hj => by simp at hj⟩
  · injection hcs with hcs _
    injection hcs with h1 h2 h3
    subst h1 h2 h3
    have hlm : len ≤ m := by rw [hmm]; split <;> omega
    have key : ∀ j, j < len * K → ∃ z : Int, w.cell? (a.add j) = some (.int .i64 z) ∧ (Lit.int .i64 z).wf = true := by
      intro j hj
      have hKp : 0 < K := by
        rcases Nat.eq_zero_or_pos K with h | h
        · subst h; simp at hj
        · exact h
      have hi1 : j / K < len := Nat.div_lt_of_lt_mul (by rw [Nat.mul_comm]; exact hj)
      have hj1 : j % K < K := Nat.mod_lt _ hKp
      obtain ⟨cs', hc, ht'⟩ := hel (j / K) (by omega)
      rw [hC] at hc
      obtain ⟨_, hcl, hat⟩ := World.cells?_some hc
      obtain ⟨ys, n', _, _, hlen, hyl, hf⟩ := DataW.trod_struct he ht'
      obtain ⟨f, hfj⟩ : ∃ f, fs[j % K]? = some f := ⟨fs[j % K]'(by omega), Array.getElem?_eq_getElem (by omega)⟩
      obtain ⟨ho, hk⟩ := hone_of hone _ f hfj
      have h1 := hf _ f hfj
      rw [ho, hk] at h1
      have hone' : (cs'.drop (j % K)).take 1 = [cs'[j % K]'(by omega)] := by
        rw [List.drop_eq_getElem_cons (by omega)]
        rfl
      rw [hone', List.getElem?_eq_getElem (by omega)] at h1
      obtain ⟨z, hz, _, hwf⟩ := DataW.trod_int (hi _ f hfj) h1
      refine ⟨z, ?_, hwf⟩
      have hcell := hat (j % K) hj1
      rw [Go.Deep.add_add, show j / K * K + j % K = j by rw [Nat.mul_comm]; exact Nat.div_add_mod j K] at hcell
      rw [hcell, List.getElem?_eq_getElem (by omega)]
      injection hz with hz _
      rw [hz]
    refine ⟨by omega, fun j => match w.cell? (a.add j) with | some (.int _ z) => z | _ => 0, fun hn => ?_, fun j hj => ?_⟩
    · obtain ⟨z, hz, _⟩ := key 0 hn
      have h0 : a.add 0 = a := by unfold Addr.add; simp
      rw [h0] at hz
      obtain ⟨e1, e2⟩ := plain_of_cell hz
      refine ⟨a.block, a.off, by rw [← e1], e2, fun j hj => ?_⟩
      obtain ⟨z, hz, _⟩ := key j hj
      have : a.add j = ⟨a.block, a.off + j, none⟩ := (congrArg (fun x : Addr => x.add j) e1).trans (Go.WideShapes.add_plain _ _ _)
      rw [this] at hz
      simp only [this, hz]
    · obtain ⟨z, hz, hwf⟩ := key j hj
      simp only [hz]; exact hwf

theorem ints_of_ints {t e : TypeId} {fuel : Nat} {A : Option Addr} {len cap : Nat} {x : DataW H × List MemPlace} (ht : P.underlying t = some (.slice e)) (he : P.underlying e = some (.int .i64)) (hC : P.cellsOf e = 1)
    (h : DataW.trod enc P w base spare held fuel t [.slice A len cap] = some x) :
    len ≤ maxLen ∧ ∃ xs : Nat → Int, Ints w w.heap.size A len xs ∧ ∀ j, j < len → (Lit.int .i64 (xs j)).wf = true := by
  rcases open_slice ht h with ⟨h0, _⟩ | ⟨a, l, c, m, n, D, Pl, hcs, hb, hl, hm, hmm, hx, hel⟩
  · injection h0 with h0 _
    injection h0 with h1 h2 h3
    subst h2
    exact ⟨Nat.zero_le _, fun _ => 0, fun hn => by simp at hn, fun j hj => by simp at hj⟩
  · injection hcs with hcs _
    injection hcs with h1 h2 h3
    subst h1 h2 h3
    have hlm : len ≤ m := by rw [hmm]; split <;> omega
    have key : ∀ j, j < len → ∃ z : Int, w.cell? (a.add j) = some (.int .i64 z) ∧ (Lit.int .i64 z).wf = true := by
      intro j hj
      obtain ⟨cs', hc, ht'⟩ := hel j (by omega)
      rw [hC, Nat.mul_one] at hc
      obtain ⟨_, hcl, hat⟩ := World.cells?_some hc
      obtain ⟨z, hz, _, hwf⟩ := DataW.trod_int he ht'
      refine ⟨z, ?_, hwf⟩
      have hcell := hat 0 (by omega)
      rw [Go.Deep.add_add, Nat.add_zero] at hcell
      rw [hcell, hz]; rfl
    refine ⟨by omega, fun j => match w.cell? (a.add j) with | some (.int _ z) => z | _ => 0, fun hn => ?_, fun j hj => ?_⟩
    · obtain ⟨z, hz, _⟩ := key 0 hn
      have h0 : a.add 0 = a := by unfold Addr.add; simp
      rw [h0] at hz
      obtain ⟨e1, e2⟩ := plain_of_cell hz
      refine ⟨a.block, a.off, by rw [← e1], e2, fun j hj => ?_⟩
      obtain ⟨z, hz, _⟩ := key j hj
      have : a.add j = ⟨a.block, a.off + j, none⟩ := (congrArg (fun x : Addr => x.add j) e1).trans (Go.WideShapes.add_plain _ _ _)
      rw [this] at hz
      simp only [this, hz]
    · obtain ⟨z, hz, hwf⟩ := key j hj
      simp only [hz]; exact hwf
end
end Go.Proofs.YtfllbhgngolfnaaDoor
