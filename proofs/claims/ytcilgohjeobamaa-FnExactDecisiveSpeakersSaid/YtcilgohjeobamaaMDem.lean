/- Demands marked: a copy of demands is written over, and nothing else. -/
import Derived.Test.YtcilgohjeobamaaSpk2
import Derived.Test.YtcilgohjeobamaaMStatement
set_option linter.unusedSimpArgs false
set_option linter.unusedVariables false
namespace Go.Proofs.Ytcilgohjeobamaa
open Go.RowKit

/-- What is left of a copy while it is marked: its slices, and the rows that are not marked yet. -/
def MarkD (w : World) (g n : Nat) (fb fl : Nat → Nat) (fx : Nat → Nat → Int) (k : Nat) : Prop :=
  (∃ cs, Whole w g 33 cs ∧ cs.size = n * 2 ∧ ∀ i, i < n → cs[i * 2]? = some (.slice (some ⟨fb i, 0, none⟩) (fl i) (fl i))) ∧
  ∀ i, k ≤ i → i < n → Nrow w (fb i) (fl i) (fx i)
/-- Only blocks of [g, hi) have turned. -/
def Mid (g hi : Nat) (w w' : World) : Prop := Below g w w' ∧ ∀ b, hi ≤ b → b < w.heap.size → w'.heap[b]? = w.heap[b]?
theorem Mid.row {g hi : Nat} {w w' : World} {b n : Nat} {A : Option Addr} {xs : Nat → Int} (h : Mid g hi w w') (hr : Row w b A n xs) (hb : b < g ∨ hi ≤ b) : Row w' b A n xs := fun hn => by
  obtain ⟨o, e, hl, hc⟩ := hr hn
  have hbb : w'.heap[b]? = w.heap[b]? := by
    rcases hb with hb | hb
    · exact h.1.block b hb
    · exact h.2 b hb hl
  have hsz := h.1.size
  refine ⟨o, e, by omega, fun j hj => ?_⟩
  obtain ⟨h1, h2⟩ := hc j hj
  rw [World.cell?_of_block (a := ⟨b, o + j, none⟩) hbb]
  refine ⟨h1, ?_⟩
  rw [← h2]
  unfold World.frozen?
  simp only [hbb]
theorem Mid.row2 {g hi : Nat} {w w' : World} {b n : Nat} {A : Option Addr} {xs : Nat → Int} (h : Mid g hi w w') (hr : Row w b A n xs) (hb : n = 0 ∨ b < g ∨ hi ≤ b) : Row w' b A n xs := by
  rcases hb with h0 | hb
  · exact fun hn => by omega
  · exact h.row hr hb
theorem DemC.grown {w w' : World} {g n k b : Nat} {fb fl : Nat → Nat} {fx : Nat → Nat → Int} {o : Nat → Int} (h : DemC w g n fb fl fx o k) (hg : w.grownBy w' (some b)) (hb : b < g) : DemC w' g n fb fl fx o k := by
  obtain ⟨⟨cs, h1, h2⟩, h3⟩ := h
  refine ⟨⟨cs, h1.grown hg (fun e => by injection e with e; omega), h2⟩, fun i hi => ?_⟩
  obtain ⟨q1, ⟨cs', q2, q3⟩, q4⟩ := h3 i hi
  exact ⟨q1, ⟨cs', q2.grown hg (fun e => by injection e with e; omega), q3⟩, q4⟩
set_option maxRecDepth 100000 in
set_option maxHeartbeats 8000000 in
theorem markDemandS_any (g n hi : Nat) (fb fl : Nat → Nat) (fx : Nat → Nat → Int) (o : Nat → Int) (k0 : Int) (w : World) (hC : DemC w g n fb fl fx o n) (hgh : g < hi) (hhi : ∀ i, i < n → fb i < hi) (hfl : ∀ i, i < n → fl i ≤ 1048576) (hn : n ≤ 1048576) (h0 : 0 ≤ k0) (h1 : k0 ≤ 1099511627776) :
    Calls Try.prog 44 #[.slice (some ⟨g, 0, none⟩) n n, .int .i64 k0] w fun e w' => ∃ r : Int, e = .returned (.int .i64 r) ∧ 0 ≤ r ∧ Mid g hi w w' := by
  have hlt : ∀ i, i < n → g < fb i := fun i hi => (hC.2 i hi).1
  have hdis : ∀ i j, i < n → j < i → fb j < fb i := fun i j hi hj => (hC.2 i hi).2.2 j hj
  have hM0 : MarkD w g n fb fl fx 0 := by
    obtain ⟨⟨cs, c1, c2, c3⟩, c4⟩ := hC
    exact ⟨⟨cs, c1, c2, fun i hi => (c3 i hi).1⟩, fun i _ hi => (c4 i hi).2.1⟩
  have hM0' : Mid g hi w w := ⟨Below.refl _ _, fun _ _ _ => rfl⟩
  replace hlt := Lib.hid hlt
  replace hdis := Lib.hid hdis
  replace hhi := Lib.hid hhi
  replace hfl := Lib.hid hfl
  clear hC
  go_enter Try.func44, Try.ntmps44
  go_wp2_with fail
  go_loopw [1, 5] (fun v1 v5 wr => ∃ (k : Nat) (r : Int), k ≤ n ∧ v5 = .int .i64 k ∧ v1 = .int .i64 r ∧ 0 ≤ r ∧ r ≤ 1099511627776 + 1048577 * k ∧ MarkD wr g n fb fl fx k ∧ Mid g hi w wr) (fun v1 v5 _ => (n - intOf v5).toNat)
  case atStart => exact ⟨0, k0, by omega, rfl, rfl, h0, by omega, hM0, hM0'⟩
  case round =>
    obtain ⟨k, r, hk, rfl, rfl, r0, r1, hM, hMid⟩ := hrel
    clear hM0 hM0'
    by_cases hlt' : k < n
    · obtain ⟨⟨cs, c1, c2, c3⟩, c4⟩ := hM
      obtain ⟨rs, d1, d2, d3⟩ := c4 k (Nat.le_refl _) hlt'
      have hgk := hlt.out k hlt'
      have hhk := hhi.out k hlt'
      have hlk := hfl.out k hlt'
      have y0 := c1.cell (k * 2)
      rw [c3 k hlt'] at y0
      have hrow := Row.of_whole d1 d3
      have hd1 := d1.lt
      obtain ⟨F, hF⟩ : ∃ F, fl k = F := ⟨_, rfl⟩
      rw [hF] at y0 hrow hlk
      have hcall := markInt64S_any (some ⟨fb k, 0, none⟩) F F (fb k) (fx k) r wr hrow r0 (by omega)
      replace hcall := Lib.hid hcall
      replace hF := Lib.hid hF
      replace c3 := Lib.hid c3
      replace c4 := Lib.hid c4
      obtain ⟨gk, hgk2⟩ : ∃ gk, fb k = gk := ⟨_, rfl⟩
      rw [hgk2] at y0 hcall hgk hhk hd1
      replace hgk2 := Lib.hid hgk2
      clear hrow d1 d2 d3
      go_wp2_with fail
      refine hcall.out.mono ?_
      rintro e w1 ⟨rfl, -, hg1⟩
      have hz1 := hg1.size
      have c1' := c1.grown hg1 (fun e => by injection e with e; omega)
      have s1 := c1'.some_ (k * 2 + 1) (by omega)
      have f1 := c1'.frz (k * 2 + 1)
      have c4' : ∀ i, k + 1 ≤ i → i < n → Nrow (w1.setCell ⟨g, k * 2 + 1, none⟩ (.int .i64 (r + F * 1))) (fb i) (fl i) (fx i) := by
        intro i hi hin
        obtain ⟨cs', q1, q2⟩ := c4.out i (by omega) hin
        have hne := hdis.out i k hin (by omega)
        rw [hgk2.out] at hne
        exact Nrow.far ⟨cs', q1.grown hg1 (fun e => by injection e with e; omega), q2⟩ (by have := hlt.out i hin; simp; omega) _
      have hM' : MarkD (w1.setCell ⟨g, k * 2 + 1, none⟩ (.int .i64 (r + F * 1))) g n fb fl fx (k + 1) := by
        refine ⟨⟨_, c1'.put (k * 2 + 1) _, by simpa using c2, fun i hi => ?_⟩, c4'⟩
        rw [Array.getElem?_setIfInBounds, if_neg (by omega)]
        exact c3.out i hi
      have hMid' : Mid g hi w (w1.setCell ⟨g, k * 2 + 1, none⟩ (.int .i64 (r + F * 1))) := by
        refine ⟨(hMid.1.trans ⟨hg1.os, hg1.tape, hg1.output, hg1.size, fun b hb => hg1.block b (by omega) (fun e => by injection e with e; omega)⟩).setCell (Nat.le_refl _) _, fun b hb hbl => ?_⟩
        rw [Below.heap_setCell _ _ _ b (by simp; omega), hg1.block b (by have := hMid.1.size; omega) (fun e => by injection e with e; omega)]
        exact hMid.2 b hb hbl
      have hwr : IntKind.i64.wrap (r + F * 1) = r + F * 1 := by rw [IntKind.wrap_i64]; omega
      have hwr2 : IntKind.i64.wrap (r + F * 1 + 1) = r + F * 1 + 1 := by rw [IntKind.wrap_i64]; omega
      obtain ⟨rF, hrF⟩ : ∃ rF : Int, r + (F : Int) * 1 = rF := ⟨_, rfl⟩
      rw [hrF] at hM' hMid' hwr hwr2
      have hrb : 0 ≤ rF ∧ rF ≤ 1099511627776 + 1048577 * k + 1048576 := by omega
      replace hM' := Lib.hid hM'
      replace hMid' := Lib.hid hMid'
      rw [hrF]
      clear hrF c4' c1 c3 c4 hcall hMid hg1 r0 r1
      go_wp2
      go_roundw
      case rel => exact ⟨k + 1, rF + 1, by omega, by go_num, rfl, by omega, by omega, hM'.out, hMid'.out⟩
      case measure => simp [intOf]; omega
    · obtain rfl : k = n := by omega
      go_wp2
      go_ret
      exact ⟨r, rfl, r0, hMid⟩
end Go.Proofs.Ytcilgohjeobamaa
