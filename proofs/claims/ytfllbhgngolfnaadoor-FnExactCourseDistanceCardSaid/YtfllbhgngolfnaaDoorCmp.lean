/- slices.Compact over points: whether something is left out. -/
import Derived.Test.YtfllbhgngolfnaaDoorSta
import Derived.Laws.IdiomCopy
set_option linter.unusedSimpArgs false
set_option linter.unusedVariables false
namespace Go.Proofs.YtfllbhgngolfnaaDoor
open Go.RowKit

theorem wp_still {P : Program} {id : Nat} {Q : Exit → Act → World → Prop} {a : Act} {w : World} {l : List Oper} (hm : P.follows .mixedOrders = true) (hB : Region.lexB .any l.toArray = true)
    (h : ∀ W, W = w.drew → wpStill P l.toArray W (fun a' => Q .normal a' W) l a) : (Code.region id l.toArray true).wp P Q a w :=
  wp_region_still_lit hm hB (h _ rfl)
/-- Clearing a part of a row of points. -/
theorem run_clear_pts (w : World) (b o n c : Nat) (hn : 0 < n) (hc : ∀ j, j < n * 2 → (w.cell? ⟨b, o + j, none⟩).isSome = true) (hf : ∀ j, j < n * 2 → w.frozen? ⟨b, o + j, none⟩ = false) (ty : TypeId) :
    (Builtin.clear_ #[53] ty #[.slice (some ⟨b, o, none⟩) n c]).run Tryd.prog w = .ok (.tuple #[]) (w.setCells b o (List.replicate (n * 2) (.int .i64 0))) := by
  have hzc : (Builtin.zeroCells #[.int .i64 0, .int .i64 0] n).toList = List.replicate (n * 2) (Value.int .i64 0) := by
    simp [Builtin.zeroCells]
    apply List.ext_getElem
    · simp
    · intro i h1 h2
      simp
      have : i % 2 = 0 ∨ i % 2 = 1 := by omega
      rcases this with h | h <;> simp [h]
  have hst := run_storeCells_cells (P := Tryd.prog) b o (List.replicate (n * 2) (.int .i64 0)) 0 w (by simpa using hc) (by simpa using hf) (by intro v hv'; rw [List.eq_of_mem_replicate hv']; rfl)
  simp only [Nat.add_zero] at hst
  obtain ⟨m, rfl⟩ : ∃ m, n = m + 1 := ⟨n - 1, by omega⟩
  have hv := Tryd.zeroValue32
  have ht := Tryd.underlying53
  simp [Builtin.clear_, run_underlying ht]
  rw [show (Value.agg #[Value.int IntKind.i64 0, Value.int IntKind.i64 0]).cells = #[Value.int IntKind.i64 0, Value.int IntKind.i64 0] from rfl, hzc, hst]
  rfl
theorem Whole.setCells {g : Nat} {t : TypeId} : ∀ (vs : List Value) (o : Nat) (w : World) (cs : Array Value), Whole w g t cs → ∃ cs', Whole (w.setCells g o vs) g t cs'
  | [], _, _, cs, h => ⟨cs, h⟩
  | v :: r, o, w, cs, h => Whole.setCells r (o + 1) _ _ (h.put o v)
theorem below_setCells {g B : Nat} (hg : B ≤ g) : ∀ (vs : List Value) (o : Nat) (a w : World), Below B a w → Below B a (w.setCells g o vs)
  | [], _, _, _, h => h
  | v :: r, o, a, w, h => below_setCells hg r (o + 1) a _ (h.setCell (p := ⟨g, o, none⟩) hg v)

/-- Are the points k - 1 and k the same? -/
def samP (xs : Nat → Int) (k : Nat) : Bool := xs (k * 2) == xs ((k - 1) * 2) && xs (k * 2 + 1) == xs ((k - 1) * 2 + 1)
/-- Does each of the first k points differ from the one ahead of it? -/
def difB (xs : Nat → Int) : Nat → Bool
  | 0 => true
  | k + 1 => difB xs k && (decide (k = 0) || !samP xs k)
theorem difB_no {xs : Nat → Int} {i : Nat} (h0 : i ≠ 0) (h : samP xs i = true) : ∀ k, i < k → difB xs k = false := by
  intro k
  induction k with
  | zero => intro h; omega
  | succ k ih =>
    intro h1
    unfold difB
    by_cases e : i = k
    · subst e; simp [h, h0]
    · rw [ih (by omega)]; rfl
/-- Cells that hold numbers. -/
def NumC (cur : Array Value) (m : Nat) : Prop := ∀ j, j < m → ∃ i : Int, cur[j]? = some (.int .i64 i)
theorem NumC.put {cur : Array Value} {m : Nat} (h : NumC cur m) (i : Nat) (x : Int) : NumC (cur.setIfInBounds i (.int .i64 x)) m := by
  intro j hj
  obtain ⟨y, hy⟩ := h j hj
  by_cases e : j = i
  · subst e
    exact ⟨x, by have := (Array.getElem?_eq_some_iff.1 hy).1; simp [Array.getElem?_setIfInBounds, this]⟩
  · exact ⟨y, by simp [Array.getElem?_setIfInBounds, Ne.symm e, hy]⟩


set_option maxRecDepth 100000 in
set_option maxHeartbeats 8000000 in
theorem compact_any (g n cp : Nat) (xs : Nat → Int) (cur : Array Value) (v : Bool) (hv : difB xs n = v) (w : World) (hW : Whole w g 32 cur) (hc : ∀ j, j < n * 2 → cur[j]? = some (.int .i64 (xs j))) (hn2 : 2 ≤ n) (hn : n ≤ 1048580) (hcp : n ≤ cp) (hcm : cp ≤ maxLen) :
    Calls Tryd.prog 38 #[.slice (some ⟨g, 0, none⟩) n cp] w fun e w' => ∃ m : Nat, e = .returned (.slice (some ⟨g, 0, none⟩) m cp) ∧ ((m : Int) == (n : Int)) = v ∧ m ≤ n ∧ Below g w w' := by
  have hnum : NumC cur (n * 2) := fun j hj => ⟨_, hc j hj⟩
  replace hW := Lib.hid hW
  replace hc := Lib.hid hc
  replace hv := Lib.hid hv
  replace hnum := Lib.hid hnum
  simp only [maxLen] at hcm
  go_enter Tryd.func38, Tryd.ntmps38
  go_wp2_with fail
  go_loopw [3] (fun v3 wr => ∃ k : Nat, 1 ≤ k ∧ k ≤ n ∧ v3 = .int .i64 k ∧ Hid (difB xs k = true) ∧ Hid (Whole wr g 32 cur) ∧ Hid (Below g w wr)) (fun v3 _ => (n - intOf v3).toNat)
  case atStart => exact ⟨1, by omega, by omega, rfl, Lib.hid rfl, hW, Lib.hid (Below.refl _ _)⟩
  case round =>
    obtain ⟨k, hk1, hkn, rfl, hdif, hWr, hbel⟩ := hrel
    by_cases hlt : k < n
    · obtain ⟨k, rfl⟩ : ∃ k', k = k' + 1 := ⟨k - 1, by omega⟩
      clear hk1
      have hwr : IntKind.i64.wrap (k : Int) = k := IntWalk.i64_in _ (by omega)
      have y0 : wr.cell? ⟨g, (k + 1) * 2, none⟩ = some (.int .i64 (xs ((k + 1) * 2))) := (hWr.out.cell _).trans (hc.out _ (by omega))
      have y1 : wr.cell? ⟨g, (k + 1) * 2 + 1, none⟩ = some (.int .i64 (xs ((k + 1) * 2 + 1))) := (hWr.out.cell _).trans (hc.out _ (by omega))
      have y2 : wr.cell? ⟨g, k * 2, none⟩ = some (.int .i64 (xs (k * 2))) := (hWr.out.cell _).trans (hc.out _ (by omega))
      have y3 : wr.cell? ⟨g, k * 2 + 1, none⟩ = some (.int .i64 (xs (k * 2 + 1))) := (hWr.out.cell _).trans (hc.out _ (by omega))
      have hs : samP xs (k + 1) = (xs ((k + 1) * 2) == xs (k * 2) && xs ((k + 1) * 2 + 1) == xs (k * 2 + 1)) := rfl
      have hop := fun W => eqPt (xs ((k + 1) * 2)) (xs ((k + 1) * 2 + 1)) (xs (k * 2)) (xs (k * 2 + 1)) W
      rw [← hs] at hop
      generalize xs ((k + 1) * 2) = a at *
      generalize xs ((k + 1) * 2 + 1) = b at *
      generalize xs (k * 2) = c at *
      generalize xs (k * 2 + 1) = d at *
      have hst : difB xs (k + 1 + 1) = (difB xs (k + 1) && (decide (k + 1 = 0) || !samP xs (k + 1))) := rfl
      have hno := difB_no (xs := xs) (i := k + 1) (by omega)
      rw [hdif.out] at hst
      generalize samP xs (k + 1) = sv at *
      clear hs
      replace hst := Lib.hid hst
      replace hno := Lib.hid hno
      have hgl := Lib.hid hWr.out.lt
      have z0 : ∀ u : Over wr, u.w.cell? ⟨g, (k + 1) * 2, none⟩ = some (.int .i64 a) := fun u => u.cell hgl.out y0
      have z1 : ∀ u : Over wr, u.w.cell? ⟨g, (k + 1) * 2 + 1, none⟩ = some (.int .i64 b) := fun u => u.cell hgl.out y1
      have z2 : ∀ u : Over wr, u.w.cell? ⟨g, k * 2, none⟩ = some (.int .i64 c) := fun u => u.cell hgl.out y2
      have z3 : ∀ u : Over wr, u.w.cell? ⟨g, k * 2 + 1, none⟩ = some (.int .i64 d) := fun u => u.cell hgl.out y3
      clear y0 y1 y2 y3
      cases sv with
      | false =>
        go_wp2_with fail
        refine wp_region_over (by kernel_rfl) (by kernel_rfl) ?_
        repeat (go_big_quiet_step (fail))
        refine wpQuiet_nil ?_
        rintro _ ⟨u, rfl⟩
        clear z0 z1 z2 z3 hop
        go_wp2
        go_roundw
        case rel => exact ⟨k + 2, by omega, by omega, by go_num, Lib.hid (by rw [hst.out]; simp), Lib.hid (hWr.out.below u.ok hgl.out), Lib.hid (hbel.out.trans (u.ok.mono (by have := hgl.out; omega)))⟩
        case measure => simp [intOf]; omega
      | true =>
        have hvf : v = false := by rw [← hv.out]; exact hno.out rfl n (by omega)
        have hnc : ¬ (cp = k + 1) := by omega
        go_wp2_with fail
        refine wp_region_over (by kernel_rfl) (by kernel_rfl) ?_
        repeat (go_big_quiet_step (fail))
        refine wpQuiet_nil ?_
        rintro _ ⟨u, rfl⟩
        have hWu : Hid (∃ cur', Whole u.w g 32 cur' ∧ NumC cur' (n * 2)) := Lib.hid ⟨_, hWr.out.below u.ok hgl.out, hnum.out⟩
        have hbu : Hid (Below g w u.w) := Lib.hid (hbel.out.trans (u.ok.mono (by have := hgl.out; omega)))
        clear z0 z1 z2 z3 hop hbel hWr hgl
        generalize u.w = wu at *
        clear u
        go_wp2_with fail
        go_loopw [3, 5] (fun v3 v5 wx => ∃ kk k2 : Nat, v3 = .int .i64 kk ∧ v5 = .int .i64 k2 ∧ 1 ≤ k2 ∧ k + 1 ≤ kk ∧ kk < k + 1 + k2 ∧ k + 1 + k2 ≤ n ∧ Hid (∃ cur', Whole wx g 32 cur' ∧ NumC cur' (n * 2)) ∧ Hid (Below g w wx)) (fun v3 v5 _ => (n - intOf v5).toNat)
        case atStart => exact ⟨k + 1, 1, by go_num, rfl, by omega, by omega, by omega, by omega, hWu, hbu⟩
        case round =>
          obtain ⟨kk, k2, rfl, rfl, h1, h2, h3, h4, hWx, hbx⟩ := hrel
          clear hWu hbu
          obtain ⟨cur', hWx, hnx⟩ := hWx.out
          replace hWx := Lib.hid hWx
          replace hnx := Lib.hid hnx
          by_cases hlt2 : k + 1 + k2 < n
          · obtain ⟨k2, rfl⟩ : ∃ k', k2 = k' + 1 := ⟨k2 - 1, by omega⟩
            have hwr2 : IntKind.i64.wrap (k2 : Int) = k2 := IntWalk.i64_in _ (by omega)
            obtain ⟨a2, ha2⟩ := hnx.out (((k + 1) + (k2 + 1)) * 2) (by omega)
            obtain ⟨b2, hb2⟩ := hnx.out (((k + 1) + (k2 + 1)) * 2 + 1) (by omega)
            obtain ⟨c2, hc2⟩ := hnx.out (((k + 1) + k2) * 2) (by omega)
            obtain ⟨d2, hd2⟩ := hnx.out (((k + 1) + k2) * 2 + 1) (by omega)
            obtain ⟨p2, hp2⟩ := hnx.out (kk * 2) (by omega)
            obtain ⟨q2, hq2⟩ := hnx.out (kk * 2 + 1) (by omega)
            have hgl2 := Lib.hid hWx.out.lt
            have z0 : ∀ u : Over wr, u.w.cell? ⟨g, (k + 1) * 2 + (k2 + 1) * 2, none⟩ = some (.int .i64 a2) := fun u => u.cell hgl2.out ((hWx.out.cell _).trans (by rw [← Nat.add_mul]; exact ha2))
            have z1 : ∀ u : Over wr, u.w.cell? ⟨g, (k + 1) * 2 + (k2 + 1) * 2 + 1, none⟩ = some (.int .i64 b2) := fun u => u.cell hgl2.out ((hWx.out.cell _).trans (by rw [← Nat.add_mul]; exact hb2))
            have z2 : ∀ u : Over wr, u.w.cell? ⟨g, (k + 1) * 2 + k2 * 2, none⟩ = some (.int .i64 c2) := fun u => u.cell hgl2.out ((hWx.out.cell _).trans (by rw [← Nat.add_mul]; exact hc2))
            have z3 : ∀ u : Over wr, u.w.cell? ⟨g, (k + 1) * 2 + k2 * 2 + 1, none⟩ = some (.int .i64 d2) := fun u => u.cell hgl2.out ((hWx.out.cell _).trans (by rw [← Nat.add_mul]; exact hd2))
            have hop := fun W => eqPt a2 b2 c2 d2 W
            generalize (a2 == c2 && b2 == d2) = sv at *
            cases sv with
            | true =>
              go_wp2_with fail
              refine wp_region_over (by kernel_rfl) (by kernel_rfl) ?_
              repeat (go_big_quiet_step (fail))
              refine wpQuiet_nil ?_
              rintro _ ⟨u, rfl⟩
              clear z0 z1 z2 z3 hop
              go_wp2
              go_roundw
              case rel => exact ⟨kk, k2 + 2, rfl, by go_num, by omega, by omega, by omega, by omega, Lib.hid ⟨_, hWx.out.below u.ok hgl2.out, hnx.out⟩, Lib.hid (hbx.out.trans (u.ok.mono (by have := hgl2.out; omega)))⟩
              case measure => simp [intOf]; omega
            | false =>
              go_wp2_with fail
              refine wp_region_over (by kernel_rfl) (by kernel_rfl) ?_
              repeat (go_big_quiet_step (fail))
              refine wpQuiet_nil ?_
              rintro _ ⟨u, rfl⟩
              have hWu := hWx.out.below u.ok hgl2.out
              have x0 := z0 u
              have x1 := z1 u
              have x2 : u.w.cell? ⟨g, kk * 2, none⟩ = some (.int .i64 p2) := (hWu.cell _).trans hp2
              have x3 : u.w.cell? ⟨g, kk * 2 + 1, none⟩ = some (.int .i64 q2) := (hWu.cell _).trans hq2
              have f2 : u.w.frozen? ⟨g, kk * 2, none⟩ = false := hWu.frz _
              have f3 : u.w.frozen? ⟨g, kk * 2 + 1, none⟩ = false := hWu.frz _
              have hnew : Hid (∃ cur', Whole ((u.w.setCell ⟨g, kk * 2, none⟩ (.int .i64 a2)).setCell ⟨g, kk * 2 + 1, none⟩ (.int .i64 b2)) g 32 cur' ∧ NumC cur' (n * 2)) := Lib.hid ⟨_, (hWu.put _ _).put _ _, (hnx.out.put _ _).put _ _⟩
              have hbn : Hid (Below g w ((u.w.setCell ⟨g, kk * 2, none⟩ (.int .i64 a2)).setCell ⟨g, kk * 2 + 1, none⟩ (.int .i64 b2))) := Lib.hid (((hbx.out.trans (u.ok.mono (by have := hgl2.out; omega))).setCell (p := ⟨g, kk * 2, none⟩) (Nat.le_refl _) _).setCell (p := ⟨g, kk * 2 + 1, none⟩) (Nat.le_refl _) _)
              clear z0 z1 z2 z3 hop hWu
              go_wp2
              go_roundw
              case rel => exact ⟨kk + 1, k2 + 2, by go_num, by go_num, by omega, by omega, by omega, by omega, hnew, hbn⟩
              case measure => simp [intOf]; omega
          · have hend : k + 1 + k2 = n := by omega
            have hkn2 : ¬ (cp = kk) := by omega
            have hcl : ∀ ty, (Builtin.clear_ #[53] ty #[.slice (some ⟨g, kk * 2, none⟩) (n - kk) (cp - kk)]).run Tryd.prog wr = .ok (.tuple #[]) (wr.setCells g (kk * 2) (List.replicate ((n - kk) * 2) (.int .i64 0))) := fun ty =>
              run_clear_pts wr g (kk * 2) (n - kk) (cp - kk) (by omega) (fun j hj => by obtain ⟨y, hy⟩ := hnx.out (kk * 2 + j) (by omega); rw [hWx.out.cell, hy]; rfl) (fun j hj => hWx.out.frz _) ty
            have hbn := Lib.hid (below_setCells (Nat.le_refl g) (List.replicate ((n - kk) * 2) (.int .i64 0)) (kk * 2) w wr hbx.out)
            generalize wr.setCells g (kk * 2) (List.replicate ((n - kk) * 2) (.int .i64 0)) = w9 at *
            have hne : ¬ ((kk : Int) = n) := by omega
            replace hne := Lib.hid hne
            go_wp2
            go_ret
            exact ⟨kk, rfl, by rw [hvf]; simpa using hne.out, by omega, hbn.out⟩
    · obtain rfl : k = n := by omega
      go_wp2
      go_ret
      exact ⟨k, rfl, by rw [← hv.out, hdif.out]; simp, Nat.le_refl _, hbel.out⟩

end Go.Proofs.YtfllbhgngolfnaaDoor
