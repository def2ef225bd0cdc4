/- The run of a log: the program's. -/
import Derived.Test.YtfckoeoohlgmiaaSig3
import Derived.Laws.NewBlocks
set_option linter.unusedSimpArgs false
set_option linter.unusedVariables false
namespace Go.Proofs.Ytfckoeoohlgmiaa
open Go.RowKit

theorem after_any (st si k t : Int) (w : World) (k0 : 1 ≤ k) (k1 : k ≤ 8) (t0 : 0 ≤ t) (t1 : t ≤ 1000000000) (s0 : 0 ≤ si) (s1 : si ≤ 1000000000) :
    Calls Try.prog 46 #[.agg #[.int .i64 st, .int .i64 si], .agg #[.int .i64 k, .int .i64 t]] w fun e w' => e = .returned (.tuple #[.agg #[.int .i64 (stepV st si k t).1.1, .int .i64 (stepV st si k t).1.2], .bool (stepV st si k t).2]) ∧ Below w.heap.size w w' := by
  obtain rfl | rfl | rfl | rfl | rfl | rfl | rfl | rfl : k = 1 ∨ k = 2 ∨ k = 3 ∨ k = 4 ∨ k = 5 ∨ k = 6 ∨ k = 7 ∨ k = 8 := by omega
  · exact after_1 st si t w t0 t1 s0 s1
  · exact after_2 st si t w t0 t1 s0 s1
  · exact after_3 st si t w t0 t1 s0 s1
  · exact after_4 st si t w t0 t1 s0 s1
  · exact after_5 st si t w t0 t1 s0 s1
  · exact after_6 st si t w t0 t1 s0 s1
  · exact after_7 st si t w t0 t1 s0 s1
  · exact after_8 st si t w t0 t1 s0 s1
theorem step_any (st wn mk k t : Int) (w : World) (k0 : 1 ≤ k) (k1 : k ≤ 8) (t0 : 0 ≤ t) (t1 : t ≤ 1000000000) (a0 : 0 ≤ wn) (a1 : wn ≤ 1000000000) (b0 : 0 ≤ mk) (b1 : mk ≤ 1000000000) :
    Calls Try.prog 45 #[.agg #[.int .i64 st, .int .i64 wn, .int .i64 mk], .agg #[.int .i64 k, .int .i64 t]] w fun e w' => e = .returned (.tuple #[.agg #[.int .i64 (refV st wn mk k t).1.1, .int .i64 (refV st wn mk k t).1.2.1, .int .i64 (refV st wn mk k t).1.2.2], .bool (refV st wn mk k t).2]) ∧ Below w.heap.size w w' := by
  obtain rfl | rfl | rfl | rfl | rfl | rfl | rfl | rfl : k = 1 ∨ k = 2 ∨ k = 3 ∨ k = 4 ∨ k = 5 ∨ k = 6 ∨ k = 7 ∨ k = 8 := by omega
  · exact step_1 st wn mk t w t0 t1 a0 a1 b0 b1
  · exact step_2 st wn mk t w t0 t1 a0 a1 b0 b1
  · exact step_3 st wn mk t w t0 t1 a0 a1 b0 b1
  · exact step_4 st wn mk t w t0 t1 a0 a1 b0 b1
  · exact step_5 st wn mk t w t0 t1 a0 a1 b0 b1
  · exact step_6 st wn mk t w t0 t1 a0 a1 b0 b1
  · exact step_7 st wn mk t w t0 t1 a0 a1 b0 b1
  · exact step_8 st wn mk t w t0 t1 a0 a1 b0 b1

/-- The state behind the first i signals, the program's. -/
def stA (xs : Nat → Int) : Nat → Int × Int
  | 0 => (0, 0)
  | i + 1 => (stepV (stA xs i).1 (stA xs i).2 (xs (i * 2)) (xs (i * 2 + 1))).1
def okA (xs : Nat → Int) (i : Nat) : Bool := (stepV (stA xs i).1 (stA xs i).2 (xs (i * 2)) (xs (i * 2 + 1))).2
/-- The reference's. -/
def stR (xs : Nat → Int) : Nat → Int × Int × Int
  | 0 => (0, 0, 0)
  | i + 1 => (refV (stR xs i).1 (stR xs i).2.1 (stR xs i).2.2 (xs (i * 2)) (xs (i * 2 + 1))).1
def okR (xs : Nat → Int) (i : Nat) : Bool := (refV (stR xs i).1 (stR xs i).2.1 (stR xs i).2.2 (xs (i * 2)) (xs (i * 2 + 1))).2
/-- How many from the beginning, below n, p lets by. -/
def lead (p : Nat → Bool) : Nat → Nat
  | 0 => 0
  | n + 1 => if lead p n = n ∧ p n = true then n + 1 else lead p n
theorem lead_le (p : Nat → Bool) : ∀ n, lead p n ≤ n
  | 0 => Nat.le_refl 0
  | n + 1 => by unfold lead; have := lead_le p n; split <;> omega
theorem lead_all {p : Nat → Bool} : ∀ {n}, (∀ i, i < n → p i = true) → lead p n = n
  | 0, _ => rfl
  | n + 1, h => by
    have e : lead p n = n := lead_all fun i hi => h i (by omega)
    unfold lead; rw [if_pos ⟨e, h n (by omega)⟩]
theorem lead_at {p : Nat → Bool} {k : Nat} : ∀ {n}, k < n → (∀ i, i < k → p i = true) → p k = false → lead p n = k
  | 0, h, _, _ => absurd h (by omega)
  | n + 1, h, ha, hk => by
    by_cases e : k = n
    · subst e
      have := lead_all ha
      unfold lead; rw [hk, if_neg (by simp)]; exact this
    · have l : lead p n = k := lead_at (by omega) ha hk
      unfold lead; rw [l, if_neg (by omega)]
theorem lead_ok {p : Nat → Bool} : ∀ {n i}, i < lead p n → p i = true
  | 0, i, h => absurd h (by simp [lead])
  | n + 1, i, h => by
    unfold lead at h
    split at h
    · rename_i q
      by_cases e : i = n
      · subst e; exact q.2
      · exact lead_ok (n := n) (by omega)
    · exact lead_ok h
theorem lead_no {p : Nat → Bool} : ∀ {n}, lead p n < n → p (lead p n) = false
  | 0, h => absurd h (by simp [lead])
  | n + 1, h => by
    have hle := lead_le p n
    unfold lead at h ⊢
    split at h
    · omega
    · rename_i q
      rw [if_neg q]
      by_cases e : lead p n = n
      · rw [e]; cases hp : p n with
        | false => rfl
        | true => exact absurd ⟨e, hp⟩ q
      · exact lead_no (by omega)
theorem lead_congr {p q : Nat → Bool} : ∀ {n}, (∀ i, i < n → p i = q i) → lead p n = lead q n
  | 0, _ => rfl
  | n + 1, h => by unfold lead; rw [lead_congr (n := n) fun i hi => h i (by omega), h n (by omega)]
theorem stepV_in {st si k t : Int} (t0 : 0 ≤ t) (t1 : t ≤ 1000000000) (s0 : 0 ≤ si) (s1 : si ≤ 1000000000) : 0 ≤ (stepV st si k t).1.2 ∧ (stepV st si k t).1.2 ≤ 1000000000 := by
  unfold stepV; repeat (split; (constructor <;> assumption))
  constructor <;> assumption
theorem refV_in {st wn mk k t : Int} (t0 : 0 ≤ t) (t1 : t ≤ 1000000000) (s0 : 0 ≤ wn) (s1 : wn ≤ 1000000000) : 0 ≤ (refV st wn mk k t).1.2.1 ∧ (refV st wn mk k t).1.2.1 ≤ 1000000000 ∧ 0 ≤ (refV st wn mk k t).1.2.2 ∧ (refV st wn mk k t).1.2.2 ≤ 1000000000 := by
  unfold refV; repeat (split; (refine ⟨?_, ?_, ?_, ?_⟩ <;> first | assumption | (simp; done)))
  refine ⟨?_, ?_, ?_, ?_⟩ <;> first | assumption | (simp; done)
theorem stA_in {xs : Nat → Int} {n : Nat} (h : ∀ i, i < n → okS xs i = true) : ∀ i, i ≤ n → 0 ≤ (stA xs i).2 ∧ (stA xs i).2 ≤ 1000000000
  | 0, _ => by simp [stA]
  | i + 1, hi => by
    have := stA_in h i (by omega)
    have o := okS_t (h i (by omega))
    exact stepV_in o.2.2.1 o.2.2.2.1 this.1 this.2
theorem stR_in {xs : Nat → Int} {n : Nat} (h : ∀ i, i < n → okS xs i = true) : ∀ i, i ≤ n → 0 ≤ (stR xs i).2.1 ∧ (stR xs i).2.1 ≤ 1000000000 ∧ 0 ≤ (stR xs i).2.2 ∧ (stR xs i).2.2 ≤ 1000000000
  | 0, _ => by simp [stR]
  | i + 1, hi => by
    have := stR_in h i (by omega)
    have o := okS_t (h i (by omega))
    exact refV_in o.2.2.1 o.2.2.2.1 this.1 this.2.1
theorem bcell {W w1 : World} (hb : Below W.heap.size W w1) : (∀ b o, b < W.heap.size → w1.cell? ⟨b, o, none⟩ = W.cell? ⟨b, o, none⟩) ∧ (∀ b o, b < W.heap.size → w1.frozen? ⟨b, o, none⟩ = W.frozen? ⟨b, o, none⟩) :=
  ⟨fun b o h => hb.cell (p := ⟨b, o, none⟩) h, fun b o h => hb.frozen (p := ⟨b, o, none⟩) h⟩

theorem past {W : World} {o : Obj} {n i : Nat} (hn : n < W.heap.size) : (W.alloc o).cell? ⟨n, i, none⟩ = W.cell? ⟨n, i, none⟩ := World.cell?_alloc_lt _ _ _ hn
theorem pastF {W : World} {o : Obj} {n i : Nat} (hn : n < W.heap.size) : (W.alloc o).frozen? ⟨n, i, none⟩ = W.frozen? ⟨n, i, none⟩ := World.frozen?_alloc_old _ _ _ (by show n ≠ _; omega)
theorem set1 {W : World} {b i : Nat} {u v : Value} (h : W.cell? ⟨b, i, none⟩ = some u) : (W.setCell ⟨b, i, none⟩ v).cell? ⟨b, i, none⟩ = some v := World.cell?_setCell_same _ _ _ h
theorem set2 {W : World} {b i j : Nat} {u : Option Value} {v : Value} (hij : i ≠ j) (h : W.cell? ⟨b, j, none⟩ = u) : (W.setCell ⟨b, i, none⟩ v).cell? ⟨b, j, none⟩ = u := by
  rw [World.cell?_setCell_other _ _ _ _ (by simp [hij])]; exact h
theorem set3 {W : World} {b c i j : Nat} {u : Option Value} {v : Value} (hbc : b ≠ c) (h : W.cell? ⟨c, j, none⟩ = u) : (W.setCell ⟨b, i, none⟩ v).cell? ⟨c, j, none⟩ = u := by
  rw [World.cell?_setCell_other _ _ _ _ (by simp [hbc])]; exact h

set_option maxHeartbeats 4000000 in
theorem runSignals_any (A : Option Addr) (n c B : Nat) (xs : Nat → Int) (w : World) (hx : Ints w B A (n * 2) xs) (hB : B ≤ w.heap.size) (hn : n ≤ 40) (hs : ∀ i, i < n → okS xs i = true) :
    Calls Try.prog 38 #[.slice A n c] w fun e w' => e = .returned (.tuple #[.agg #[.int .i64 (stA xs (lead (okA xs) n)).1, .int .i64 (stA xs (lead (okA xs) n)).2], .int .i64 (lead (okA xs) n : Nat)]) ∧ Below w.heap.size w w' := by
  generalize hv : lead (okA xs) n = v
  replace hv := Lib.hid hv
  replace hx := Lib.hid hx
  replace hs := Lib.hid hs
  go_enter Try.func38, Try.ntmps38
  go_wp2
  go_loopw [12] (fun u wr => ∃ k : Nat, k ≤ n ∧ u = .int .i64 k ∧ Hid (∀ i, i < k → okA xs i = true) ∧ wr.cell? ⟨w.heap.size + 1, 0, none⟩ = some (.int .i64 (stA xs k).1) ∧ wr.cell? ⟨w.heap.size + 1, 1, none⟩ = some (.int .i64 (stA xs k).2) ∧ wr.frozen? ⟨w.heap.size + 1, 0, none⟩ = false ∧ wr.frozen? ⟨w.heap.size + 1, 1, none⟩ = false ∧ wr.cell? ⟨w.heap.size, 0, none⟩ = some (.int .i64 0) ∧ wr.cell? ⟨w.heap.size, 1, none⟩ = some (.int .i64 0) ∧ wr.frozen? ⟨w.heap.size, 0, none⟩ = false ∧ wr.frozen? ⟨w.heap.size, 1, none⟩ = false ∧ w.heap.size + 2 ≤ wr.heap.size ∧ Below w.heap.size w wr) (fun u _ => (n - intOf u).toNat)
  case atStart =>
    refine ⟨0, by omega, rfl, Lib.hid (fun i hi => by omega), by simp [stA], by simp [stA], by simp, by simp, by simp, by simp, by simp, by simp, by simp, ?_⟩
    exact ((Below.refl _ _).alloc (Nat.le_refl _) _).alloc (by simp) _
  case round =>
    obtain ⟨k, hk1, rfl, hok, x0, x1, f0, f1, r0, r1, q0, q1, hsz, hbel⟩ := hrel
    have hs0 : w.heap.size < wr.heap.size := by omega
    have hs1 : w.heap.size + 1 < wr.heap.size := by omega
    by_cases h1 : k < n
    · obtain ⟨b, o, rfl, hadB, hcode⟩ := hx.out (by omega)
      have g0 : wr.cell? ⟨b, o + k * 2, none⟩ = some (.int .i64 (xs (k * 2))) := by rw [hbel.cell (by simp; omega)]; exact hcode (k * 2) (by omega)
      have g1 : wr.cell? ⟨b, o + k * 2 + 1, none⟩ = some (.int .i64 (xs (k * 2 + 1))) := by rw [hbel.cell (by simp; omega)]; exact hcode (k * 2 + 1) (by omega)
      have hin := stA_in hs.out k (by omega)
      have hks := okS_t (hs.out k h1)
      clear hcode
      have hstep : stA xs (k + 1) = (stepV (stA xs k).1 (stA xs k).2 (xs (k * 2)) (xs (k * 2 + 1))).1 := rfl
      have hokk : okA xs k = (stepV (stA xs k).1 (stA xs k).2 (xs (k * 2)) (xs (k * 2 + 1))).2 := rfl
      replace hstep := Lib.hid hstep
      replace hokk := Lib.hid hokk
      generalize hS : stA xs k = S at x0 x1 hin hstep hokk
      obtain ⟨s1, s2⟩ := S
      have hcall := fun w0 => after_any s1 s2 (xs (k * 2)) (xs (k * 2 + 1)) w0 hks.1 hks.2.1 hks.2.2.1 hks.2.2.2.1 hin.1 hin.2
      generalize hSV : stepV s1 s2 (xs (k * 2)) (xs (k * 2 + 1)) = V at hstep hokk hcall
      obtain ⟨⟨t1, t2⟩, vb⟩ := V
      clear hin hks hSV
      replace hcall := Lib.hid hcall
      cases vb with
      | false =>
        have hr : v = k := by rw [← hv.out]; exact lead_at h1 hok.out hokk.out
        subst hr
        replace hS := Lib.hid hS
        clear hstep
        go_wp2_with fail
        refine (hcall.out _).mono ?_
        rintro e w' ⟨rfl, hb⟩
        obtain ⟨hc, hf⟩ := bcell hb
        have hz := hb.size
        simp at hz
        have hz0 : w.heap.size < w'.heap.size := by omega
        have hz1 : w.heap.size + 1 < w'.heap.size := by omega
        have r0' : w'.cell? ⟨w.heap.size, 0, none⟩ = some (.int .i64 0) := by rw [hc _ _ (by simp; omega), past hs0]; exact r0
        have r1' : w'.cell? ⟨w.heap.size, 1, none⟩ = some (.int .i64 0) := by rw [hc _ _ (by simp; omega), past hs0]; exact r1
        have e0 := set1 (v := .int .i64 s1) r0'
        have e1 := set1 (v := .int .i64 s2) (set2 (i := 0) (j := 1) (v := .int .i64 s1) (by decide) r1')
        go_wp2
        rw [hS.out]
        refine bodyPost_ret (v := .tuple #[.agg #[.int .i64 s1, .int .i64 s2], .int .i64 v]) (by simp [results, Try.results38, go_sem, hz0, e0, e1]) rfl ⟨rfl, ?_⟩
        have hb' : Below w.heap.size w w' := (hbel.alloc (by omega) _).trans (hb.mono (by simp; omega))
        exact ((hb'.setCell (by simp) _).setCell (by simp) _).alloc (by simp; omega) _
      | true =>
        clear hS
        go_wp2_with fail
        refine (hcall.out _).mono ?_
        rintro e w' ⟨rfl, hb⟩
        obtain ⟨hc, hf⟩ := bcell hb
        have hz := hb.size
        simp at hz
        have hz0 : w.heap.size < w'.heap.size := by omega
        have hz1 : w.heap.size + 1 < w'.heap.size := by omega
        have x0' : w'.cell? ⟨w.heap.size + 1, 0, none⟩ = some (.int .i64 s1) := by rw [hc _ _ (by simp; omega), past hs1]; exact x0
        have x1' : w'.cell? ⟨w.heap.size + 1, 1, none⟩ = some (.int .i64 s2) := by rw [hc _ _ (by simp; omega), past hs1]; exact x1
        go_wp2
        go_roundw
        case rel =>
          have hst : stA xs (k + 1) = (t1, t2) := hstep.out
          have f0' : w'.frozen? ⟨w.heap.size + 1, 0, none⟩ = false := by rw [hf _ _ (by simp; omega), pastF hs1]; exact f0
          have f1' : w'.frozen? ⟨w.heap.size + 1, 1, none⟩ = false := by rw [hf _ _ (by simp; omega), pastF hs1]; exact f1
          have r0' : w'.cell? ⟨w.heap.size, 0, none⟩ = some (.int .i64 0) := by rw [hc _ _ (by simp; omega), past hs0]; exact r0
          have r1' : w'.cell? ⟨w.heap.size, 1, none⟩ = some (.int .i64 0) := by rw [hc _ _ (by simp; omega), past hs0]; exact r1
          have q0' : w'.frozen? ⟨w.heap.size, 0, none⟩ = false := by rw [hf _ _ (by simp; omega), pastF hs0]; exact q0
          have q1' : w'.frozen? ⟨w.heap.size, 1, none⟩ = false := by rw [hf _ _ (by simp; omega), pastF hs0]; exact q1
          have hb' : Below w.heap.size w w' := (hbel.alloc (by omega) _).trans (hb.mono (by simp; omega))
          refine ⟨k + 1, by omega, by go_num, Lib.hid (fun i hi => ?_), ?_, ?_, ?_, ?_, ?_, ?_, ?_, ?_, ?_, ?_⟩
          · by_cases e : i = k
            · subst e; exact hokk.out
            · exact hok.out i (by omega)
          · rw [hst]; exact (past (by simpa using hz1)).trans (set2 (by decide) (set1 x0'))
          · rw [hst]; exact (past (by simpa using hz1)).trans (set1 (set2 (by decide) x1'))
          · rw [pastF (by simpa using hz1), World.frozen?_setCell, World.frozen?_setCell]; exact f0'
          · rw [pastF (by simpa using hz1), World.frozen?_setCell, World.frozen?_setCell]; exact f1'
          · exact (past (by simpa using hz0)).trans (set3 (by omega) (set3 (by omega) r0'))
          · exact (past (by simpa using hz0)).trans (set3 (by omega) (set3 (by omega) r1'))
          · rw [pastF (by simpa using hz0), World.frozen?_setCell, World.frozen?_setCell]; exact q0'
          · rw [pastF (by simpa using hz0), World.frozen?_setCell, World.frozen?_setCell]; exact q1'
          · simp; omega
          · exact ((hb'.setCell (by simp) _).setCell (by simp) _).alloc (by simp; omega) _
        case measure => simp [intOf]; omega
    · obtain rfl : k = n := by omega
      have hr : v = k := by rw [← hv.out]; exact lead_all hok.out
      subst hr
      generalize hS : stA xs v = S at x0 x1 ⊢
      obtain ⟨s1, s2⟩ := S
      have e0 := set1 (v := .int .i64 s1) r0
      have e1 := set1 (v := .int .i64 s2) (set2 (i := 0) (j := 1) (v := .int .i64 s1) (by decide) r1)
      go_wp2
      refine bodyPost_ret (v := .tuple #[.agg #[.int .i64 s1, .int .i64 s2], .int .i64 v]) (by simp [results, Try.results38, go_sem, x0, x1, e0, e1]) rfl ⟨rfl, ?_⟩
      exact (hbel.setCell (by simp) _).setCell (by simp) _
end Go.Proofs.Ytfckoeoohlgmiaa
