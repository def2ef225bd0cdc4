/- Appeals: a history is run through: the program's and the reference's. -/
import Derived.Test.YteacjoemlobmoaaDoorApp
set_option linter.unusedSimpArgs false
set_option linter.unusedVariables false
namespace Go.Proofs.YteacjoemlobmoaaDoor
open Go.RowKit

/-- Ruling i may follow in a state. -/
def okR (xs : Nat → Int) (s : St) (i : Nat) : Bool :=
  rulB (xs (i * 3)) (xs (i * 3 + 1)) (xs (i * 3 + 2)) && (decide (i = 0) || decide (xs ((i - 1) * 3) ≤ xs (i * 3))) && mayB s.1 s.2.1 s.2.2.1 s.2.2.2.1 s.2.2.2.2 (xs (i * 3 + 1)) (xs (i * 3))
/-- The state behind the first rulings, and whether they are a history. -/
def runS (xs : Nat → Int) : Nat → St × Bool
  | 0 => ((false, 0, 0, false, false), true)
  | i + 1 => if ((runS xs i).2 && okR xs (runS xs i).1 i) = true then (aftS (runS xs i).1 (xs (i * 3)) (xs (i * 3 + 1)), true) else ((runS xs i).1, false)
theorem run_stop {xs : Nat → Int} {i : Nat} (h : (runS xs i).2 = false) : ∀ k, runS xs (i + k) = runS xs i
  | 0 => rfl
  | k + 1 => by
    have ih := run_stop h k
    rw [← Nat.add_assoc, runS, ih, h]
    simp only [Bool.false_and]
    rw [if_neg (by simp), ← h]
theorem run_no {xs : Nat → Int} {i n : Nat} (h : (runS xs i).2 = true) (ho : okR xs (runS xs i).1 i = false) (hn : i < n) : runS xs n = ((runS xs i).1, false) := by
  have h1 : runS xs (i + 1) = ((runS xs i).1, false) := by rw [runS, h, ho]; simp
  have h2 := run_stop (xs := xs) (i := i + 1) (by rw [h1]) (n - (i + 1))
  rw [show i + 1 + (n - (i + 1)) = n by omega, h1] at h2
  exact h2
theorem run_yes {xs : Nat → Int} {i : Nat} (h : (runS xs i).2 = true) (ho : okR xs (runS xs i).1 i = true) : runS xs (i + 1) = (aftS (runS xs i).1 (xs (i * 3)) (xs (i * 3 + 1)), true) := by
  rw [runS, h, ho]; simp
theorem rulB_t {t k u : Int} (h : rulB t k u = true) : 0 ≤ t ∧ t ≤ 1000000000 ∧ 1 ≤ k ∧ k ≤ 5 := by
  unfold rulB at h
  simp only [Bool.and_eq_true] at h
  have a := inB_t h.1.1
  have b := inB_t h.1.2
  exact ⟨a.1, a.2, b.1, b.2⟩
theorem aftS_in {s : St} {t k : Int} (t0 : 0 ≤ t) (t1 : t ≤ 1000000000) (h : 0 ≤ s.2.1 ∧ s.2.1 ≤ 1000000000 ∧ 0 ≤ s.2.2.1 ∧ s.2.2.1 ≤ 1000000000) : 0 ≤ (aftS s t k).2.1 ∧ (aftS s t k).2.1 ≤ 1000000000 ∧ 0 ≤ (aftS s t k).2.2.1 ∧ (aftS s t k).2.2.1 ≤ 1000000000 := by
  unfold aftS; split
  · exact ⟨t0, t1, t0, t1⟩
  · split
    · exact h
    · split
      · exact ⟨h.1, h.2.1, t0, t1⟩
      · split <;> exact h
theorem run_in (xs : Nat → Int) : ∀ i, 0 ≤ (runS xs i).1.2.1 ∧ (runS xs i).1.2.1 ≤ 1000000000 ∧ 0 ≤ (runS xs i).1.2.2.1 ∧ (runS xs i).1.2.2.1 ≤ 1000000000
  | 0 => by simp [runS]
  | i + 1 => by
    have ih := run_in xs i
    rw [runS]
    split
    · rename_i h
      simp only [Bool.and_eq_true, okR] at h
      have hr := rulB_t h.2.1.1
      exact aftS_in hr.1 hr.2.1 ih
    · exact ih
def hisB (n : Nat) (xs : Nat → Int) : Bool := (runS xs n).2 && decide (n ≤ 20)

set_option maxHeartbeats 8000000 in
theorem runHistory_any (A : Option Addr) (n c B : Nat) (xs : Nat → Int) (w : World) (hx : Ints w B A (n * 3) xs) (hB : B ≤ w.heap.size) (hn : n ≤ 9223372036854775807) :
    Calls Tryd.prog 29 #[.slice A n c] w fun e w' => e = .returned (.tuple #[.agg (cellsP (runS xs n).1), .bool (hisB n xs)]) ∧ Below w.heap.size w w' := by
  generalize hv : hisB n xs = v
  generalize hR : (runS xs n).1 = R
  have hv' : v = ((runS xs n).2 && decide (n ≤ 20)) := by rw [← hv]; rfl
  replace hv := Lib.hid hv'
  clear hv'
  replace hR := Lib.hid hR
  replace hx := Lib.hid hx
  go_enter Tryd.func29, Tryd.ntmps29
  go_wp2
  go_loopw [10] (fun u wr => ∃ k : Nat, k ≤ n ∧ u = .int .i64 k ∧ Hid ((runS xs k).2 = true) ∧ Whole wr (w.heap.size + 1) 55 (cellsP (runS xs k).1) ∧ Whole wr w.heap.size 55 #[.bool false, .int .i64 0, .int .i64 0, .bool false, .bool false] ∧ Below w.heap.size w wr) (fun u _ => (n - intOf u).toNat)
  case atStart =>
    have hW1 := Whole.new (w.alloc (.cells #[.bool false, .int .i64 0, .int .i64 0, .bool false, .bool false] 55)) 55 (cellsP (runS xs 0).1)
    simp only [World.size_alloc] at hW1
    exact ⟨0, by omega, rfl, Lib.hid rfl, hW1, (Whole.new w 55 #[.bool false, .int .i64 0, .int .i64 0, .bool false, .bool false]).alloc _, ((Below.refl _ _).alloc (Nat.le_refl _) _).alloc (by simp) _⟩
  case round =>
    obtain ⟨k, hk1, rfl, hok, hW, hW0, hbel⟩ := hrel
    have hsz := hbel.size
    have hs1 := hW.lt
    have hs0 : w.heap.size < wr.heap.size := by omega
    have hin := run_in xs k
    by_cases h1 : k < n
    · obtain ⟨b, o, rfl, hadB, hcode⟩ := hx.out (by omega)
      have g0 : wr.cell? ⟨b, o + k * 3, none⟩ = some (.int .i64 (xs (k * 3))) := by rw [hbel.cell (by simp; omega)]; exact hcode (k * 3) (by omega)
      have g1 : wr.cell? ⟨b, o + k * 3 + 1, none⟩ = some (.int .i64 (xs (k * 3 + 1))) := by rw [hbel.cell (by simp; omega)]; exact hcode (k * 3 + 1) (by omega)
      have g2 : wr.cell? ⟨b, o + k * 3 + 2, none⟩ = some (.int .i64 (xs (k * 3 + 2))) := by rw [hbel.cell (by simp; omega)]; exact hcode (k * 3 + 2) (by omega)
      have hno := fun ho => run_no (n := n) hok.out ho h1
      have hye := fun ho => run_yes (xs := xs) hok.out ho
      have hokR : okR xs (runS xs k).1 k = (rulB (xs (k * 3)) (xs (k * 3 + 1)) (xs (k * 3 + 2)) && (decide (k = 0) || decide (xs ((k - 1) * 3) ≤ xs (k * 3))) && mayB (runS xs k).1.1 (runS xs k).1.2.1 (runS xs k).1.2.2.1 (runS xs k).1.2.2.2.1 (runS xs k).1.2.2.2.2 (xs (k * 3 + 1)) (xs (k * 3))) := rfl
      generalize (runS xs k).1 = S at hW hin hno hye hokR
      obtain ⟨d, a, c', p, q⟩ := S
      dsimp only at hin hokR
      replace hW : Whole wr (w.heap.size + 1) 55 #[.bool d, .int .i64 a, .int .i64 c', .bool p, .bool q] := hW
      have hmay := fun (hr : rulB (xs (k * 3)) (xs (k * 3 + 1)) (xs (k * 3 + 2)) = true) W => may_any (d, a, c', p, q) (xs (k * 3 + 1)) (xs (k * 3)) W (rulB_t hr).1 (rulB_t hr).2.1 hin.1 hin.2.1 hin.2.2.1 hin.2.2.2
      dsimp only [cellsP] at hmay
      have haft := fun (hr : rulB (xs (k * 3)) (xs (k * 3 + 1)) (xs (k * 3 + 2)) = true) W => after_any (d, a, c', p, q) (xs (k * 3)) (xs (k * 3 + 1)) (xs (k * 3 + 2)) W (rulB_t hr).2.2.1 (rulB_t hr).2.2.2
      generalize hN : aftS (d, a, c', p, q) (xs (k * 3)) (xs (k * 3 + 1)) = N at haft hye
      obtain ⟨d2, a2, c2, p2, q2⟩ := N
      dsimp only [cellsP] at haft
      generalize mayB d a c' p q (xs (k * 3 + 1)) (xs (k * 3)) = mb at hmay hokR
      replace hno := Lib.hid hno
      replace hye := Lib.hid hye
      replace hokR := Lib.hid hokR
      replace hmay := Lib.hid hmay
      replace haft := Lib.hid haft
      replace hW := Lib.hid hW
      replace hW0 := Lib.hid hW0
      clear hN hin
      cases h2 : rulB (xs (k * 3)) (xs (k * 3 + 1)) (xs (k * 3 + 2)) with
      | false =>
        have hrun := hno.out (by rw [hokR.out]; simp [h2])
        have hvf : v = false := by rw [hv.out, hrun]; rfl
        have hRR : R = (d, a, c', p, q) := by rw [← hR.out, hrun]
        subst hvf
        subst hRR
        clear hrun
        clear hcode
        go_wp2
        have F0 : ∀ u : Over (wr.alloc (.cells #[.int .i64 (xs (k * 3)), .int .i64 (xs (k * 3 + 1)), .int .i64 (xs (k * 3 + 2))] 25)), u.w.cell? ⟨wr.heap.size, 0, none⟩ = some (.int .i64 (xs (k * 3))) := fun u => u.cell (by simp) (by simp [go_sem])
        have F1 : ∀ u : Over (wr.alloc (.cells #[.int .i64 (xs (k * 3)), .int .i64 (xs (k * 3 + 1)), .int .i64 (xs (k * 3 + 2))] 25)), u.w.cell? ⟨wr.heap.size, 1, none⟩ = some (.int .i64 (xs (k * 3 + 1))) := fun u => u.cell (by simp) (by simp [go_sem])
        have F2 : ∀ u : Over (wr.alloc (.cells #[.int .i64 (xs (k * 3)), .int .i64 (xs (k * 3 + 1)), .int .i64 (xs (k * 3 + 2))] 25)), u.w.cell? ⟨wr.heap.size, 2, none⟩ = some (.int .i64 (xs (k * 3 + 2))) := fun u => u.cell (by simp) (by simp [go_sem])
        have C0 : ∀ u : Over (wr.alloc (.cells #[.int .i64 (xs (k * 3)), .int .i64 (xs (k * 3 + 1)), .int .i64 (xs (k * 3 + 2))] 25)), u.w.cell? ⟨w.heap.size + 1, 0, none⟩ = some (.bool d) := fun u => u.cell (by simp; omega) (by rw [World.cell?_alloc_lt _ _ _ hs1]; exact (hW.out.cell 0).trans (by simp))
        have C1 : ∀ u : Over (wr.alloc (.cells #[.int .i64 (xs (k * 3)), .int .i64 (xs (k * 3 + 1)), .int .i64 (xs (k * 3 + 2))] 25)), u.w.cell? ⟨w.heap.size + 1, 1, none⟩ = some (.int .i64 a) := fun u => u.cell (by simp; omega) (by rw [World.cell?_alloc_lt _ _ _ hs1]; exact (hW.out.cell 1).trans (by simp))
        have C2 : ∀ u : Over (wr.alloc (.cells #[.int .i64 (xs (k * 3)), .int .i64 (xs (k * 3 + 1)), .int .i64 (xs (k * 3 + 2))] 25)), u.w.cell? ⟨w.heap.size + 1, 2, none⟩ = some (.int .i64 c') := fun u => u.cell (by simp; omega) (by rw [World.cell?_alloc_lt _ _ _ hs1]; exact (hW.out.cell 2).trans (by simp))
        have C3 : ∀ u : Over (wr.alloc (.cells #[.int .i64 (xs (k * 3)), .int .i64 (xs (k * 3 + 1)), .int .i64 (xs (k * 3 + 2))] 25)), u.w.cell? ⟨w.heap.size + 1, 3, none⟩ = some (.bool p) := fun u => u.cell (by simp; omega) (by rw [World.cell?_alloc_lt _ _ _ hs1]; exact (hW.out.cell 3).trans (by simp))
        have C4 : ∀ u : Over (wr.alloc (.cells #[.int .i64 (xs (k * 3)), .int .i64 (xs (k * 3 + 1)), .int .i64 (xs (k * 3 + 2))] 25)), u.w.cell? ⟨w.heap.size + 1, 4, none⟩ = some (.bool q) := fun u => u.cell (by simp; omega) (by rw [World.cell?_alloc_lt _ _ _ hs1]; exact (hW.out.cell 4).trans (by simp))
        refine wp_region_over (by kernel_rfl) (by kernel_rfl) ?_
        repeat (go_big_quiet_step ((go_at_call 22; exact over_call (isRuling_val _ _ _ _ h2 _))))
        refine wpQuiet_nil ?_
        rintro _ ⟨u, rfl⟩
        clear F0 F1 F2 C0 C1 C2 C3 C4
        have hU := (hW.out.alloc (.cells #[.int .i64 (xs (k * 3)), .int .i64 (xs (k * 3 + 1)), .int .i64 (xs (k * 3 + 2))] 25)).below u.ok (by simp; omega)
        have hU0 := (hW0.out.alloc (.cells #[.int .i64 (xs (k * 3)), .int .i64 (xs (k * 3 + 1)), .int .i64 (xs (k * 3 + 2))] 25)).below u.ok (by simp; omega)
        have y0 := hU.cell 0
        have r0 := hU0.cell 0
        have rf0 := hU0.frz 0
        have y1 := hU.cell 1
        have r1 := hU0.cell 1
        have rf1 := hU0.frz 1
        have y2 := hU.cell 2
        have r2 := hU0.cell 2
        have rf2 := hU0.frz 2
        have y3 := hU.cell 3
        have r3 := hU0.cell 3
        have rf3 := hU0.frz 3
        have y4 := hU.cell 4
        have r4 := hU0.cell 4
        have rf4 := hU0.frz 4
        simp at y0 r0 y1 r1 y2 r2 y3 r3 y4 r4
        have hbu : Below w.heap.size w u.w := (hbel.alloc hsz _).trans (u.ok.mono (by simp; omega))
        have hP := (((((hU0.put 0 (.bool d)).put 1 (.int .i64 a)).put 2 (.int .i64 c')).put 3 (.bool p)).put 4 (.bool q))
        clear hU hU0
        go_wp2
        refine bodyPost_ret (v := .tuple #[.agg #[.bool d, .int .i64 a, .int .i64 c', .bool p, .bool q], .bool false]) (by simp [results, Tryd.results29, go_sem, *]) rfl ⟨rfl, ?_⟩
        exact (((((hbu.setCell (Nat.le_refl _) _).setCell (Nat.le_refl _) _).setCell (Nat.le_refl _) _).setCell (Nat.le_refl _) _).setCell (Nat.le_refl _) _)
      | true =>
      by_cases hk0 : k = 0
      · have hk0' : decide (0 < k) = false := by simp; omega
        have hk0'' : decide (k = 0) = true := by simpa using hk0
        replace hk0 := Lib.hid hk0
        replace hk0'' := Lib.hid hk0''
        clear hcode
        cases mb with
        | false =>
          have hrun := hno.out (by rw [hokR.out]; simp)
          have hvf : v = false := by rw [hv.out, hrun]; rfl
          have hRR : R = (d, a, c', p, q) := by rw [← hR.out, hrun]
          subst hvf
          subst hRR
          clear hrun
          go_wp2
          have F0 : ∀ u : Over (wr.alloc (.cells #[.int .i64 (xs (k * 3)), .int .i64 (xs (k * 3 + 1)), .int .i64 (xs (k * 3 + 2))] 25)), u.w.cell? ⟨wr.heap.size, 0, none⟩ = some (.int .i64 (xs (k * 3))) := fun u => u.cell (by simp) (by simp [go_sem])
          have F1 : ∀ u : Over (wr.alloc (.cells #[.int .i64 (xs (k * 3)), .int .i64 (xs (k * 3 + 1)), .int .i64 (xs (k * 3 + 2))] 25)), u.w.cell? ⟨wr.heap.size, 1, none⟩ = some (.int .i64 (xs (k * 3 + 1))) := fun u => u.cell (by simp) (by simp [go_sem])
          have F2 : ∀ u : Over (wr.alloc (.cells #[.int .i64 (xs (k * 3)), .int .i64 (xs (k * 3 + 1)), .int .i64 (xs (k * 3 + 2))] 25)), u.w.cell? ⟨wr.heap.size, 2, none⟩ = some (.int .i64 (xs (k * 3 + 2))) := fun u => u.cell (by simp) (by simp [go_sem])
          have C0 : ∀ u : Over (wr.alloc (.cells #[.int .i64 (xs (k * 3)), .int .i64 (xs (k * 3 + 1)), .int .i64 (xs (k * 3 + 2))] 25)), u.w.cell? ⟨w.heap.size + 1, 0, none⟩ = some (.bool d) := fun u => u.cell (by simp; omega) (by rw [World.cell?_alloc_lt _ _ _ hs1]; exact (hW.out.cell 0).trans (by simp))
          have C1 : ∀ u : Over (wr.alloc (.cells #[.int .i64 (xs (k * 3)), .int .i64 (xs (k * 3 + 1)), .int .i64 (xs (k * 3 + 2))] 25)), u.w.cell? ⟨w.heap.size + 1, 1, none⟩ = some (.int .i64 a) := fun u => u.cell (by simp; omega) (by rw [World.cell?_alloc_lt _ _ _ hs1]; exact (hW.out.cell 1).trans (by simp))
          have C2 : ∀ u : Over (wr.alloc (.cells #[.int .i64 (xs (k * 3)), .int .i64 (xs (k * 3 + 1)), .int .i64 (xs (k * 3 + 2))] 25)), u.w.cell? ⟨w.heap.size + 1, 2, none⟩ = some (.int .i64 c') := fun u => u.cell (by simp; omega) (by rw [World.cell?_alloc_lt _ _ _ hs1]; exact (hW.out.cell 2).trans (by simp))
          have C3 : ∀ u : Over (wr.alloc (.cells #[.int .i64 (xs (k * 3)), .int .i64 (xs (k * 3 + 1)), .int .i64 (xs (k * 3 + 2))] 25)), u.w.cell? ⟨w.heap.size + 1, 3, none⟩ = some (.bool p) := fun u => u.cell (by simp; omega) (by rw [World.cell?_alloc_lt _ _ _ hs1]; exact (hW.out.cell 3).trans (by simp))
          have C4 : ∀ u : Over (wr.alloc (.cells #[.int .i64 (xs (k * 3)), .int .i64 (xs (k * 3 + 1)), .int .i64 (xs (k * 3 + 2))] 25)), u.w.cell? ⟨w.heap.size + 1, 4, none⟩ = some (.bool q) := fun u => u.cell (by simp; omega) (by rw [World.cell?_alloc_lt _ _ _ hs1]; exact (hW.out.cell 4).trans (by simp))
          refine wp_region_over (by kernel_rfl) (by kernel_rfl) ?_
          repeat (go_big_quiet_step (first | (go_at_call 22; exact over_call (isRuling_val _ _ _ _ h2 _)) | (go_at_call 32; exact over_call (hmay.out h2 _))))
          refine wpQuiet_nil ?_
          rintro _ ⟨u, rfl⟩
          clear F0 F1 F2 C0 C1 C2 C3 C4
          have hU := (hW.out.alloc (.cells #[.int .i64 (xs (k * 3)), .int .i64 (xs (k * 3 + 1)), .int .i64 (xs (k * 3 + 2))] 25)).below u.ok (by simp; omega)
          have hU0 := (hW0.out.alloc (.cells #[.int .i64 (xs (k * 3)), .int .i64 (xs (k * 3 + 1)), .int .i64 (xs (k * 3 + 2))] 25)).below u.ok (by simp; omega)
          have y0 := hU.cell 0
          have r0 := hU0.cell 0
          have rf0 := hU0.frz 0
          have y1 := hU.cell 1
          have r1 := hU0.cell 1
          have rf1 := hU0.frz 1
          have y2 := hU.cell 2
          have r2 := hU0.cell 2
          have rf2 := hU0.frz 2
          have y3 := hU.cell 3
          have r3 := hU0.cell 3
          have rf3 := hU0.frz 3
          have y4 := hU.cell 4
          have r4 := hU0.cell 4
          have rf4 := hU0.frz 4
          simp at y0 r0 y1 r1 y2 r2 y3 r3 y4 r4
          have hbu : Below w.heap.size w u.w := (hbel.alloc hsz _).trans (u.ok.mono (by simp; omega))
          have hP := (((((hU0.put 0 (.bool d)).put 1 (.int .i64 a)).put 2 (.int .i64 c')).put 3 (.bool p)).put 4 (.bool q))
          clear hU hU0
          go_wp2
          refine bodyPost_ret (v := .tuple #[.agg #[.bool d, .int .i64 a, .int .i64 c', .bool p, .bool q], .bool false]) (by simp [results, Tryd.results29, go_sem, *]) rfl ⟨rfl, ?_⟩
          exact (((((hbu.setCell (Nat.le_refl _) _).setCell (Nat.le_refl _) _).setCell (Nat.le_refl _) _).setCell (Nat.le_refl _) _).setCell (Nat.le_refl _) _)
        | true =>
          have h3 := hk0''.out
          go_wp2
          have F0 : ∀ u : Over (wr.alloc (.cells #[.int .i64 (xs (k * 3)), .int .i64 (xs (k * 3 + 1)), .int .i64 (xs (k * 3 + 2))] 25)), u.w.cell? ⟨wr.heap.size, 0, none⟩ = some (.int .i64 (xs (k * 3))) := fun u => u.cell (by simp) (by simp [go_sem])
          have F1 : ∀ u : Over (wr.alloc (.cells #[.int .i64 (xs (k * 3)), .int .i64 (xs (k * 3 + 1)), .int .i64 (xs (k * 3 + 2))] 25)), u.w.cell? ⟨wr.heap.size, 1, none⟩ = some (.int .i64 (xs (k * 3 + 1))) := fun u => u.cell (by simp) (by simp [go_sem])
          have F2 : ∀ u : Over (wr.alloc (.cells #[.int .i64 (xs (k * 3)), .int .i64 (xs (k * 3 + 1)), .int .i64 (xs (k * 3 + 2))] 25)), u.w.cell? ⟨wr.heap.size, 2, none⟩ = some (.int .i64 (xs (k * 3 + 2))) := fun u => u.cell (by simp) (by simp [go_sem])
          have C0 : ∀ u : Over (wr.alloc (.cells #[.int .i64 (xs (k * 3)), .int .i64 (xs (k * 3 + 1)), .int .i64 (xs (k * 3 + 2))] 25)), u.w.cell? ⟨w.heap.size + 1, 0, none⟩ = some (.bool d) := fun u => u.cell (by simp; omega) (by rw [World.cell?_alloc_lt _ _ _ hs1]; exact (hW.out.cell 0).trans (by simp))
          have C1 : ∀ u : Over (wr.alloc (.cells #[.int .i64 (xs (k * 3)), .int .i64 (xs (k * 3 + 1)), .int .i64 (xs (k * 3 + 2))] 25)), u.w.cell? ⟨w.heap.size + 1, 1, none⟩ = some (.int .i64 a) := fun u => u.cell (by simp; omega) (by rw [World.cell?_alloc_lt _ _ _ hs1]; exact (hW.out.cell 1).trans (by simp))
          have C2 : ∀ u : Over (wr.alloc (.cells #[.int .i64 (xs (k * 3)), .int .i64 (xs (k * 3 + 1)), .int .i64 (xs (k * 3 + 2))] 25)), u.w.cell? ⟨w.heap.size + 1, 2, none⟩ = some (.int .i64 c') := fun u => u.cell (by simp; omega) (by rw [World.cell?_alloc_lt _ _ _ hs1]; exact (hW.out.cell 2).trans (by simp))
          have C3 : ∀ u : Over (wr.alloc (.cells #[.int .i64 (xs (k * 3)), .int .i64 (xs (k * 3 + 1)), .int .i64 (xs (k * 3 + 2))] 25)), u.w.cell? ⟨w.heap.size + 1, 3, none⟩ = some (.bool p) := fun u => u.cell (by simp; omega) (by rw [World.cell?_alloc_lt _ _ _ hs1]; exact (hW.out.cell 3).trans (by simp))
          have C4 : ∀ u : Over (wr.alloc (.cells #[.int .i64 (xs (k * 3)), .int .i64 (xs (k * 3 + 1)), .int .i64 (xs (k * 3 + 2))] 25)), u.w.cell? ⟨w.heap.size + 1, 4, none⟩ = some (.bool q) := fun u => u.cell (by simp; omega) (by rw [World.cell?_alloc_lt _ _ _ hs1]; exact (hW.out.cell 4).trans (by simp))
          refine wp_region_over (by kernel_rfl) (by kernel_rfl) ?_
          repeat (go_big_quiet_step (first | (go_at_call 22; exact over_call (isRuling_val _ _ _ _ h2 _)) | (go_at_call 32; exact over_call (hmay.out h2 _))))
          refine wpQuiet_nil ?_
          rintro _ ⟨u, rfl⟩
          clear F0 F1 F2 C0 C1 C2 C3 C4
          have hU := (hW.out.alloc (.cells #[.int .i64 (xs (k * 3)), .int .i64 (xs (k * 3 + 1)), .int .i64 (xs (k * 3 + 2))] 25)).below u.ok (by simp; omega)
          have hU0 := (hW0.out.alloc (.cells #[.int .i64 (xs (k * 3)), .int .i64 (xs (k * 3 + 1)), .int .i64 (xs (k * 3 + 2))] 25)).below u.ok (by simp; omega)
          have y0 := hU.cell 0
          have y1 := hU.cell 1
          have y2 := hU.cell 2
          have y3 := hU.cell 3
          have y4 := hU.cell 4
          have x0 : u.w.cell? ⟨wr.heap.size, 0, none⟩ = some (.int .i64 (xs (k * 3))) := u.cell (by simp) (by simp [go_sem])
          have x1 : u.w.cell? ⟨wr.heap.size, 1, none⟩ = some (.int .i64 (xs (k * 3 + 1))) := u.cell (by simp) (by simp [go_sem])
          have x2 : u.w.cell? ⟨wr.heap.size, 2, none⟩ = some (.int .i64 (xs (k * 3 + 2))) := u.cell (by simp) (by simp [go_sem])
          simp at y0 y1 y2 y3 y4
          have hbu : Below w.heap.size w u.w := (hbel.alloc hsz _).trans (u.ok.mono (by simp; omega))
          go_wp2_with fail
          refine (haft.out h2 _).mono ?_
          rintro e w2 ⟨rfl, hb2⟩
          have hV := hU.below hb2 hU.lt
          have hV0 := hU0.below hb2 hU0.lt
          have hbv : Below w.heap.size w w2 := hbu.trans (hb2.mono hbu.size)
          clear y0 y1 y2 y3 y4 x0 x1 x2
          have s0 := hV.some_ 0 (by simp)
          have f0 := hV.frz 0
          have s1 := hV.some_ 1 (by simp)
          have f1 := hV.frz 1
          have s2 := hV.some_ 2 (by simp)
          have f2 := hV.frz 2
          have s3 := hV.some_ 3 (by simp)
          have f3 := hV.frz 3
          have s4 := hV.some_ 4 (by simp)
          have f4 := hV.frz 4
          go_wp2
          go_roundw
          case rel =>
            refine ⟨k + 1, by omega, by go_num, ?_, ?_, ?_, ?_⟩
            · exact Lib.hid (by rw [hye.out (by rw [hokR.out]; simp [*])])
            · rw [hye.out (by rw [hokR.out]; simp [*])]
              simpa [cellsP] using (((((hV.put 0 _).put 1 _).put 2 _).put 3 _).put 4 _)
            · exact (((((hV0.far (by simp) _).far (by simp) _).far (by simp) _).far (by simp) _).far (by simp) _)
            · exact (((((hbv.setCell (by simp) _).setCell (by simp) _).setCell (by simp) _).setCell (by simp) _).setCell (by simp) _)
          case measure => simp [intOf]; omega
      · obtain ⟨k, rfl⟩ : ∃ k', k = k' + 1 := ⟨k - 1, by omega⟩
        clear hk0
        have hwr : IntKind.i64.wrap (k : Int) = k := IntWalk.i64_in _ (by omega)
        replace hwr := Lib.hid hwr
        have p1 : ∀ u : Over (wr.alloc (.cells #[.int .i64 (xs ((k + 1) * 3)), .int .i64 (xs ((k + 1) * 3 + 1)), .int .i64 (xs ((k + 1) * 3 + 2))] 25)), u.w.cell? ⟨b, o + k * 3, none⟩ = some (.int .i64 (xs (k * 3))) := fun u => u.cell (by simp; omega) (by rw [World.cell?_alloc_lt _ _ _ (by simp; omega), hbel.cell (by simp; omega)]; exact hcode (k * 3) (by omega))
        clear hcode
        replace p1 := Lib.hid p1
        cases h3 : decide (xs (k * 3) ≤ xs ((k + 1) * 3)) with
        | false =>
          have hrun := hno.out (by rw [hokR.out]; simp [h2, h3])
          have hvf : v = false := by rw [hv.out, hrun]; rfl
          have hRR : R = (d, a, c', p, q) := by rw [← hR.out, hrun]
          subst hvf
          subst hRR
          clear hrun
          have p1 := p1.out
          have h4 : decide (xs ((k + 1) * 3) < xs (k * 3)) = true := by simpa using h3
          go_wp2
          have F0 : ∀ u : Over (wr.alloc (.cells #[.int .i64 (xs ((k + 1) * 3)), .int .i64 (xs ((k + 1) * 3 + 1)), .int .i64 (xs ((k + 1) * 3 + 2))] 25)), u.w.cell? ⟨wr.heap.size, 0, none⟩ = some (.int .i64 (xs ((k + 1) * 3))) := fun u => u.cell (by simp) (by simp [go_sem])
          have F1 : ∀ u : Over (wr.alloc (.cells #[.int .i64 (xs ((k + 1) * 3)), .int .i64 (xs ((k + 1) * 3 + 1)), .int .i64 (xs ((k + 1) * 3 + 2))] 25)), u.w.cell? ⟨wr.heap.size, 1, none⟩ = some (.int .i64 (xs ((k + 1) * 3 + 1))) := fun u => u.cell (by simp) (by simp [go_sem])
          have F2 : ∀ u : Over (wr.alloc (.cells #[.int .i64 (xs ((k + 1) * 3)), .int .i64 (xs ((k + 1) * 3 + 1)), .int .i64 (xs ((k + 1) * 3 + 2))] 25)), u.w.cell? ⟨wr.heap.size, 2, none⟩ = some (.int .i64 (xs ((k + 1) * 3 + 2))) := fun u => u.cell (by simp) (by simp [go_sem])
          have C0 : ∀ u : Over (wr.alloc (.cells #[.int .i64 (xs ((k + 1) * 3)), .int .i64 (xs ((k + 1) * 3 + 1)), .int .i64 (xs ((k + 1) * 3 + 2))] 25)), u.w.cell? ⟨w.heap.size + 1, 0, none⟩ = some (.bool d) := fun u => u.cell (by simp; omega) (by rw [World.cell?_alloc_lt _ _ _ hs1]; exact (hW.out.cell 0).trans (by simp))
          have C1 : ∀ u : Over (wr.alloc (.cells #[.int .i64 (xs ((k + 1) * 3)), .int .i64 (xs ((k + 1) * 3 + 1)), .int .i64 (xs ((k + 1) * 3 + 2))] 25)), u.w.cell? ⟨w.heap.size + 1, 1, none⟩ = some (.int .i64 a) := fun u => u.cell (by simp; omega) (by rw [World.cell?_alloc_lt _ _ _ hs1]; exact (hW.out.cell 1).trans (by simp))
          have C2 : ∀ u : Over (wr.alloc (.cells #[.int .i64 (xs ((k + 1) * 3)), .int .i64 (xs ((k + 1) * 3 + 1)), .int .i64 (xs ((k + 1) * 3 + 2))] 25)), u.w.cell? ⟨w.heap.size + 1, 2, none⟩ = some (.int .i64 c') := fun u => u.cell (by simp; omega) (by rw [World.cell?_alloc_lt _ _ _ hs1]; exact (hW.out.cell 2).trans (by simp))
          have C3 : ∀ u : Over (wr.alloc (.cells #[.int .i64 (xs ((k + 1) * 3)), .int .i64 (xs ((k + 1) * 3 + 1)), .int .i64 (xs ((k + 1) * 3 + 2))] 25)), u.w.cell? ⟨w.heap.size + 1, 3, none⟩ = some (.bool p) := fun u => u.cell (by simp; omega) (by rw [World.cell?_alloc_lt _ _ _ hs1]; exact (hW.out.cell 3).trans (by simp))
          have C4 : ∀ u : Over (wr.alloc (.cells #[.int .i64 (xs ((k + 1) * 3)), .int .i64 (xs ((k + 1) * 3 + 1)), .int .i64 (xs ((k + 1) * 3 + 2))] 25)), u.w.cell? ⟨w.heap.size + 1, 4, none⟩ = some (.bool q) := fun u => u.cell (by simp; omega) (by rw [World.cell?_alloc_lt _ _ _ hs1]; exact (hW.out.cell 4).trans (by simp))
          have hwr := hwr.out
          refine wp_region_over (by kernel_rfl) (by kernel_rfl) ?_
          repeat (go_big_quiet_step ((go_at_call 22; exact over_call (isRuling_val _ _ _ _ h2 _))))
          refine wpQuiet_nil ?_
          rintro _ ⟨u, rfl⟩
          clear F0 F1 F2 C0 C1 C2 C3 C4
          have hU := (hW.out.alloc (.cells #[.int .i64 (xs ((k + 1) * 3)), .int .i64 (xs ((k + 1) * 3 + 1)), .int .i64 (xs ((k + 1) * 3 + 2))] 25)).below u.ok (by simp; omega)
          have hU0 := (hW0.out.alloc (.cells #[.int .i64 (xs ((k + 1) * 3)), .int .i64 (xs ((k + 1) * 3 + 1)), .int .i64 (xs ((k + 1) * 3 + 2))] 25)).below u.ok (by simp; omega)
          have y0 := hU.cell 0
          have r0 := hU0.cell 0
          have rf0 := hU0.frz 0
          have y1 := hU.cell 1
          have r1 := hU0.cell 1
          have rf1 := hU0.frz 1
          have y2 := hU.cell 2
          have r2 := hU0.cell 2
          have rf2 := hU0.frz 2
          have y3 := hU.cell 3
          have r3 := hU0.cell 3
          have rf3 := hU0.frz 3
          have y4 := hU.cell 4
          have r4 := hU0.cell 4
          have rf4 := hU0.frz 4
          simp at y0 r0 y1 r1 y2 r2 y3 r3 y4 r4
          have hbu : Below w.heap.size w u.w := (hbel.alloc hsz _).trans (u.ok.mono (by simp; omega))
          have hP := (((((hU0.put 0 (.bool d)).put 1 (.int .i64 a)).put 2 (.int .i64 c')).put 3 (.bool p)).put 4 (.bool q))
          clear hU hU0
          go_wp2
          refine bodyPost_ret (v := .tuple #[.agg #[.bool d, .int .i64 a, .int .i64 c', .bool p, .bool q], .bool false]) (by simp [results, Tryd.results29, go_sem, *]) rfl ⟨rfl, ?_⟩
          exact (((((hbu.setCell (Nat.le_refl _) _).setCell (Nat.le_refl _) _).setCell (Nat.le_refl _) _).setCell (Nat.le_refl _) _).setCell (Nat.le_refl _) _)
        | true =>
        cases mb with
        | false =>
          have hrun := hno.out (by rw [hokR.out]; simp)
          have hvf : v = false := by rw [hv.out, hrun]; rfl
          have hRR : R = (d, a, c', p, q) := by rw [← hR.out, hrun]
          subst hvf
          subst hRR
          clear hrun
          have p1 := p1.out
          have h4 : decide (xs ((k + 1) * 3) < xs (k * 3)) = false := by simpa using h3
          go_wp2
          have F0 : ∀ u : Over (wr.alloc (.cells #[.int .i64 (xs ((k + 1) * 3)), .int .i64 (xs ((k + 1) * 3 + 1)), .int .i64 (xs ((k + 1) * 3 + 2))] 25)), u.w.cell? ⟨wr.heap.size, 0, none⟩ = some (.int .i64 (xs ((k + 1) * 3))) := fun u => u.cell (by simp) (by simp [go_sem])
          have F1 : ∀ u : Over (wr.alloc (.cells #[.int .i64 (xs ((k + 1) * 3)), .int .i64 (xs ((k + 1) * 3 + 1)), .int .i64 (xs ((k + 1) * 3 + 2))] 25)), u.w.cell? ⟨wr.heap.size, 1, none⟩ = some (.int .i64 (xs ((k + 1) * 3 + 1))) := fun u => u.cell (by simp) (by simp [go_sem])
          have F2 : ∀ u : Over (wr.alloc (.cells #[.int .i64 (xs ((k + 1) * 3)), .int .i64 (xs ((k + 1) * 3 + 1)), .int .i64 (xs ((k + 1) * 3 + 2))] 25)), u.w.cell? ⟨wr.heap.size, 2, none⟩ = some (.int .i64 (xs ((k + 1) * 3 + 2))) := fun u => u.cell (by simp) (by simp [go_sem])
          have C0 : ∀ u : Over (wr.alloc (.cells #[.int .i64 (xs ((k + 1) * 3)), .int .i64 (xs ((k + 1) * 3 + 1)), .int .i64 (xs ((k + 1) * 3 + 2))] 25)), u.w.cell? ⟨w.heap.size + 1, 0, none⟩ = some (.bool d) := fun u => u.cell (by simp; omega) (by rw [World.cell?_alloc_lt _ _ _ hs1]; exact (hW.out.cell 0).trans (by simp))
          have C1 : ∀ u : Over (wr.alloc (.cells #[.int .i64 (xs ((k + 1) * 3)), .int .i64 (xs ((k + 1) * 3 + 1)), .int .i64 (xs ((k + 1) * 3 + 2))] 25)), u.w.cell? ⟨w.heap.size + 1, 1, none⟩ = some (.int .i64 a) := fun u => u.cell (by simp; omega) (by rw [World.cell?_alloc_lt _ _ _ hs1]; exact (hW.out.cell 1).trans (by simp))
          have C2 : ∀ u : Over (wr.alloc (.cells #[.int .i64 (xs ((k + 1) * 3)), .int .i64 (xs ((k + 1) * 3 + 1)), .int .i64 (xs ((k + 1) * 3 + 2))] 25)), u.w.cell? ⟨w.heap.size + 1, 2, none⟩ = some (.int .i64 c') := fun u => u.cell (by simp; omega) (by rw [World.cell?_alloc_lt _ _ _ hs1]; exact (hW.out.cell 2).trans (by simp))
          have C3 : ∀ u : Over (wr.alloc (.cells #[.int .i64 (xs ((k + 1) * 3)), .int .i64 (xs ((k + 1) * 3 + 1)), .int .i64 (xs ((k + 1) * 3 + 2))] 25)), u.w.cell? ⟨w.heap.size + 1, 3, none⟩ = some (.bool p) := fun u => u.cell (by simp; omega) (by rw [World.cell?_alloc_lt _ _ _ hs1]; exact (hW.out.cell 3).trans (by simp))
          have C4 : ∀ u : Over (wr.alloc (.cells #[.int .i64 (xs ((k + 1) * 3)), .int .i64 (xs ((k + 1) * 3 + 1)), .int .i64 (xs ((k + 1) * 3 + 2))] 25)), u.w.cell? ⟨w.heap.size + 1, 4, none⟩ = some (.bool q) := fun u => u.cell (by simp; omega) (by rw [World.cell?_alloc_lt _ _ _ hs1]; exact (hW.out.cell 4).trans (by simp))
          have hwr := hwr.out
          refine wp_region_over (by kernel_rfl) (by kernel_rfl) ?_
          repeat (go_big_quiet_step (first | (go_at_call 22; exact over_call (isRuling_val _ _ _ _ h2 _)) | (go_at_call 32; exact over_call (hmay.out h2 _))))
          refine wpQuiet_nil ?_
          rintro _ ⟨u, rfl⟩
          clear F0 F1 F2 C0 C1 C2 C3 C4
          have hU := (hW.out.alloc (.cells #[.int .i64 (xs ((k + 1) * 3)), .int .i64 (xs ((k + 1) * 3 + 1)), .int .i64 (xs ((k + 1) * 3 + 2))] 25)).below u.ok (by simp; omega)
          have hU0 := (hW0.out.alloc (.cells #[.int .i64 (xs ((k + 1) * 3)), .int .i64 (xs ((k + 1) * 3 + 1)), .int .i64 (xs ((k + 1) * 3 + 2))] 25)).below u.ok (by simp; omega)
          have y0 := hU.cell 0
          have r0 := hU0.cell 0
          have rf0 := hU0.frz 0
          have y1 := hU.cell 1
          have r1 := hU0.cell 1
          have rf1 := hU0.frz 1
          have y2 := hU.cell 2
          have r2 := hU0.cell 2
          have rf2 := hU0.frz 2
          have y3 := hU.cell 3
          have r3 := hU0.cell 3
          have rf3 := hU0.frz 3
          have y4 := hU.cell 4
          have r4 := hU0.cell 4
          have rf4 := hU0.frz 4
          simp at y0 r0 y1 r1 y2 r2 y3 r3 y4 r4
          have hbu : Below w.heap.size w u.w := (hbel.alloc hsz _).trans (u.ok.mono (by simp; omega))
          have hP := (((((hU0.put 0 (.bool d)).put 1 (.int .i64 a)).put 2 (.int .i64 c')).put 3 (.bool p)).put 4 (.bool q))
          clear hU hU0
          go_wp2
          refine bodyPost_ret (v := .tuple #[.agg #[.bool d, .int .i64 a, .int .i64 c', .bool p, .bool q], .bool false]) (by simp [results, Tryd.results29, go_sem, *]) rfl ⟨rfl, ?_⟩
          exact (((((hbu.setCell (Nat.le_refl _) _).setCell (Nat.le_refl _) _).setCell (Nat.le_refl _) _).setCell (Nat.le_refl _) _).setCell (Nat.le_refl _) _)
        | true =>
          have p1 := p1.out
          have h4 : decide (xs ((k + 1) * 3) < xs (k * 3)) = false := by simpa using h3
          go_wp2
          have F0 : ∀ u : Over (wr.alloc (.cells #[.int .i64 (xs ((k + 1) * 3)), .int .i64 (xs ((k + 1) * 3 + 1)), .int .i64 (xs ((k + 1) * 3 + 2))] 25)), u.w.cell? ⟨wr.heap.size, 0, none⟩ = some (.int .i64 (xs ((k + 1) * 3))) := fun u => u.cell (by simp) (by simp [go_sem])
          have F1 : ∀ u : Over (wr.alloc (.cells #[.int .i64 (xs ((k + 1) * 3)), .int .i64 (xs ((k + 1) * 3 + 1)), .int .i64 (xs ((k + 1) * 3 + 2))] 25)), u.w.cell? ⟨wr.heap.size, 1, none⟩ = some (.int .i64 (xs ((k + 1) * 3 + 1))) := fun u => u.cell (by simp) (by simp [go_sem])
          have F2 : ∀ u : Over (wr.alloc (.cells #[.int .i64 (xs ((k + 1) * 3)), .int .i64 (xs ((k + 1) * 3 + 1)), .int .i64 (xs ((k + 1) * 3 + 2))] 25)), u.w.cell? ⟨wr.heap.size, 2, none⟩ = some (.int .i64 (xs ((k + 1) * 3 + 2))) := fun u => u.cell (by simp) (by simp [go_sem])
          have C0 : ∀ u : Over (wr.alloc (.cells #[.int .i64 (xs ((k + 1) * 3)), .int .i64 (xs ((k + 1) * 3 + 1)), .int .i64 (xs ((k + 1) * 3 + 2))] 25)), u.w.cell? ⟨w.heap.size + 1, 0, none⟩ = some (.bool d) := fun u => u.cell (by simp; omega) (by rw [World.cell?_alloc_lt _ _ _ hs1]; exact (hW.out.cell 0).trans (by simp))
          have C1 : ∀ u : Over (wr.alloc (.cells #[.int .i64 (xs ((k + 1) * 3)), .int .i64 (xs ((k + 1) * 3 + 1)), .int .i64 (xs ((k + 1) * 3 + 2))] 25)), u.w.cell? ⟨w.heap.size + 1, 1, none⟩ = some (.int .i64 a) := fun u => u.cell (by simp; omega) (by rw [World.cell?_alloc_lt _ _ _ hs1]; exact (hW.out.cell 1).trans (by simp))
          have C2 : ∀ u : Over (wr.alloc (.cells #[.int .i64 (xs ((k + 1) * 3)), .int .i64 (xs ((k + 1) * 3 + 1)), .int .i64 (xs ((k + 1) * 3 + 2))] 25)), u.w.cell? ⟨w.heap.size + 1, 2, none⟩ = some (.int .i64 c') := fun u => u.cell (by simp; omega) (by rw [World.cell?_alloc_lt _ _ _ hs1]; exact (hW.out.cell 2).trans (by simp))
          have C3 : ∀ u : Over (wr.alloc (.cells #[.int .i64 (xs ((k + 1) * 3)), .int .i64 (xs ((k + 1) * 3 + 1)), .int .i64 (xs ((k + 1) * 3 + 2))] 25)), u.w.cell? ⟨w.heap.size + 1, 3, none⟩ = some (.bool p) := fun u => u.cell (by simp; omega) (by rw [World.cell?_alloc_lt _ _ _ hs1]; exact (hW.out.cell 3).trans (by simp))
          have C4 : ∀ u : Over (wr.alloc (.cells #[.int .i64 (xs ((k + 1) * 3)), .int .i64 (xs ((k + 1) * 3 + 1)), .int .i64 (xs ((k + 1) * 3 + 2))] 25)), u.w.cell? ⟨w.heap.size + 1, 4, none⟩ = some (.bool q) := fun u => u.cell (by simp; omega) (by rw [World.cell?_alloc_lt _ _ _ hs1]; exact (hW.out.cell 4).trans (by simp))
          have hwr := hwr.out
          refine wp_region_over (by kernel_rfl) (by kernel_rfl) ?_
          repeat (go_big_quiet_step (first | (go_at_call 22; exact over_call (isRuling_val _ _ _ _ h2 _)) | (go_at_call 32; exact over_call (hmay.out h2 _))))
          refine wpQuiet_nil ?_
          rintro _ ⟨u, rfl⟩
          clear F0 F1 F2 C0 C1 C2 C3 C4
          have hU := (hW.out.alloc (.cells #[.int .i64 (xs ((k + 1) * 3)), .int .i64 (xs ((k + 1) * 3 + 1)), .int .i64 (xs ((k + 1) * 3 + 2))] 25)).below u.ok (by simp; omega)
          have hU0 := (hW0.out.alloc (.cells #[.int .i64 (xs ((k + 1) * 3)), .int .i64 (xs ((k + 1) * 3 + 1)), .int .i64 (xs ((k + 1) * 3 + 2))] 25)).below u.ok (by simp; omega)
          have y0 := hU.cell 0
          have y1 := hU.cell 1
          have y2 := hU.cell 2
          have y3 := hU.cell 3
          have y4 := hU.cell 4
          have x0 : u.w.cell? ⟨wr.heap.size, 0, none⟩ = some (.int .i64 (xs ((k + 1) * 3))) := u.cell (by simp) (by simp [go_sem])
          have x1 : u.w.cell? ⟨wr.heap.size, 1, none⟩ = some (.int .i64 (xs ((k + 1) * 3 + 1))) := u.cell (by simp) (by simp [go_sem])
          have x2 : u.w.cell? ⟨wr.heap.size, 2, none⟩ = some (.int .i64 (xs ((k + 1) * 3 + 2))) := u.cell (by simp) (by simp [go_sem])
          simp at y0 y1 y2 y3 y4
          have hbu : Below w.heap.size w u.w := (hbel.alloc hsz _).trans (u.ok.mono (by simp; omega))
          go_wp2_with fail
          refine (haft.out h2 _).mono ?_
          rintro e w2 ⟨rfl, hb2⟩
          have hV := hU.below hb2 hU.lt
          have hV0 := hU0.below hb2 hU0.lt
          have hbv : Below w.heap.size w w2 := hbu.trans (hb2.mono hbu.size)
          clear y0 y1 y2 y3 y4 x0 x1 x2
          have s0 := hV.some_ 0 (by simp)
          have f0 := hV.frz 0
          have s1 := hV.some_ 1 (by simp)
          have f1 := hV.frz 1
          have s2 := hV.some_ 2 (by simp)
          have f2 := hV.frz 2
          have s3 := hV.some_ 3 (by simp)
          have f3 := hV.frz 3
          have s4 := hV.some_ 4 (by simp)
          have f4 := hV.frz 4
          go_wp2
          go_roundw
          case rel =>
            refine ⟨(k + 1) + 1, by omega, by go_num, ?_, ?_, ?_, ?_⟩
            · exact Lib.hid (by rw [hye.out (by rw [hokR.out]; simp [*])])
            · rw [hye.out (by rw [hokR.out]; simp [*])]
              simpa [cellsP] using (((((hV.put 0 _).put 1 _).put 2 _).put 3 _).put 4 _)
            · exact (((((hV0.far (by simp) _).far (by simp) _).far (by simp) _).far (by simp) _).far (by simp) _)
            · exact (((((hbv.setCell (by simp) _).setCell (by simp) _).setCell (by simp) _).setCell (by simp) _).setCell (by simp) _)
          case measure => simp [intOf]; omega
    · obtain rfl : k = n := by omega
      have hRR := hR.out
      rw [hRR] at hW
      obtain ⟨d, a, c', p, q⟩ := R
      replace hW : Whole wr (w.heap.size + 1) 55 #[.bool d, .int .i64 a, .int .i64 c', .bool p, .bool q] := hW
      have y0 := hW.cell 0
      have r0 := hW0.cell 0
      have rf0 := hW0.frz 0
      have y1 := hW.cell 1
      have r1 := hW0.cell 1
      have rf1 := hW0.frz 1
      have y2 := hW.cell 2
      have r2 := hW0.cell 2
      have rf2 := hW0.frz 2
      have y3 := hW.cell 3
      have r3 := hW0.cell 3
      have rf3 := hW0.frz 3
      have y4 := hW.cell 4
      have r4 := hW0.cell 4
      have rf4 := hW0.frz 4
      simp at y0 r0 y1 r1 y2 r2 y3 r3 y4 r4
      clear hW hW0 hRR hR hin
      by_cases hd : k ≤ 20
      · have hvv : v = true := by rw [hv.out, hok.out]; simpa using hd
        have hd' : decide ((k : Int) ≤ 20) = true := by simp; omega
        subst hvv
        clear hv hok hd
        go_wp2
        refine bodyPost_ret (v := .tuple #[.agg #[.bool d, .int .i64 a, .int .i64 c', .bool p, .bool q], .bool true]) (by simp [results, Tryd.results29, go_sem, *]) rfl ⟨rfl, ?_⟩
        exact (((((hbel.setCell (Nat.le_refl _) _).setCell (Nat.le_refl _) _).setCell (Nat.le_refl _) _).setCell (Nat.le_refl _) _).setCell (Nat.le_refl _) _)
      · have hvv : v = false := by rw [hv.out, hok.out]; simpa using hd
        have hd' : decide ((k : Int) ≤ 20) = false := by simp; omega
        subst hvv
        clear hv hok hd
        go_wp2
        refine bodyPost_ret (v := .tuple #[.agg #[.bool d, .int .i64 a, .int .i64 c', .bool p, .bool q], .bool false]) (by simp [results, Tryd.results29, go_sem, *]) rfl ⟨rfl, ?_⟩
        exact (((((hbel.setCell (Nat.le_refl _) _).setCell (Nat.le_refl _) _).setCell (Nat.le_refl _) _).setCell (Nat.le_refl _) _).setCell (Nat.le_refl _) _)

set_option maxHeartbeats 8000000 in
theorem l19Run_any (A : Option Addr) (n c B : Nat) (xs : Nat → Int) (w : World) (hx : Ints w B A (n * 3) xs) (hB : B ≤ w.heap.size) (hn : n ≤ 9223372036854775807) :
    Calls Tryd.prog 30 #[.slice A n c] w fun e w' => e = .returned (.tuple #[.agg (cellsR (runS xs n).1), .bool (hisB n xs)]) ∧ Below w.heap.size w w' := by
  generalize hv : hisB n xs = v
  generalize hR : (runS xs n).1 = R
  have hv' : v = ((runS xs n).2 && decide (n ≤ 20)) := by rw [← hv]; rfl
  replace hv := Lib.hid hv'
  clear hv'
  replace hR := Lib.hid hR
  replace hx := Lib.hid hx
  go_enter Tryd.func30, Tryd.ntmps30
  go_wp2
  go_loopw [5] (fun u wr => ∃ k : Nat, k ≤ n ∧ u = .int .i64 k ∧ Hid ((runS xs k).2 = true) ∧ Whole wr (w.heap.size + 1) 59 (cellsR (runS xs k).1) ∧ Whole wr w.heap.size 59 #[.bool false, .int .i64 0, .int .i64 0, .bool false, .bool false] ∧ Below w.heap.size w wr) (fun u _ => (n - intOf u).toNat)
  case atStart =>
    have hW1 := Whole.new (w.alloc (.cells #[.bool false, .int .i64 0, .int .i64 0, .bool false, .bool false] 59)) 59 (cellsR (runS xs 0).1)
    simp only [World.size_alloc] at hW1
    exact ⟨0, by omega, rfl, Lib.hid rfl, hW1, (Whole.new w 59 #[.bool false, .int .i64 0, .int .i64 0, .bool false, .bool false]).alloc _, ((Below.refl _ _).alloc (Nat.le_refl _) _).alloc (by simp) _⟩
  case round =>
    obtain ⟨k, hk1, rfl, hok, hW, hW0, hbel⟩ := hrel
    have hsz := hbel.size
    have hs1 := hW.lt
    have hs0 : w.heap.size < wr.heap.size := by omega
    have hin := run_in xs k
    by_cases h1 : k < n
    · obtain ⟨b, o, rfl, hadB, hcode⟩ := hx.out (by omega)
      have g0 : wr.cell? ⟨b, o + k * 3, none⟩ = some (.int .i64 (xs (k * 3))) := by rw [hbel.cell (by simp; omega)]; exact hcode (k * 3) (by omega)
      have g1 : wr.cell? ⟨b, o + k * 3 + 1, none⟩ = some (.int .i64 (xs (k * 3 + 1))) := by rw [hbel.cell (by simp; omega)]; exact hcode (k * 3 + 1) (by omega)
      have g2 : wr.cell? ⟨b, o + k * 3 + 2, none⟩ = some (.int .i64 (xs (k * 3 + 2))) := by rw [hbel.cell (by simp; omega)]; exact hcode (k * 3 + 2) (by omega)
      have hno := fun ho => run_no (n := n) hok.out ho h1
      have hye := fun ho => run_yes (xs := xs) hok.out ho
      have hokR : okR xs (runS xs k).1 k = (rulB (xs (k * 3)) (xs (k * 3 + 1)) (xs (k * 3 + 2)) && (decide (k = 0) || decide (xs ((k - 1) * 3) ≤ xs (k * 3))) && mayB (runS xs k).1.1 (runS xs k).1.2.1 (runS xs k).1.2.2.1 (runS xs k).1.2.2.2.1 (runS xs k).1.2.2.2.2 (xs (k * 3 + 1)) (xs (k * 3))) := rfl
      generalize (runS xs k).1 = S at hW hin hno hye hokR
      obtain ⟨d, a, c', p, q⟩ := S
      dsimp only at hin hokR
      replace hW : Whole wr (w.heap.size + 1) 59 #[.bool (!d), .int .i64 a, .int .i64 c', .bool p, .bool q] := hW
      have hmay := fun (hr : rulB (xs (k * 3)) (xs (k * 3 + 1)) (xs (k * 3 + 2)) = true) W => poss_any (d, a, c', p, q) (xs (k * 3 + 1)) (xs (k * 3)) W (rulB_t hr).1 (rulB_t hr).2.1 hin.1 hin.2.1 hin.2.2.1 hin.2.2.2
      dsimp only [cellsR] at hmay
      have haft := fun (hr : rulB (xs (k * 3)) (xs (k * 3 + 1)) (xs (k * 3 + 2)) = true) W => next19_any (d, a, c', p, q) (xs (k * 3)) (xs (k * 3 + 1)) (xs (k * 3 + 2)) W (rulB_t hr).2.2.1 (rulB_t hr).2.2.2
      generalize hN : aftS (d, a, c', p, q) (xs (k * 3)) (xs (k * 3 + 1)) = N at haft hye
      obtain ⟨d2, a2, c2, p2, q2⟩ := N
      dsimp only [cellsR] at haft
      generalize mayB d a c' p q (xs (k * 3 + 1)) (xs (k * 3)) = mb at hmay hokR
      replace hno := Lib.hid hno
      replace hye := Lib.hid hye
      replace hokR := Lib.hid hokR
      replace hmay := Lib.hid hmay
      replace haft := Lib.hid haft
      replace hW := Lib.hid hW
      replace hW0 := Lib.hid hW0
      clear hN hin
      cases h2 : rulB (xs (k * 3)) (xs (k * 3 + 1)) (xs (k * 3 + 2)) with
      | false =>
        have hrun := hno.out (by rw [hokR.out]; simp [h2])
        have hvf : v = false := by rw [hv.out, hrun]; rfl
        have hRR : R = (d, a, c', p, q) := by rw [← hR.out, hrun]
        subst hvf
        subst hRR
        clear hrun
        clear hcode
        go_wp2
        have F0 : ∀ u : Over (wr.alloc (.cells #[.int .i64 (xs (k * 3)), .int .i64 (xs (k * 3 + 1)), .int .i64 (xs (k * 3 + 2))] 25)), u.w.cell? ⟨wr.heap.size, 0, none⟩ = some (.int .i64 (xs (k * 3))) := fun u => u.cell (by simp) (by simp [go_sem])
        have F1 : ∀ u : Over (wr.alloc (.cells #[.int .i64 (xs (k * 3)), .int .i64 (xs (k * 3 + 1)), .int .i64 (xs (k * 3 + 2))] 25)), u.w.cell? ⟨wr.heap.size, 1, none⟩ = some (.int .i64 (xs (k * 3 + 1))) := fun u => u.cell (by simp) (by simp [go_sem])
        have F2 : ∀ u : Over (wr.alloc (.cells #[.int .i64 (xs (k * 3)), .int .i64 (xs (k * 3 + 1)), .int .i64 (xs (k * 3 + 2))] 25)), u.w.cell? ⟨wr.heap.size, 2, none⟩ = some (.int .i64 (xs (k * 3 + 2))) := fun u => u.cell (by simp) (by simp [go_sem])
        have C0 : ∀ u : Over (wr.alloc (.cells #[.int .i64 (xs (k * 3)), .int .i64 (xs (k * 3 + 1)), .int .i64 (xs (k * 3 + 2))] 25)), u.w.cell? ⟨w.heap.size + 1, 0, none⟩ = some (.bool (!d)) := fun u => u.cell (by simp; omega) (by rw [World.cell?_alloc_lt _ _ _ hs1]; exact (hW.out.cell 0).trans (by simp))
        have C1 : ∀ u : Over (wr.alloc (.cells #[.int .i64 (xs (k * 3)), .int .i64 (xs (k * 3 + 1)), .int .i64 (xs (k * 3 + 2))] 25)), u.w.cell? ⟨w.heap.size + 1, 1, none⟩ = some (.int .i64 a) := fun u => u.cell (by simp; omega) (by rw [World.cell?_alloc_lt _ _ _ hs1]; exact (hW.out.cell 1).trans (by simp))
        have C2 : ∀ u : Over (wr.alloc (.cells #[.int .i64 (xs (k * 3)), .int .i64 (xs (k * 3 + 1)), .int .i64 (xs (k * 3 + 2))] 25)), u.w.cell? ⟨w.heap.size + 1, 2, none⟩ = some (.int .i64 c') := fun u => u.cell (by simp; omega) (by rw [World.cell?_alloc_lt _ _ _ hs1]; exact (hW.out.cell 2).trans (by simp))
        have C3 : ∀ u : Over (wr.alloc (.cells #[.int .i64 (xs (k * 3)), .int .i64 (xs (k * 3 + 1)), .int .i64 (xs (k * 3 + 2))] 25)), u.w.cell? ⟨w.heap.size + 1, 3, none⟩ = some (.bool p) := fun u => u.cell (by simp; omega) (by rw [World.cell?_alloc_lt _ _ _ hs1]; exact (hW.out.cell 3).trans (by simp))
        have C4 : ∀ u : Over (wr.alloc (.cells #[.int .i64 (xs (k * 3)), .int .i64 (xs (k * 3 + 1)), .int .i64 (xs (k * 3 + 2))] 25)), u.w.cell? ⟨w.heap.size + 1, 4, none⟩ = some (.bool q) := fun u => u.cell (by simp; omega) (by rw [World.cell?_alloc_lt _ _ _ hs1]; exact (hW.out.cell 4).trans (by simp))
        refine wp_region_over (by kernel_rfl) (by kernel_rfl) ?_
        repeat (go_big_quiet_step ((go_at_call 20; exact over_call (l19Ruling_val _ _ _ _ h2 _))))
        refine wpQuiet_nil ?_
        rintro _ ⟨u, rfl⟩
        clear F0 F1 F2 C0 C1 C2 C3 C4
        have hU := (hW.out.alloc (.cells #[.int .i64 (xs (k * 3)), .int .i64 (xs (k * 3 + 1)), .int .i64 (xs (k * 3 + 2))] 25)).below u.ok (by simp; omega)
        have hU0 := (hW0.out.alloc (.cells #[.int .i64 (xs (k * 3)), .int .i64 (xs (k * 3 + 1)), .int .i64 (xs (k * 3 + 2))] 25)).below u.ok (by simp; omega)
        have y0 := hU.cell 0
        have r0 := hU0.cell 0
        have rf0 := hU0.frz 0
        have y1 := hU.cell 1
        have r1 := hU0.cell 1
        have rf1 := hU0.frz 1
        have y2 := hU.cell 2
        have r2 := hU0.cell 2
        have rf2 := hU0.frz 2
        have y3 := hU.cell 3
        have r3 := hU0.cell 3
        have rf3 := hU0.frz 3
        have y4 := hU.cell 4
        have r4 := hU0.cell 4
        have rf4 := hU0.frz 4
        simp at y0 r0 y1 r1 y2 r2 y3 r3 y4 r4
        have hbu : Below w.heap.size w u.w := (hbel.alloc hsz _).trans (u.ok.mono (by simp; omega))
        have hP := (((((hU0.put 0 (.bool (!d))).put 1 (.int .i64 a)).put 2 (.int .i64 c')).put 3 (.bool p)).put 4 (.bool q))
        clear hU hU0
        go_wp2
        refine bodyPost_ret (v := .tuple #[.agg #[.bool (!d), .int .i64 a, .int .i64 c', .bool p, .bool q], .bool false]) (by simp [results, Tryd.results30, go_sem, *]) rfl ⟨rfl, ?_⟩
        exact (((((hbu.setCell (Nat.le_refl _) _).setCell (Nat.le_refl _) _).setCell (Nat.le_refl _) _).setCell (Nat.le_refl _) _).setCell (Nat.le_refl _) _)
      | true =>
      by_cases hk0 : k = 0
      · have hk0' : decide (0 < k) = false := by simp; omega
        have hk0'' : decide (k = 0) = true := by simpa using hk0
        replace hk0 := Lib.hid hk0
        replace hk0'' := Lib.hid hk0''
        clear hcode
        cases mb with
        | false =>
          have hrun := hno.out (by rw [hokR.out]; simp)
          have hvf : v = false := by rw [hv.out, hrun]; rfl
          have hRR : R = (d, a, c', p, q) := by rw [← hR.out, hrun]
          subst hvf
          subst hRR
          clear hrun
          go_wp2
          have F0 : ∀ u : Over (wr.alloc (.cells #[.int .i64 (xs (k * 3)), .int .i64 (xs (k * 3 + 1)), .int .i64 (xs (k * 3 + 2))] 25)), u.w.cell? ⟨wr.heap.size, 0, none⟩ = some (.int .i64 (xs (k * 3))) := fun u => u.cell (by simp) (by simp [go_sem])
          have F1 : ∀ u : Over (wr.alloc (.cells #[.int .i64 (xs (k * 3)), .int .i64 (xs (k * 3 + 1)), .int .i64 (xs (k * 3 + 2))] 25)), u.w.cell? ⟨wr.heap.size, 1, none⟩ = some (.int .i64 (xs (k * 3 + 1))) := fun u => u.cell (by simp) (by simp [go_sem])
          have F2 : ∀ u : Over (wr.alloc (.cells #[.int .i64 (xs (k * 3)), .int .i64 (xs (k * 3 + 1)), .int .i64 (xs (k * 3 + 2))] 25)), u.w.cell? ⟨wr.heap.size, 2, none⟩ = some (.int .i64 (xs (k * 3 + 2))) := fun u => u.cell (by simp) (by simp [go_sem])
          have C0 : ∀ u : Over (wr.alloc (.cells #[.int .i64 (xs (k * 3)), .int .i64 (xs (k * 3 + 1)), .int .i64 (xs (k * 3 + 2))] 25)), u.w.cell? ⟨w.heap.size + 1, 0, none⟩ = some (.bool (!d)) := fun u => u.cell (by simp; omega) (by rw [World.cell?_alloc_lt _ _ _ hs1]; exact (hW.out.cell 0).trans (by simp))
          have C1 : ∀ u : Over (wr.alloc (.cells #[.int .i64 (xs (k * 3)), .int .i64 (xs (k * 3 + 1)), .int .i64 (xs (k * 3 + 2))] 25)), u.w.cell? ⟨w.heap.size + 1, 1, none⟩ = some (.int .i64 a) := fun u => u.cell (by simp; omega) (by rw [World.cell?_alloc_lt _ _ _ hs1]; exact (hW.out.cell 1).trans (by simp))
          have C2 : ∀ u : Over (wr.alloc (.cells #[.int .i64 (xs (k * 3)), .int .i64 (xs (k * 3 + 1)), .int .i64 (xs (k * 3 + 2))] 25)), u.w.cell? ⟨w.heap.size + 1, 2, none⟩ = some (.int .i64 c') := fun u => u.cell (by simp; omega) (by rw [World.cell?_alloc_lt _ _ _ hs1]; exact (hW.out.cell 2).trans (by simp))
          have C3 : ∀ u : Over (wr.alloc (.cells #[.int .i64 (xs (k * 3)), .int .i64 (xs (k * 3 + 1)), .int .i64 (xs (k * 3 + 2))] 25)), u.w.cell? ⟨w.heap.size + 1, 3, none⟩ = some (.bool p) := fun u => u.cell (by simp; omega) (by rw [World.cell?_alloc_lt _ _ _ hs1]; exact (hW.out.cell 3).trans (by simp))
          have C4 : ∀ u : Over (wr.alloc (.cells #[.int .i64 (xs (k * 3)), .int .i64 (xs (k * 3 + 1)), .int .i64 (xs (k * 3 + 2))] 25)), u.w.cell? ⟨w.heap.size + 1, 4, none⟩ = some (.bool q) := fun u => u.cell (by simp; omega) (by rw [World.cell?_alloc_lt _ _ _ hs1]; exact (hW.out.cell 4).trans (by simp))
          refine wp_region_over (by kernel_rfl) (by kernel_rfl) ?_
          repeat (go_big_quiet_step (first | (go_at_call 20; exact over_call (l19Ruling_val _ _ _ _ h2 _)) | (go_at_call 34; exact over_call (hmay.out h2 _))))
          refine wpQuiet_nil ?_
          rintro _ ⟨u, rfl⟩
          clear F0 F1 F2 C0 C1 C2 C3 C4
          have hU := (hW.out.alloc (.cells #[.int .i64 (xs (k * 3)), .int .i64 (xs (k * 3 + 1)), .int .i64 (xs (k * 3 + 2))] 25)).below u.ok (by simp; omega)
          have hU0 := (hW0.out.alloc (.cells #[.int .i64 (xs (k * 3)), .int .i64 (xs (k * 3 + 1)), .int .i64 (xs (k * 3 + 2))] 25)).below u.ok (by simp; omega)
          have y0 := hU.cell 0
          have r0 := hU0.cell 0
          have rf0 := hU0.frz 0
          have y1 := hU.cell 1
          have r1 := hU0.cell 1
          have rf1 := hU0.frz 1
          have y2 := hU.cell 2
          have r2 := hU0.cell 2
          have rf2 := hU0.frz 2
          have y3 := hU.cell 3
          have r3 := hU0.cell 3
          have rf3 := hU0.frz 3
          have y4 := hU.cell 4
          have r4 := hU0.cell 4
          have rf4 := hU0.frz 4
          simp at y0 r0 y1 r1 y2 r2 y3 r3 y4 r4
          have hbu : Below w.heap.size w u.w := (hbel.alloc hsz _).trans (u.ok.mono (by simp; omega))
          have hP := (((((hU0.put 0 (.bool (!d))).put 1 (.int .i64 a)).put 2 (.int .i64 c')).put 3 (.bool p)).put 4 (.bool q))
          clear hU hU0
          go_wp2
          refine bodyPost_ret (v := .tuple #[.agg #[.bool (!d), .int .i64 a, .int .i64 c', .bool p, .bool q], .bool false]) (by simp [results, Tryd.results30, go_sem, *]) rfl ⟨rfl, ?_⟩
          exact (((((hbu.setCell (Nat.le_refl _) _).setCell (Nat.le_refl _) _).setCell (Nat.le_refl _) _).setCell (Nat.le_refl _) _).setCell (Nat.le_refl _) _)
        | true =>
          have h3 := hk0''.out
          go_wp2
          have F0 : ∀ u : Over (wr.alloc (.cells #[.int .i64 (xs (k * 3)), .int .i64 (xs (k * 3 + 1)), .int .i64 (xs (k * 3 + 2))] 25)), u.w.cell? ⟨wr.heap.size, 0, none⟩ = some (.int .i64 (xs (k * 3))) := fun u => u.cell (by simp) (by simp [go_sem])
          have F1 : ∀ u : Over (wr.alloc (.cells #[.int .i64 (xs (k * 3)), .int .i64 (xs (k * 3 + 1)), .int .i64 (xs (k * 3 + 2))] 25)), u.w.cell? ⟨wr.heap.size, 1, none⟩ = some (.int .i64 (xs (k * 3 + 1))) := fun u => u.cell (by simp) (by simp [go_sem])
          have F2 : ∀ u : Over (wr.alloc (.cells #[.int .i64 (xs (k * 3)), .int .i64 (xs (k * 3 + 1)), .int .i64 (xs (k * 3 + 2))] 25)), u.w.cell? ⟨wr.heap.size, 2, none⟩ = some (.int .i64 (xs (k * 3 + 2))) := fun u => u.cell (by simp) (by simp [go_sem])
          have C0 : ∀ u : Over (wr.alloc (.cells #[.int .i64 (xs (k * 3)), .int .i64 (xs (k * 3 + 1)), .int .i64 (xs (k * 3 + 2))] 25)), u.w.cell? ⟨w.heap.size + 1, 0, none⟩ = some (.bool (!d)) := fun u => u.cell (by simp; omega) (by rw [World.cell?_alloc_lt _ _ _ hs1]; exact (hW.out.cell 0).trans (by simp))
          have C1 : ∀ u : Over (wr.alloc (.cells #[.int .i64 (xs (k * 3)), .int .i64 (xs (k * 3 + 1)), .int .i64 (xs (k * 3 + 2))] 25)), u.w.cell? ⟨w.heap.size + 1, 1, none⟩ = some (.int .i64 a) := fun u => u.cell (by simp; omega) (by rw [World.cell?_alloc_lt _ _ _ hs1]; exact (hW.out.cell 1).trans (by simp))
          have C2 : ∀ u : Over (wr.alloc (.cells #[.int .i64 (xs (k * 3)), .int .i64 (xs (k * 3 + 1)), .int .i64 (xs (k * 3 + 2))] 25)), u.w.cell? ⟨w.heap.size + 1, 2, none⟩ = some (.int .i64 c') := fun u => u.cell (by simp; omega) (by rw [World.cell?_alloc_lt _ _ _ hs1]; exact (hW.out.cell 2).trans (by simp))
          have C3 : ∀ u : Over (wr.alloc (.cells #[.int .i64 (xs (k * 3)), .int .i64 (xs (k * 3 + 1)), .int .i64 (xs (k * 3 + 2))] 25)), u.w.cell? ⟨w.heap.size + 1, 3, none⟩ = some (.bool p) := fun u => u.cell (by simp; omega) (by rw [World.cell?_alloc_lt _ _ _ hs1]; exact (hW.out.cell 3).trans (by simp))
          have C4 : ∀ u : Over (wr.alloc (.cells #[.int .i64 (xs (k * 3)), .int .i64 (xs (k * 3 + 1)), .int .i64 (xs (k * 3 + 2))] 25)), u.w.cell? ⟨w.heap.size + 1, 4, none⟩ = some (.bool q) := fun u => u.cell (by simp; omega) (by rw [World.cell?_alloc_lt _ _ _ hs1]; exact (hW.out.cell 4).trans (by simp))
          refine wp_region_over (by kernel_rfl) (by kernel_rfl) ?_
          repeat (go_big_quiet_step (first | (go_at_call 20; exact over_call (l19Ruling_val _ _ _ _ h2 _)) | (go_at_call 34; exact over_call (hmay.out h2 _))))
          refine wpQuiet_nil ?_
          rintro _ ⟨u, rfl⟩
          clear F0 F1 F2 C0 C1 C2 C3 C4
          have hU := (hW.out.alloc (.cells #[.int .i64 (xs (k * 3)), .int .i64 (xs (k * 3 + 1)), .int .i64 (xs (k * 3 + 2))] 25)).below u.ok (by simp; omega)
          have hU0 := (hW0.out.alloc (.cells #[.int .i64 (xs (k * 3)), .int .i64 (xs (k * 3 + 1)), .int .i64 (xs (k * 3 + 2))] 25)).below u.ok (by simp; omega)
          have y0 := hU.cell 0
          have y1 := hU.cell 1
          have y2 := hU.cell 2
          have y3 := hU.cell 3
          have y4 := hU.cell 4
          have x0 : u.w.cell? ⟨wr.heap.size, 0, none⟩ = some (.int .i64 (xs (k * 3))) := u.cell (by simp) (by simp [go_sem])
          have x1 : u.w.cell? ⟨wr.heap.size, 1, none⟩ = some (.int .i64 (xs (k * 3 + 1))) := u.cell (by simp) (by simp [go_sem])
          have x2 : u.w.cell? ⟨wr.heap.size, 2, none⟩ = some (.int .i64 (xs (k * 3 + 2))) := u.cell (by simp) (by simp [go_sem])
          simp at y0 y1 y2 y3 y4
          have hbu : Below w.heap.size w u.w := (hbel.alloc hsz _).trans (u.ok.mono (by simp; omega))
          go_wp2_with fail
          refine (haft.out h2 _).mono ?_
          rintro e w2 ⟨rfl, hb2⟩
          have hV := hU.below hb2 hU.lt
          have hV0 := hU0.below hb2 hU0.lt
          have hbv : Below w.heap.size w w2 := hbu.trans (hb2.mono hbu.size)
          clear y0 y1 y2 y3 y4 x0 x1 x2
          have s0 := hV.some_ 0 (by simp)
          have f0 := hV.frz 0
          have s1 := hV.some_ 1 (by simp)
          have f1 := hV.frz 1
          have s2 := hV.some_ 2 (by simp)
          have f2 := hV.frz 2
          have s3 := hV.some_ 3 (by simp)
          have f3 := hV.frz 3
          have s4 := hV.some_ 4 (by simp)
          have f4 := hV.frz 4
          go_wp2
          go_roundw
          case rel =>
            refine ⟨k + 1, by omega, by go_num, ?_, ?_, ?_, ?_⟩
            · exact Lib.hid (by rw [hye.out (by rw [hokR.out]; simp [*])])
            · rw [hye.out (by rw [hokR.out]; simp [*])]
              simpa [cellsR] using (((((hV.put 0 _).put 1 _).put 2 _).put 3 _).put 4 _)
            · exact (((((hV0.far (by simp) _).far (by simp) _).far (by simp) _).far (by simp) _).far (by simp) _)
            · exact (((((hbv.setCell (by simp) _).setCell (by simp) _).setCell (by simp) _).setCell (by simp) _).setCell (by simp) _)
          case measure => simp [intOf]; omega
      · obtain ⟨k, rfl⟩ : ∃ k', k = k' + 1 := ⟨k - 1, by omega⟩
        clear hk0
        have hwr : IntKind.i64.wrap (k : Int) = k := IntWalk.i64_in _ (by omega)
        replace hwr := Lib.hid hwr
        have p1 : ∀ u : Over (wr.alloc (.cells #[.int .i64 (xs ((k + 1) * 3)), .int .i64 (xs ((k + 1) * 3 + 1)), .int .i64 (xs ((k + 1) * 3 + 2))] 25)), u.w.cell? ⟨b, o + k * 3, none⟩ = some (.int .i64 (xs (k * 3))) := fun u => u.cell (by simp; omega) (by rw [World.cell?_alloc_lt _ _ _ (by simp; omega), hbel.cell (by simp; omega)]; exact hcode (k * 3) (by omega))
        clear hcode
        replace p1 := Lib.hid p1
        cases h3 : decide (xs (k * 3) ≤ xs ((k + 1) * 3)) with
        | false =>
          have hrun := hno.out (by rw [hokR.out]; simp [h2, h3])
          have hvf : v = false := by rw [hv.out, hrun]; rfl
          have hRR : R = (d, a, c', p, q) := by rw [← hR.out, hrun]
          subst hvf
          subst hRR
          clear hrun
          have p1 := p1.out
          have h4 : decide (xs ((k + 1) * 3) < xs (k * 3)) = true := by simpa using h3
          go_wp2
          have F0 : ∀ u : Over (wr.alloc (.cells #[.int .i64 (xs ((k + 1) * 3)), .int .i64 (xs ((k + 1) * 3 + 1)), .int .i64 (xs ((k + 1) * 3 + 2))] 25)), u.w.cell? ⟨wr.heap.size, 0, none⟩ = some (.int .i64 (xs ((k + 1) * 3))) := fun u => u.cell (by simp) (by simp [go_sem])
          have F1 : ∀ u : Over (wr.alloc (.cells #[.int .i64 (xs ((k + 1) * 3)), .int .i64 (xs ((k + 1) * 3 + 1)), .int .i64 (xs ((k + 1) * 3 + 2))] 25)), u.w.cell? ⟨wr.heap.size, 1, none⟩ = some (.int .i64 (xs ((k + 1) * 3 + 1))) := fun u => u.cell (by simp) (by simp [go_sem])
          have F2 : ∀ u : Over (wr.alloc (.cells #[.int .i64 (xs ((k + 1) * 3)), .int .i64 (xs ((k + 1) * 3 + 1)), .int .i64 (xs ((k + 1) * 3 + 2))] 25)), u.w.cell? ⟨wr.heap.size, 2, none⟩ = some (.int .i64 (xs ((k + 1) * 3 + 2))) := fun u => u.cell (by simp) (by simp [go_sem])
          have C0 : ∀ u : Over (wr.alloc (.cells #[.int .i64 (xs ((k + 1) * 3)), .int .i64 (xs ((k + 1) * 3 + 1)), .int .i64 (xs ((k + 1) * 3 + 2))] 25)), u.w.cell? ⟨w.heap.size + 1, 0, none⟩ = some (.bool (!d)) := fun u => u.cell (by simp; omega) (by rw [World.cell?_alloc_lt _ _ _ hs1]; exact (hW.out.cell 0).trans (by simp))
          have C1 : ∀ u : Over (wr.alloc (.cells #[.int .i64 (xs ((k + 1) * 3)), .int .i64 (xs ((k + 1) * 3 + 1)), .int .i64 (xs ((k + 1) * 3 + 2))] 25)), u.w.cell? ⟨w.heap.size + 1, 1, none⟩ = some (.int .i64 a) := fun u => u.cell (by simp; omega) (by rw [World.cell?_alloc_lt _ _ _ hs1]; exact (hW.out.cell 1).trans (by simp))
          have C2 : ∀ u : Over (wr.alloc (.cells #[.int .i64 (xs ((k + 1) * 3)), .int .i64 (xs ((k + 1) * 3 + 1)), .int .i64 (xs ((k + 1) * 3 + 2))] 25)), u.w.cell? ⟨w.heap.size + 1, 2, none⟩ = some (.int .i64 c') := fun u => u.cell (by simp; omega) (by rw [World.cell?_alloc_lt _ _ _ hs1]; exact (hW.out.cell 2).trans (by simp))
          have C3 : ∀ u : Over (wr.alloc (.cells #[.int .i64 (xs ((k + 1) * 3)), .int .i64 (xs ((k + 1) * 3 + 1)), .int .i64 (xs ((k + 1) * 3 + 2))] 25)), u.w.cell? ⟨w.heap.size + 1, 3, none⟩ = some (.bool p) := fun u => u.cell (by simp; omega) (by rw [World.cell?_alloc_lt _ _ _ hs1]; exact (hW.out.cell 3).trans (by simp))
          have C4 : ∀ u : Over (wr.alloc (.cells #[.int .i64 (xs ((k + 1) * 3)), .int .i64 (xs ((k + 1) * 3 + 1)), .int .i64 (xs ((k + 1) * 3 + 2))] 25)), u.w.cell? ⟨w.heap.size + 1, 4, none⟩ = some (.bool q) := fun u => u.cell (by simp; omega) (by rw [World.cell?_alloc_lt _ _ _ hs1]; exact (hW.out.cell 4).trans (by simp))
          have hwr := hwr.out
          refine wp_region_over (by kernel_rfl) (by kernel_rfl) ?_
          repeat (go_big_quiet_step ((go_at_call 20; exact over_call (l19Ruling_val _ _ _ _ h2 _))))
          refine wpQuiet_nil ?_
          rintro _ ⟨u, rfl⟩
          clear F0 F1 F2 C0 C1 C2 C3 C4
          have hU := (hW.out.alloc (.cells #[.int .i64 (xs ((k + 1) * 3)), .int .i64 (xs ((k + 1) * 3 + 1)), .int .i64 (xs ((k + 1) * 3 + 2))] 25)).below u.ok (by simp; omega)
          have hU0 := (hW0.out.alloc (.cells #[.int .i64 (xs ((k + 1) * 3)), .int .i64 (xs ((k + 1) * 3 + 1)), .int .i64 (xs ((k + 1) * 3 + 2))] 25)).below u.ok (by simp; omega)
          have y0 := hU.cell 0
          have r0 := hU0.cell 0
          have rf0 := hU0.frz 0
          have y1 := hU.cell 1
          have r1 := hU0.cell 1
          have rf1 := hU0.frz 1
          have y2 := hU.cell 2
          have r2 := hU0.cell 2
          have rf2 := hU0.frz 2
          have y3 := hU.cell 3
          have r3 := hU0.cell 3
          have rf3 := hU0.frz 3
          have y4 := hU.cell 4
          have r4 := hU0.cell 4
          have rf4 := hU0.frz 4
          simp at y0 r0 y1 r1 y2 r2 y3 r3 y4 r4
          have hbu : Below w.heap.size w u.w := (hbel.alloc hsz _).trans (u.ok.mono (by simp; omega))
          have hP := (((((hU0.put 0 (.bool (!d))).put 1 (.int .i64 a)).put 2 (.int .i64 c')).put 3 (.bool p)).put 4 (.bool q))
          clear hU hU0
          go_wp2
          refine bodyPost_ret (v := .tuple #[.agg #[.bool (!d), .int .i64 a, .int .i64 c', .bool p, .bool q], .bool false]) (by simp [results, Tryd.results30, go_sem, *]) rfl ⟨rfl, ?_⟩
          exact (((((hbu.setCell (Nat.le_refl _) _).setCell (Nat.le_refl _) _).setCell (Nat.le_refl _) _).setCell (Nat.le_refl _) _).setCell (Nat.le_refl _) _)
        | true =>
        cases mb with
        | false =>
          have hrun := hno.out (by rw [hokR.out]; simp)
          have hvf : v = false := by rw [hv.out, hrun]; rfl
          have hRR : R = (d, a, c', p, q) := by rw [← hR.out, hrun]
          subst hvf
          subst hRR
          clear hrun
          have p1 := p1.out
          have h4 : decide (xs ((k + 1) * 3) < xs (k * 3)) = false := by simpa using h3
          go_wp2
          have F0 : ∀ u : Over (wr.alloc (.cells #[.int .i64 (xs ((k + 1) * 3)), .int .i64 (xs ((k + 1) * 3 + 1)), .int .i64 (xs ((k + 1) * 3 + 2))] 25)), u.w.cell? ⟨wr.heap.size, 0, none⟩ = some (.int .i64 (xs ((k + 1) * 3))) := fun u => u.cell (by simp) (by simp [go_sem])
          have F1 : ∀ u : Over (wr.alloc (.cells #[.int .i64 (xs ((k + 1) * 3)), .int .i64 (xs ((k + 1) * 3 + 1)), .int .i64 (xs ((k + 1) * 3 + 2))] 25)), u.w.cell? ⟨wr.heap.size, 1, none⟩ = some (.int .i64 (xs ((k + 1) * 3 + 1))) := fun u => u.cell (by simp) (by simp [go_sem])
          have F2 : ∀ u : Over (wr.alloc (.cells #[.int .i64 (xs ((k + 1) * 3)), .int .i64 (xs ((k + 1) * 3 + 1)), .int .i64 (xs ((k + 1) * 3 + 2))] 25)), u.w.cell? ⟨wr.heap.size, 2, none⟩ = some (.int .i64 (xs ((k + 1) * 3 + 2))) := fun u => u.cell (by simp) (by simp [go_sem])
          have C0 : ∀ u : Over (wr.alloc (.cells #[.int .i64 (xs ((k + 1) * 3)), .int .i64 (xs ((k + 1) * 3 + 1)), .int .i64 (xs ((k + 1) * 3 + 2))] 25)), u.w.cell? ⟨w.heap.size + 1, 0, none⟩ = some (.bool (!d)) := fun u => u.cell (by simp; omega) (by rw [World.cell?_alloc_lt _ _ _ hs1]; exact (hW.out.cell 0).trans (by simp))
          have C1 : ∀ u : Over (wr.alloc (.cells #[.int .i64 (xs ((k + 1) * 3)), .int .i64 (xs ((k + 1) * 3 + 1)), .int .i64 (xs ((k + 1) * 3 + 2))] 25)), u.w.cell? ⟨w.heap.size + 1, 1, none⟩ = some (.int .i64 a) := fun u => u.cell (by simp; omega) (by rw [World.cell?_alloc_lt _ _ _ hs1]; exact (hW.out.cell 1).trans (by simp))
          have C2 : ∀ u : Over (wr.alloc (.cells #[.int .i64 (xs ((k + 1) * 3)), .int .i64 (xs ((k + 1) * 3 + 1)), .int .i64 (xs ((k + 1) * 3 + 2))] 25)), u.w.cell? ⟨w.heap.size + 1, 2, none⟩ = some (.int .i64 c') := fun u => u.cell (by simp; omega) (by rw [World.cell?_alloc_lt _ _ _ hs1]; exact (hW.out.cell 2).trans (by simp))
          have C3 : ∀ u : Over (wr.alloc (.cells #[.int .i64 (xs ((k + 1) * 3)), .int .i64 (xs ((k + 1) * 3 + 1)), .int .i64 (xs ((k + 1) * 3 + 2))] 25)), u.w.cell? ⟨w.heap.size + 1, 3, none⟩ = some (.bool p) := fun u => u.cell (by simp; omega) (by rw [World.cell?_alloc_lt _ _ _ hs1]; exact (hW.out.cell 3).trans (by simp))
          have C4 : ∀ u : Over (wr.alloc (.cells #[.int .i64 (xs ((k + 1) * 3)), .int .i64 (xs ((k + 1) * 3 + 1)), .int .i64 (xs ((k + 1) * 3 + 2))] 25)), u.w.cell? ⟨w.heap.size + 1, 4, none⟩ = some (.bool q) := fun u => u.cell (by simp; omega) (by rw [World.cell?_alloc_lt _ _ _ hs1]; exact (hW.out.cell 4).trans (by simp))
          have hwr := hwr.out
          refine wp_region_over (by kernel_rfl) (by kernel_rfl) ?_
          repeat (go_big_quiet_step (first | (go_at_call 20; exact over_call (l19Ruling_val _ _ _ _ h2 _)) | (go_at_call 34; exact over_call (hmay.out h2 _))))
          refine wpQuiet_nil ?_
          rintro _ ⟨u, rfl⟩
          clear F0 F1 F2 C0 C1 C2 C3 C4
          have hU := (hW.out.alloc (.cells #[.int .i64 (xs ((k + 1) * 3)), .int .i64 (xs ((k + 1) * 3 + 1)), .int .i64 (xs ((k + 1) * 3 + 2))] 25)).below u.ok (by simp; omega)
          have hU0 := (hW0.out.alloc (.cells #[.int .i64 (xs ((k + 1) * 3)), .int .i64 (xs ((k + 1) * 3 + 1)), .int .i64 (xs ((k + 1) * 3 + 2))] 25)).below u.ok (by simp; omega)
          have y0 := hU.cell 0
          have r0 := hU0.cell 0
          have rf0 := hU0.frz 0
          have y1 := hU.cell 1
          have r1 := hU0.cell 1
          have rf1 := hU0.frz 1
          have y2 := hU.cell 2
          have r2 := hU0.cell 2
          have rf2 := hU0.frz 2
          have y3 := hU.cell 3
          have r3 := hU0.cell 3
          have rf3 := hU0.frz 3
          have y4 := hU.cell 4
          have r4 := hU0.cell 4
          have rf4 := hU0.frz 4
          simp at y0 r0 y1 r1 y2 r2 y3 r3 y4 r4
          have hbu : Below w.heap.size w u.w := (hbel.alloc hsz _).trans (u.ok.mono (by simp; omega))
          have hP := (((((hU0.put 0 (.bool (!d))).put 1 (.int .i64 a)).put 2 (.int .i64 c')).put 3 (.bool p)).put 4 (.bool q))
          clear hU hU0
          go_wp2
          refine bodyPost_ret (v := .tuple #[.agg #[.bool (!d), .int .i64 a, .int .i64 c', .bool p, .bool q], .bool false]) (by simp [results, Tryd.results30, go_sem, *]) rfl ⟨rfl, ?_⟩
          exact (((((hbu.setCell (Nat.le_refl _) _).setCell (Nat.le_refl _) _).setCell (Nat.le_refl _) _).setCell (Nat.le_refl _) _).setCell (Nat.le_refl _) _)
        | true =>
          have p1 := p1.out
          have h4 : decide (xs ((k + 1) * 3) < xs (k * 3)) = false := by simpa using h3
          go_wp2
          have F0 : ∀ u : Over (wr.alloc (.cells #[.int .i64 (xs ((k + 1) * 3)), .int .i64 (xs ((k + 1) * 3 + 1)), .int .i64 (xs ((k + 1) * 3 + 2))] 25)), u.w.cell? ⟨wr.heap.size, 0, none⟩ = some (.int .i64 (xs ((k + 1) * 3))) := fun u => u.cell (by simp) (by simp [go_sem])
          have F1 : ∀ u : Over (wr.alloc (.cells #[.int .i64 (xs ((k + 1) * 3)), .int .i64 (xs ((k + 1) * 3 + 1)), .int .i64 (xs ((k + 1) * 3 + 2))] 25)), u.w.cell? ⟨wr.heap.size, 1, none⟩ = some (.int .i64 (xs ((k + 1) * 3 + 1))) := fun u => u.cell (by simp) (by simp [go_sem])
          have F2 : ∀ u : Over (wr.alloc (.cells #[.int .i64 (xs ((k + 1) * 3)), .int .i64 (xs ((k + 1) * 3 + 1)), .int .i64 (xs ((k + 1) * 3 + 2))] 25)), u.w.cell? ⟨wr.heap.size, 2, none⟩ = some (.int .i64 (xs ((k + 1) * 3 + 2))) := fun u => u.cell (by simp) (by simp [go_sem])
          have C0 : ∀ u : Over (wr.alloc (.cells #[.int .i64 (xs ((k + 1) * 3)), .int .i64 (xs ((k + 1) * 3 + 1)), .int .i64 (xs ((k + 1) * 3 + 2))] 25)), u.w.cell? ⟨w.heap.size + 1, 0, none⟩ = some (.bool (!d)) := fun u => u.cell (by simp; omega) (by rw [World.cell?_alloc_lt _ _ _ hs1]; exact (hW.out.cell 0).trans (by simp))
          have C1 : ∀ u : Over (wr.alloc (.cells #[.int .i64 (xs ((k + 1) * 3)), .int .i64 (xs ((k + 1) * 3 + 1)), .int .i64 (xs ((k + 1) * 3 + 2))] 25)), u.w.cell? ⟨w.heap.size + 1, 1, none⟩ = some (.int .i64 a) := fun u => u.cell (by simp; omega) (by rw [World.cell?_alloc_lt _ _ _ hs1]; exact (hW.out.cell 1).trans (by simp))
          have C2 : ∀ u : Over (wr.alloc (.cells #[.int .i64 (xs ((k + 1) * 3)), .int .i64 (xs ((k + 1) * 3 + 1)), .int .i64 (xs ((k + 1) * 3 + 2))] 25)), u.w.cell? ⟨w.heap.size + 1, 2, none⟩ = some (.int .i64 c') := fun u => u.cell (by simp; omega) (by rw [World.cell?_alloc_lt _ _ _ hs1]; exact (hW.out.cell 2).trans (by simp))
          have C3 : ∀ u : Over (wr.alloc (.cells #[.int .i64 (xs ((k + 1) * 3)), .int .i64 (xs ((k + 1) * 3 + 1)), .int .i64 (xs ((k + 1) * 3 + 2))] 25)), u.w.cell? ⟨w.heap.size + 1, 3, none⟩ = some (.bool p) := fun u => u.cell (by simp; omega) (by rw [World.cell?_alloc_lt _ _ _ hs1]; exact (hW.out.cell 3).trans (by simp))
          have C4 : ∀ u : Over (wr.alloc (.cells #[.int .i64 (xs ((k + 1) * 3)), .int .i64 (xs ((k + 1) * 3 + 1)), .int .i64 (xs ((k + 1) * 3 + 2))] 25)), u.w.cell? ⟨w.heap.size + 1, 4, none⟩ = some (.bool q) := fun u => u.cell (by simp; omega) (by rw [World.cell?_alloc_lt _ _ _ hs1]; exact (hW.out.cell 4).trans (by simp))
          have hwr := hwr.out
          refine wp_region_over (by kernel_rfl) (by kernel_rfl) ?_
          repeat (go_big_quiet_step (first | (go_at_call 20; exact over_call (l19Ruling_val _ _ _ _ h2 _)) | (go_at_call 34; exact over_call (hmay.out h2 _))))
          refine wpQuiet_nil ?_
          rintro _ ⟨u, rfl⟩
          clear F0 F1 F2 C0 C1 C2 C3 C4
          have hU := (hW.out.alloc (.cells #[.int .i64 (xs ((k + 1) * 3)), .int .i64 (xs ((k + 1) * 3 + 1)), .int .i64 (xs ((k + 1) * 3 + 2))] 25)).below u.ok (by simp; omega)
          have hU0 := (hW0.out.alloc (.cells #[.int .i64 (xs ((k + 1) * 3)), .int .i64 (xs ((k + 1) * 3 + 1)), .int .i64 (xs ((k + 1) * 3 + 2))] 25)).below u.ok (by simp; omega)
          have y0 := hU.cell 0
          have y1 := hU.cell 1
          have y2 := hU.cell 2
          have y3 := hU.cell 3
          have y4 := hU.cell 4
          have x0 : u.w.cell? ⟨wr.heap.size, 0, none⟩ = some (.int .i64 (xs ((k + 1) * 3))) := u.cell (by simp) (by simp [go_sem])
          have x1 : u.w.cell? ⟨wr.heap.size, 1, none⟩ = some (.int .i64 (xs ((k + 1) * 3 + 1))) := u.cell (by simp) (by simp [go_sem])
          have x2 : u.w.cell? ⟨wr.heap.size, 2, none⟩ = some (.int .i64 (xs ((k + 1) * 3 + 2))) := u.cell (by simp) (by simp [go_sem])
          simp at y0 y1 y2 y3 y4
          have hbu : Below w.heap.size w u.w := (hbel.alloc hsz _).trans (u.ok.mono (by simp; omega))
          go_wp2_with fail
          refine (haft.out h2 _).mono ?_
          rintro e w2 ⟨rfl, hb2⟩
          have hV := hU.below hb2 hU.lt
          have hV0 := hU0.below hb2 hU0.lt
          have hbv : Below w.heap.size w w2 := hbu.trans (hb2.mono hbu.size)
          clear y0 y1 y2 y3 y4 x0 x1 x2
          have s0 := hV.some_ 0 (by simp)
          have f0 := hV.frz 0
          have s1 := hV.some_ 1 (by simp)
          have f1 := hV.frz 1
          have s2 := hV.some_ 2 (by simp)
          have f2 := hV.frz 2
          have s3 := hV.some_ 3 (by simp)
          have f3 := hV.frz 3
          have s4 := hV.some_ 4 (by simp)
          have f4 := hV.frz 4
          go_wp2
          go_roundw
          case rel =>
            refine ⟨(k + 1) + 1, by omega, by go_num, ?_, ?_, ?_, ?_⟩
            · exact Lib.hid (by rw [hye.out (by rw [hokR.out]; simp [*])])
            · rw [hye.out (by rw [hokR.out]; simp [*])]
              simpa [cellsR] using (((((hV.put 0 _).put 1 _).put 2 _).put 3 _).put 4 _)
            · exact (((((hV0.far (by simp) _).far (by simp) _).far (by simp) _).far (by simp) _).far (by simp) _)
            · exact (((((hbv.setCell (by simp) _).setCell (by simp) _).setCell (by simp) _).setCell (by simp) _).setCell (by simp) _)
          case measure => simp [intOf]; omega
    · obtain rfl : k = n := by omega
      have hRR := hR.out
      rw [hRR] at hW
      obtain ⟨d, a, c', p, q⟩ := R
      replace hW : Whole wr (w.heap.size + 1) 59 #[.bool (!d), .int .i64 a, .int .i64 c', .bool p, .bool q] := hW
      have y0 := hW.cell 0
      have r0 := hW0.cell 0
      have rf0 := hW0.frz 0
      have y1 := hW.cell 1
      have r1 := hW0.cell 1
      have rf1 := hW0.frz 1
      have y2 := hW.cell 2
      have r2 := hW0.cell 2
      have rf2 := hW0.frz 2
      have y3 := hW.cell 3
      have r3 := hW0.cell 3
      have rf3 := hW0.frz 3
      have y4 := hW.cell 4
      have r4 := hW0.cell 4
      have rf4 := hW0.frz 4
      simp at y0 r0 y1 r1 y2 r2 y3 r3 y4 r4
      clear hW hW0 hRR hR hin
      by_cases hd : k ≤ 20
      · have hvv : v = true := by rw [hv.out, hok.out]; simpa using hd
        have hd' : decide ((k : Int) ≤ 20) = true := by simp; omega
        subst hvv
        clear hv hok hd
        go_wp2
        refine bodyPost_ret (v := .tuple #[.agg #[.bool (!d), .int .i64 a, .int .i64 c', .bool p, .bool q], .bool true]) (by simp [results, Tryd.results30, go_sem, *]) rfl ⟨rfl, ?_⟩
        exact (((((hbel.setCell (Nat.le_refl _) _).setCell (Nat.le_refl _) _).setCell (Nat.le_refl _) _).setCell (Nat.le_refl _) _).setCell (Nat.le_refl _) _)
      · have hvv : v = false := by rw [hv.out, hok.out]; simpa using hd
        have hd' : decide ((k : Int) ≤ 20) = false := by simp; omega
        subst hvv
        clear hv hok hd
        go_wp2
        refine bodyPost_ret (v := .tuple #[.agg #[.bool (!d), .int .i64 a, .int .i64 c', .bool p, .bool q], .bool false]) (by simp [results, Tryd.results30, go_sem, *]) rfl ⟨rfl, ?_⟩
        exact (((((hbel.setCell (Nat.le_refl _) _).setCell (Nat.le_refl _) _).setCell (Nat.le_refl _) _).setCell (Nat.le_refl _) _).setCell (Nat.le_refl _) _)

end Go.Proofs.YteacjoemlobmoaaDoor
