/- paceAt, curveTime, PaceAt, CurveTime: the program's and the reference's return one value. -/
import Derived.Test.YtjbioohpkmcmmaaCurveV
import Derived.Test.YtjbioohpkmcmmaaNum
import Derived.RegionTactic
import Derived.BigRegion
set_option linter.unusedSimpArgs false
set_option linter.unusedVariables false
namespace Go.Proofs.Ytjbioohpkmcmmaa
open Go.RowKit

theorem quiet_wa {P : Program} {f : FuncId} {args : Array Value} {w : World} {a n : Nat} {v : Value}
    (h : Calls P f args (w.drewN (a + n)) fun e w' => e = .returned v ∧ w.drewN (a + n) = w') : Calls P f args (w.drewN (a + n)) fun e w'' => e = .returned v ∧ ∃ m, w'' = w.drewN (a + m) :=
  h.mono fun _ _ ⟨he, hm⟩ => ⟨he, n, hm.symm⟩

theorem intp_facts {n k : Nat} {xs : Nat → Int} {wnd : Int} (h : isC n xs = true) (hk : k + 1 < n) (h1 : xs (k * 2) < wnd) (h2 : wnd ≤ xs ((k + 1) * 2)) :
    0 ≤ xs (k * 2) ∧ xs ((k + 1) * 2) ≤ 1000 ∧ 1 ≤ xs ((k + 1) * 2 + 1) ∧ xs (k * 2 + 1) ≤ 1000000 ∧ xs ((k + 1) * 2 + 1) ≤ xs (k * 2 + 1) ∧
    -(1000000 * 1000) ≤ (xs ((k + 1) * 2 + 1) - xs (k * 2 + 1)) * (wnd - xs (k * 2)) ∧ (xs ((k + 1) * 2 + 1) - xs (k * 2 + 1)) * (wnd - xs (k * 2)) ≤ 0 ∧
    -1000000 ≤ ((xs ((k + 1) * 2 + 1) - xs (k * 2 + 1)) * (wnd - xs (k * 2))) / (xs ((k + 1) * 2) - xs (k * 2)) ∧ ((xs ((k + 1) * 2 + 1) - xs (k * 2 + 1)) * (wnd - xs (k * 2))) / (xs ((k + 1) * 2) - xs (k * 2)) ≤ 0 := by
  obtain ⟨_, _, hok⟩ := isC_t h
  have a := okC_t (hok k (by omega))
  have b := okC_t (hok (k + 1) hk)
  have d := pace_desc h k (k + 1) (by omega) hk
  have m := mul_neg_bd (x := xs ((k + 1) * 2 + 1) - xs (k * 2 + 1)) (y := wnd - xs (k * 2)) (X := 1000000) (Y := 1000) (by omega) (by omega) (by omega) (by omega)
  have i := intp_bd (p := xs (k * 2 + 1)) (q := xs ((k + 1) * 2 + 1)) h1 h2 d
  unfold intp at i
  omega


set_option maxHeartbeats 4000000 in
theorem paceAt_any (A : Option Addr) (n c B : Nat) (wnd : Int) (xs : Nat → Int) (w : World) (hx : Ints w B A (n * 2) xs) (hB : B ≤ w.heap.size) (hC : isC n xs = true) (h0 : 0 ≤ wnd) (h1' : wnd ≤ 1000) :
    Calls Try.prog 24 #[.slice A n c, .int .i64 wnd] w fun e w' => e = .returned (.int .i64 (paceV n xs wnd)) ∧ Below w.heap.size w w' := by
  have hn2 := (isC_t hC).1
  have hn3 := (isC_t hC).2.1
  replace hC := Lib.hid hC
  generalize hv : paceV n xs wnd = v
  replace hv := Lib.hid hv
  replace hx := Lib.hid hx
  go_enter Try.func24, Try.ntmps24
  go_wp2
  go_loopw [10] (fun u wr => ∃ k : Nat, k ≤ n ∧ u = .int .i64 k ∧ Hid (∀ i, i < k → xs (i * 2) < wnd) ∧ Below w.heap.size w wr) (fun u _ => (n - intOf u).toNat)
  case atStart => exact ⟨0, by omega, rfl, Lib.hid (fun i hi => by omega), Below.refl _ _⟩
  case round =>
    obtain ⟨k, hk1, rfl, hok, hbel⟩ := hrel
    have hsz := hbel.size
    by_cases h1 : k < n
    · obtain ⟨b, o, rfl, hadB, hcode⟩ := hx.out (by omega)
      have g0 : wr.cell? ⟨b, o + k * 2, none⟩ = some (.int .i64 (xs (k * 2))) := by rw [hbel.cell (by simp; omega)]; exact hcode (k * 2) (by omega)
      have g1 : wr.cell? ⟨b, o + k * 2 + 1, none⟩ = some (.int .i64 (xs (k * 2 + 1))) := by rw [hbel.cell (by simp; omega)]; exact hcode (k * 2 + 1) (by omega)
      by_cases h2 : xs (k * 2) < wnd
      · clear hcode
        go_wp2
        go_roundw
        case rel =>
          refine ⟨k + 1, by omega, by go_num, Lib.hid (fun i hi => ?_), hbel.alloc hsz _⟩
          by_cases e : i = k
          · subst e; exact h2
          · exact hok.out i (by omega)
        case measure => simp [intOf]; omega
      have h2' : wnd ≤ xs (k * 2) := by omega
      by_cases hk0 : k = 0
      · have hk0' : ((k : Int) == 0) = true := by simp [hk0]
        have hr : v = xs (k * 2 + 1) := by rw [← hv.out, paceV_zero (by omega) (by subst hk0; simpa using h2')]; subst hk0; rfl
        subst hr
        replace hk0 := Lib.hid hk0
        clear hcode
        go_wp2
        go_ret
        exact ⟨rfl, hbel.alloc hsz _⟩
      · obtain ⟨k, rfl⟩ : ∃ k', k = k' + 1 := ⟨k - 1, by omega⟩
        clear hk0
        have hp := hok.out k (by omega)
        obtain ⟨f1, f2, f3, f4, f5, f6, f7, f8, f9⟩ := intp_facts hC.out h1 hp h2'
        have hr : v = intp (xs (k * 2)) (xs ((k + 1) * 2)) (xs (k * 2 + 1)) (xs ((k + 1) * 2 + 1)) wnd := by rw [← hv.out]; exact paceV_succ h1 h2' hok.out
        subst hr
        have p0 : ∀ o1, (wr.alloc o1).cell? ⟨b, o + k * 2, none⟩ = some (.int .i64 (xs (k * 2))) := fun o1 => by
          rw [World.cell?_alloc_lt _ _ _ (by simp; omega), hbel.cell (by simp; omega)]; exact hcode (k * 2) (by omega)
        have p1 : ∀ o1, (wr.alloc o1).cell? ⟨b, o + k * 2 + 1, none⟩ = some (.int .i64 (xs (k * 2 + 1))) := fun o1 => by
          rw [World.cell?_alloc_lt _ _ _ (by simp; omega), hbel.cell (by simp; omega)]; exact hcode (k * 2 + 1) (by omega)
        have hk0' : ((k : Int) + 1 == 0) = false := by rw [beq_eq_false_iff_ne]; omega
        clear hcode
        go_wp2
        have w1 : IntKind.i64.wrap (xs ((k + 1) * 2 + 1) - xs (k * 2 + 1)) = xs ((k + 1) * 2 + 1) - xs (k * 2 + 1) := IntWalk.i64_in _ (by omega)
        have w2 : IntKind.i64.wrap (wnd - xs (k * 2)) = wnd - xs (k * 2) := IntWalk.i64_in _ (by omega)
        have w3 : IntKind.i64.wrap (xs ((k + 1) * 2) - xs (k * 2)) = xs ((k + 1) * 2) - xs (k * 2) := IntWalk.i64_in _ (by omega)
        have w4 : IntKind.i64.wrap ((xs ((k + 1) * 2 + 1) - xs (k * 2 + 1)) * (wnd - xs (k * 2))) = (xs ((k + 1) * 2 + 1) - xs (k * 2 + 1)) * (wnd - xs (k * 2)) := IntWalk.i64_in _ (by omega)
        go_quiet ((go_at_call 33; exact quiet_w (floorDiv_any _ _ _ (by omega) (by omega) (by omega))))
        clear w1 w2 w3 w4
        go_wp2
        go_ret
        exact ⟨ret_int (by first | rfl | (unfold intp; unfold wrap64; omega) | (unfold intp; omega)), below_dN ((hbel.alloc hsz _).alloc (by simp; omega) _) _⟩
    · obtain rfl : k = n := by omega
      obtain ⟨k, rfl⟩ : ∃ k', k = k' + 1 := ⟨k - 1, by omega⟩
      obtain ⟨b, o, rfl, hadB, hcode⟩ := hx.out (by omega)
      have g1 : wr.cell? ⟨b, o + k * 2 + 1, none⟩ = some (.int .i64 (xs (k * 2 + 1))) := by rw [hbel.cell (by simp; omega)]; exact hcode (k * 2 + 1) (by omega)
      have hr : v = xs (k * 2 + 1) := by rw [← hv.out, paceV_none hok.out]; rfl
      subst hr
      clear hcode
      go_wp2
      go_ret
      exact ⟨rfl, hbel⟩


set_option maxHeartbeats 4000000 in
theorem l24Pace_any (A : Option Addr) (n c B : Nat) (wnd : Int) (xs : Nat → Int) (w : World) (hx : Ints w B A (n * 2) xs) (hB : B ≤ w.heap.size) (hC : isC n xs = true) (h0 : 0 ≤ wnd) (h1' : wnd ≤ 1000) :
    Calls Try.prog 22 #[.slice A n c, .int .i64 wnd] w fun e w' => e = .returned (.int .i64 (paceV n xs wnd)) ∧ Below w.heap.size w w' := by
  have hn2 := (isC_t hC).1
  have hn3 := (isC_t hC).2.1
  replace hC := Lib.hid hC
  generalize hv : paceV n xs wnd = v
  replace hv := Lib.hid hv
  obtain ⟨b, o, rfl, hadB, hcode⟩ := hx (by omega)
  have q0 : w.cell? ⟨b, o, none⟩ = some (.int .i64 (xs 0)) := hcode 0 (by omega)
  have q1 : w.cell? ⟨b, o + 1, none⟩ = some (.int .i64 (xs 1)) := hcode 1 (by omega)
  replace hcode := Lib.hid hcode
  clear hx
  by_cases hz : wnd ≤ xs 0
  · have hr : v = xs 1 := by rw [← hv.out]; exact paceV_zero (by omega) hz
    subst hr
    go_enter Try.func22, Try.ntmps22
    go_wp2
    go_ret
    exact ⟨rfl, Below.refl _ _⟩
  have hz' : xs 0 < wnd := by omega
  go_enter Try.func22, Try.ntmps22
  go_wp2
  clear q0 q1
  go_loopw [5] (fun u wr => ∃ k : Nat, k + 1 ≤ n ∧ u = .int .i64 ((k : Int) + 1) ∧ Hid (∀ i, i < k + 1 → xs (i * 2) < wnd) ∧ Below w.heap.size w wr) (fun u _ => (n - intOf u).toNat)
  case atStart => exact ⟨0, by omega, rfl, Lib.hid (fun i hi => (by obtain rfl : i = 0 := (by omega); simpa using hz')), Below.refl _ _⟩
  case round =>
    obtain ⟨k, hk1, rfl, hok, hbel⟩ := hrel
    have hsz := hbel.size
    by_cases h1 : k + 1 < n
    · have g0 : wr.cell? ⟨b, o + (k + 1) * 2, none⟩ = some (.int .i64 (xs ((k + 1) * 2))) := by rw [hbel.cell (by simp; omega)]; exact hcode.out ((k + 1) * 2) (by omega)
      have g1 : wr.cell? ⟨b, o + (k + 1) * 2 + 1, none⟩ = some (.int .i64 (xs ((k + 1) * 2 + 1))) := by rw [hbel.cell (by simp; omega)]; exact hcode.out ((k + 1) * 2 + 1) (by omega)
      have p0 : wr.cell? ⟨b, o + k * 2, none⟩ = some (.int .i64 (xs (k * 2))) := by rw [hbel.cell (by simp; omega)]; exact hcode.out (k * 2) (by omega)
      have p1 : wr.cell? ⟨b, o + k * 2 + 1, none⟩ = some (.int .i64 (xs (k * 2 + 1))) := by rw [hbel.cell (by simp; omega)]; exact hcode.out (k * 2 + 1) (by omega)
      have lift1 : ∀ (p : Addr) (v : Value), p.block < B → wr.cell? p = some v → ∀ o1, (wr.alloc o1).cell? p = some v := fun p v hp h o1 => by rw [World.cell?_alloc_lt _ _ _ (by omega)]; exact h
      have lift2 : ∀ (p : Addr) (v : Value), p.block < B → wr.cell? p = some v → ∀ o1 o2, ((wr.alloc o1).alloc o2).cell? p = some v := fun p v hp h o1 o2 => by rw [World.cell?_alloc_lt _ _ _ (by simp; omega), World.cell?_alloc_lt _ _ _ (by omega)]; exact h
      have g01 := lift1 _ _ hadB g0
      have g02 := lift2 _ _ hadB g0
      have g11 := lift1 _ _ hadB g1
      have g12 := lift2 _ _ hadB g1
      have p01 := lift1 _ _ hadB p0
      have p02 := lift2 _ _ hadB p0
      have p11 := lift1 _ _ hadB p1
      have p12 := lift2 _ _ hadB p1
      clear lift1 lift2
      have hwr : IntKind.i64.wrap (k : Int) = k := IntWalk.i64_in _ (by omega)
      replace hwr := Lib.hid hwr
      have hp := hok.out k (by omega)
      by_cases h2 : xs ((k + 1) * 2) < wnd
      · go_wp2
        have hwr := hwr.out
        go_region
        all_goals clear hwr
        all_goals go_wp2
        all_goals
          go_roundw
          case rel =>
            refine ⟨k + 1, by omega, by go_num, Lib.hid (fun i hi => ?_), ?_⟩
            · by_cases e : i = k + 1
              · subst e; exact h2
              · exact hok.out i (by omega)
            · first | exact ((hbel.alloc hsz _).alloc (by simp; omega) _).drew | exact (hbel.alloc hsz _).alloc (by simp; omega) _ | exact below_dN ((hbel.alloc hsz _).alloc (by simp; omega) _) _
          case measure => simp [intOf]; omega
      · have h2' : wnd ≤ xs ((k + 1) * 2) := by omega
        obtain ⟨f1, f2, f3, f4, f5, f6, f7, f8, f9⟩ := intp_facts hC.out h1 hp h2'
        have hr : v = intp (xs (k * 2)) (xs ((k + 1) * 2)) (xs (k * 2 + 1)) (xs ((k + 1) * 2 + 1)) wnd := by rw [← hv.out]; exact paceV_succ h1 h2' hok.out
        subst hr
        go_wp2
        have hwr := hwr.out
        go_region
        all_goals clear hwr
        all_goals go_wp2
        all_goals
          have w1 : IntKind.i64.wrap (xs ((k + 1) * 2 + 1) - xs (k * 2 + 1)) = xs ((k + 1) * 2 + 1) - xs (k * 2 + 1) := IntWalk.i64_in _ (by omega)
          have w2 : IntKind.i64.wrap (wnd - xs (k * 2)) = wnd - xs (k * 2) := IntWalk.i64_in _ (by omega)
          have w3 : IntKind.i64.wrap (xs ((k + 1) * 2) - xs (k * 2)) = xs ((k + 1) * 2) - xs (k * 2) := IntWalk.i64_in _ (by omega)
          have w4 : IntKind.i64.wrap ((xs ((k + 1) * 2 + 1) - xs (k * 2 + 1)) * (wnd - xs (k * 2))) = (xs ((k + 1) * 2 + 1) - xs (k * 2 + 1)) * (wnd - xs (k * 2)) := IntWalk.i64_in _ (by omega)
          go_quiet ((go_at_call 32; exact quiet_wa (l01Floor_any _ _ _ (by omega) (by omega) (by omega))))
          clear w1 w2 w3 w4
          go_wp2
          go_ret
          refine ⟨ret_int (by first | rfl | (unfold intp; unfold wrap64; omega) | (unfold intp; omega)), ?_⟩
          first | exact below_dN ((hbel.alloc hsz _).alloc (by simp; omega) _).drew _ | exact below_dN ((hbel.alloc hsz _).alloc (by simp; omega) _) _ | exact below_dN (below_dN ((hbel.alloc hsz _).alloc (by simp; omega) _) _) _
    · obtain rfl : n = k + 1 := by omega
      have g1 : wr.cell? ⟨b, o + k * 2 + 1, none⟩ = some (.int .i64 (xs (k * 2 + 1))) := by rw [hbel.cell (by simp; omega)]; exact hcode.out (k * 2 + 1) (by omega)
      have hr : v = xs (k * 2 + 1) := by rw [← hv.out, paceV_none hok.out]; rfl
      subst hr
      go_wp2
      go_ret
      exact ⟨rfl, hbel⟩

end Go.Proofs.Ytjbioohpkmcmmaa
