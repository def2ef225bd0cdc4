/- Courses: the copy and the comparison that the law uses. -/
import Derived.Test.YtfllbhgngolfnaaDoorSc
set_option linter.unusedSimpArgs false
set_option linter.unusedVariables false
namespace Go.Proofs.YtfllbhgngolfnaaDoor
open Go.RowKit

set_option maxRecDepth 100000 in
set_option maxHeartbeats 4000000 in
theorem eqMark_same (S : ByteArray) (a b c d : Int) (w : World) : Calls Tryd.prog 28 #[.agg #[.string S, .int .i64 a, .int .i64 b, .int .i64 c, .int .i64 d], .agg #[.string S, .int .i64 a, .int .i64 b, .int .i64 c, .int .i64 d]] w fun e w' => e = .returned (.bool true) ∧ Below w.heap.size w w' := by
  have hp := fun W => eqPoint_same a b W
  have hSS : (S.toList == S.toList) = true := by rw [beqS]; simp
  replace hp := Lib.hid hp
  have hbel := ((Below.refl w.heap.size w).alloc (Nat.le_refl _) (.cells #[.string S, .int .i64 a, .int .i64 b, .int .i64 c, .int .i64 d] 59)).alloc (by simp) (.cells #[.string S, .int .i64 a, .int .i64 b, .int .i64 c, .int .i64 d] 59)
  have hX := (Whole.new w 59 #[.string S, .int .i64 a, .int .i64 b, .int .i64 c, .int .i64 d]).alloc (.cells #[.string S, .int .i64 a, .int .i64 b, .int .i64 c, .int .i64 d] 59)
  have hY := Whole.new (w.alloc (.cells #[.string S, .int .i64 a, .int .i64 b, .int .i64 c, .int .i64 d] 59)) 59 #[.string S, .int .i64 a, .int .i64 b, .int .i64 c, .int .i64 d]
  replace hbel := Lib.hid hbel
  replace hX := Lib.hid hX
  replace hY := Lib.hid hY
  go_enter Tryd.func28, Tryd.ntmps28
  go_wp2_with fail
  refine (hp.out _).mono ?_
  rintro e w1 ⟨rfl, hb1⟩
  have hX1 := hX.out.below hb1 (by simp; omega)
  have hY1 := hY.out.below hb1 (by simp)
  simp only [World.size_alloc] at hY1
  have x3 := hX1.cell 3
  have x4 := hX1.cell 4
  have y3 := hY1.cell 3
  have y4 := hY1.cell 4
  simp at x3 x4 y3 y4
  have hb2 := Lib.hid (hbel.out.trans (hb1.mono (by simp; omega)))
  clear hX1 hY1 hb1
  go_wp2
  go_ret
  exact ⟨rfl, hb2.out⟩
set_option maxRecDepth 100000 in
set_option maxHeartbeats 4000000 in
theorem eqMarkS_same (A A' : Option Addr) (n c c'' B : Nat) (M : Nat → MkV) (w : World) (hx : Mks w B A n M) (hx2 : Mks w B A' n M) (hB : B ≤ w.heap.size) (hn : n ≤ 9223372036854775807) :
    Calls Tryd.prog 15 #[.slice A n c, .slice A' n c''] w fun e w' => e = .returned (.bool true) ∧ Below w.heap.size w w' := by
  replace hx := Lib.hid hx
  replace hx2 := Lib.hid hx2
  go_enter Tryd.func15, Tryd.ntmps15
  go_wp2
  go_loopw [5] (fun v wr => ∃ k : Nat, k ≤ n ∧ v = .int .i64 k ∧ Below w.heap.size w wr) (fun v _ => (n - intOf v).toNat)
  case atStart => exact ⟨0, by omega, rfl, Below.refl _ _⟩
  case round =>
    obtain ⟨k, hk1, rfl, hbel⟩ := hrel
    by_cases h1 : k < n
    · obtain ⟨b, o, rfl, hadB, hcode⟩ := hx.out (by omega)
      obtain ⟨b2, o2, rfl, hadB2, hcode2⟩ := hx2.out (by omega)
      obtain ⟨g0, g1, g2, g3, g4⟩ := hcode k h1
      obtain ⟨k0, k1, k2, k3, k4⟩ := hcode2 k h1
      rw [← hbel.cell (by simp; omega)] at g0 g1 g2 g3 g4
      rw [← hbel.cell (by simp; omega)] at k0 k1 k2 k3 k4
      clear hcode hcode2
      have hcall := fun W => eqMark_same (M k).S (M k).x (M k).y (M k).s (M k).z W
      generalize (M k).S = T at *
      generalize (M k).x = x at *
      generalize (M k).y = y at *
      generalize (M k).s = s at *
      generalize (M k).z = z at *
      replace hcall := Lib.hid hcall
      go_wp2
      go_region_with ((go_at_call 28; refine (hcall.out _).mono ?_; rintro e w' ⟨rfl, hbb⟩))
      all_goals
        go_wp2
        go_roundw
        case rel => exact ⟨k + 1, by omega, by go_num, hbel.drew.trans (hbb.mono hbel.size)⟩
        case measure => simp [intOf]; omega
    · obtain rfl : k = n := by omega
      go_wp2
      go_ret
      exact ⟨rfl, hbel⟩
set_option maxRecDepth 100000 in
set_option maxHeartbeats 4000000 in
theorem toMarkS_any (A : Option Addr) (n c B : Nat) (M : Nat → MkV) (w : World) (hx : Mks w B A n M) (hB : B ≤ w.heap.size) (hn : n ≤ 1048576) :
    Calls Tryd.prog 12 #[.slice A n c] w fun e w' => e = .returned (.slice (some ⟨w.heap.size, 0, none⟩) n n) ∧ Mks w' w'.heap.size (some ⟨w.heap.size, 0, none⟩) n M ∧ Below w.heap.size w w' := by
  obtain ⟨i0, hi, hz0, hz1, hz2⟩ := info_parts infoMark
  have hmk := fun W => make_eq (P := Tryd.prog) 35 59 i0 _ Tryd.underlying35 hi hz0 n 5 hz1 (by rw [hz2]; omega) (by omega) W
  clear hi hz0 hz1 hz2
  replace hx := Lib.hid hx
  go_enter Tryd.func12, Tryd.ntmps12
  go_wp2
  clear hmk
  go_loopw [4] (fun v wr => ∃ k : Nat, k ≤ n ∧ v = .int .i64 k ∧ Hid (∃ cs, Whole wr w.heap.size 59 cs ∧ cs.size = n * 5 ∧ ∀ j, j < k → cs[j * 5]? = some (.string (M j).S) ∧ cs[j * 5 + 1]? = some (.int .i64 (M j).x) ∧ cs[j * 5 + 2]? = some (.int .i64 (M j).y) ∧ cs[j * 5 + 3]? = some (.int .i64 (M j).s) ∧ cs[j * 5 + 4]? = some (.int .i64 (M j).z)) ∧ Hid (Below w.heap.size w wr)) (fun v _ => (n - intOf v).toNat)
  case atStart => exact ⟨0, by omega, rfl, Lib.hid ⟨_, Whole.new _ _ _, zeros_size _ _, fun j hj => by omega⟩, Lib.hid ((Below.refl _ _).alloc (Nat.le_refl _) _)⟩
  case round =>
    obtain ⟨k, hk1, rfl, hcs0, hbel⟩ := hrel
    obtain ⟨cs, hw, hsz, hcs⟩ := hcs0.out
    by_cases h1 : k < n
    · obtain ⟨b, o, rfl, hadB, hcode⟩ := hx.out (by omega)
      obtain ⟨g0, g1, g2, g3, g4⟩ := hcode k h1
      rw [← hbel.out.cell (by simp; omega)] at g0 g1 g2 g3 g4
      clear hcode
      have hcall := fun W => toMark_any (M k).S (M k).x (M k).y (M k).s (M k).z W
      have hMk : (∀ (T : ByteArray) (x y s z : Int), (M k).S = T → (M k).x = x → (M k).y = y → (M k).s = s → (M k).z = z → ∀ j, j < k + 1 → (((((cs.setIfInBounds (k * 5) (.string T)).setIfInBounds (k * 5 + 1) (.int .i64 x)).setIfInBounds (k * 5 + 2) (.int .i64 y)).setIfInBounds (k * 5 + 3) (.int .i64 s)).setIfInBounds (k * 5 + 4) (.int .i64 z))[j * 5]? = some (.string (M j).S) ∧ (((((cs.setIfInBounds (k * 5) (.string T)).setIfInBounds (k * 5 + 1) (.int .i64 x)).setIfInBounds (k * 5 + 2) (.int .i64 y)).setIfInBounds (k * 5 + 3) (.int .i64 s)).setIfInBounds (k * 5 + 4) (.int .i64 z))[j * 5 + 1]? = some (.int .i64 (M j).x) ∧ (((((cs.setIfInBounds (k * 5) (.string T)).setIfInBounds (k * 5 + 1) (.int .i64 x)).setIfInBounds (k * 5 + 2) (.int .i64 y)).setIfInBounds (k * 5 + 3) (.int .i64 s)).setIfInBounds (k * 5 + 4) (.int .i64 z))[j * 5 + 2]? = some (.int .i64 (M j).y) ∧ (((((cs.setIfInBounds (k * 5) (.string T)).setIfInBounds (k * 5 + 1) (.int .i64 x)).setIfInBounds (k * 5 + 2) (.int .i64 y)).setIfInBounds (k * 5 + 3) (.int .i64 s)).setIfInBounds (k * 5 + 4) (.int .i64 z))[j * 5 + 3]? = some (.int .i64 (M j).s) ∧ (((((cs.setIfInBounds (k * 5) (.string T)).setIfInBounds (k * 5 + 1) (.int .i64 x)).setIfInBounds (k * 5 + 2) (.int .i64 y)).setIfInBounds (k * 5 + 3) (.int .i64 s)).setIfInBounds (k * 5 + 4) (.int .i64 z))[j * 5 + 4]? = some (.int .i64 (M j).z)) := by
        rintro T x y s z rfl rfl rfl rfl rfl j hj
        by_cases e : j = k
        · subst e
          refine ⟨?_, ?_, ?_, ?_, ?_⟩ <;> simp [Array.getElem?_setIfInBounds, hsz] <;> omega
        · have := hcs j (by omega)
          refine ⟨?_, ?_, ?_, ?_, ?_⟩ <;> (rw [put_keep (by omega), put_keep (by omega), put_keep (by omega), put_keep (by omega), put_keep (by omega)]; simp [this])
      replace hMk := hMk _ _ _ _ _ rfl rfl rfl rfl rfl
      replace hMk := Lib.hid hMk
      replace hcs := Lib.hid hcs
      clear hcs
      generalize (M k).S = T at *
      generalize (M k).x = x at *
      generalize (M k).y = y at *
      generalize (M k).s = s at *
      generalize (M k).z = z at *
      replace hcall := Lib.hid hcall
      replace hw := Lib.hid hw
      go_wp2_with fail
      refine (hcall.out _).mono ?_
      rintro e w1 ⟨rfl, hb1⟩
      have hw1 := hw.out.below hb1 hw.out.lt
      have hbw := hbel.out.trans (hb1.mono hbel.out.size)
      have s0 := hw1.some_ (k * 5) (by omega)
      have f0 := hw1.frz (k * 5)
      have s1 := hw1.some_ (k * 5 + 1) (by omega)
      have f1 := hw1.frz (k * 5 + 1)
      have s2 := hw1.some_ (k * 5 + 2) (by omega)
      have f2 := hw1.frz (k * 5 + 2)
      have s3 := hw1.some_ (k * 5 + 3) (by omega)
      have f3 := hw1.frz (k * 5 + 3)
      have s4 := hw1.some_ (k * 5 + 4) (by omega)
      have f4 := hw1.frz (k * 5 + 4)
      have hnew : Hid (∃ cs, Whole (((((w1.setCell ⟨w.heap.size, k * 5, none⟩ (.string T)).setCell ⟨w.heap.size, k * 5 + 1, none⟩ (.int .i64 x)).setCell ⟨w.heap.size, k * 5 + 2, none⟩ (.int .i64 y)).setCell ⟨w.heap.size, k * 5 + 3, none⟩ (.int .i64 s)).setCell ⟨w.heap.size, k * 5 + 4, none⟩ (.int .i64 z)) w.heap.size 59 cs ∧ cs.size = n * 5 ∧ ∀ j, j < k + 1 → cs[j * 5]? = some (.string (M j).S) ∧ cs[j * 5 + 1]? = some (.int .i64 (M j).x) ∧ cs[j * 5 + 2]? = some (.int .i64 (M j).y) ∧ cs[j * 5 + 3]? = some (.int .i64 (M j).s) ∧ cs[j * 5 + 4]? = some (.int .i64 (M j).z)) :=
        Lib.hid ⟨_, ((((hw1.put (k * 5) (.string T)).put (k * 5 + 1) (.int .i64 x)).put (k * 5 + 2) (.int .i64 y)).put (k * 5 + 3) (.int .i64 s)).put (k * 5 + 4) (.int .i64 z), by simp [hsz], hMk.out⟩
      have hbn : Hid (Below w.heap.size w (((((w1.setCell ⟨w.heap.size, k * 5, none⟩ (.string T)).setCell ⟨w.heap.size, k * 5 + 1, none⟩ (.int .i64 x)).setCell ⟨w.heap.size, k * 5 + 2, none⟩ (.int .i64 y)).setCell ⟨w.heap.size, k * 5 + 3, none⟩ (.int .i64 s)).setCell ⟨w.heap.size, k * 5 + 4, none⟩ (.int .i64 z))) :=
        Lib.hid (((((hbw.setCell (p := ⟨w.heap.size, k * 5, none⟩) (Nat.le_refl _) _).setCell (p := ⟨w.heap.size, k * 5 + 1, none⟩) (Nat.le_refl _) _).setCell (p := ⟨w.heap.size, k * 5 + 2, none⟩) (Nat.le_refl _) _).setCell (p := ⟨w.heap.size, k * 5 + 3, none⟩) (Nat.le_refl _) _).setCell (p := ⟨w.heap.size, k * 5 + 4, none⟩) (Nat.le_refl _) _)
      replace hsz := Lib.hid hsz
      clear hMk hw1 hbw hw hcs0 hbel g0 g1 g2 g3 g4
      go_wp2
      go_roundw
      case rel => exact ⟨k + 1, by omega, by go_num, hnew, hbn⟩
      case measure => simp [intOf]; omega
    · obtain rfl : k = n := by omega
      go_wp2
      go_ret
      refine ⟨rfl, fun hn => ⟨w.heap.size, 0, rfl, hw.lt, fun j hj => ?_⟩, hbel.out⟩
      obtain ⟨q0, q1, q2, q3, q4⟩ := hcs j hj
      simp only [Nat.zero_add]
      rw [hw.cell, hw.cell, hw.cell, hw.cell, hw.cell]
      exact ⟨q0, q1, q2, q3, q4⟩

end Go.Proofs.YtfllbhgngolfnaaDoor
