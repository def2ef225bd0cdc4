/- Courses: the size, the copy and the comparison that the law uses. -/
import Derived.Test.YtfllbhgngolfnaaDoorMks
import Derived.Handy
import Derived.Deep.RegionWith
set_option linter.unusedSimpArgs false
set_option linter.unusedVariables false
namespace Go.Proofs.YtfllbhgngolfnaaDoor
open Go.RowKit

theorem infoMark : (Tryd.prog.info? 59).map (fun i => (i.zero, i.size, i.bytes)) = some (some (.agg #[.string ⟨#[]⟩, .int .i64 0, .int .i64 0, .int .i64 0, .int .i64 0]), 5, 48) := by kernel_rfl
theorem toPoint_any (a b : Int) (w : World) : Calls Tryd.prog 21 #[.agg #[.int .i64 a, .int .i64 b]] w fun e w' => e = .returned (.agg #[.int .i64 a, .int .i64 b]) ∧ Below w.heap.size w w' := by
  go_enter Tryd.func21, Tryd.ntmps21
  go_wp2
  refine bodyPost_ret (v := .agg #[.int .i64 a, .int .i64 b]) (by simp [results, Tryd.results21, go_sem]) rfl ⟨rfl, ?_⟩
  go_grown
theorem eqPoint_same (a b : Int) (w : World) : Calls Tryd.prog 27 #[.agg #[.int .i64 a, .int .i64 b], .agg #[.int .i64 a, .int .i64 b]] w fun e w' => e = .returned (.bool true) ∧ Below w.heap.size w w' := by
  go_enter Tryd.func27, Tryd.ntmps27
  go_wp2
  go_ret
  exact ⟨rfl, ((Below.refl _ _).alloc (Nat.le_refl _) _).alloc (by simp) _⟩
set_option maxRecDepth 100000 in
set_option maxHeartbeats 4000000 in
theorem szMark_any (S : ByteArray) (a b c d left : Int) (w : World) (h0 : 0 ≤ left) (h1 : left ≤ 1048576) (hS : S.size ≤ 9223372036854775807) : Calls Tryd.prog 16 #[.agg #[.string S, .int .i64 a, .int .i64 b, .int .i64 c, .int .i64 d], .int .i64 left] w fun e w' => e = .returned (.int .i64 (if left < S.size then -1 else left - S.size)) ∧ Below w.heap.size w w' := by
  obtain ⟨m, hm⟩ : ∃ m, S.size = m := ⟨_, rfl⟩
  rw [hm] at hS ⊢
  have hw : IntKind.i64.wrap (left - (m : Int)) = left - m := by rw [IntKind.wrap_i64]; omega
  by_cases h : left < m
  · rw [if_pos h]
    have hlt : left - (m : Int) < 0 := by omega
    go_enter Tryd.func16, Tryd.ntmps16
    go_wp2
    go_ret
    exact ⟨rfl, (Below.refl _ _).alloc (Nat.le_refl _) _⟩
  · rw [if_neg h]
    have hlt : ¬ (left - (m : Int) < 0) := by omega
    go_enter Tryd.func16, Tryd.ntmps16
    go_wp2
    go_ret
    exact ⟨rfl, (Below.refl _ _).alloc (Nat.le_refl _) _⟩
set_option maxRecDepth 100000 in
set_option maxHeartbeats 4000000 in
theorem szMarkS_any (A : Option Addr) (n c B : Nat) (M : Nat → MkV) (left : Int) (w : World) (h0 : 0 ≤ left) (h1 : left ≤ 1048576) (hn : n ≤ 9223372036854775807) (hx : Mks w B A n M) (hB : B ≤ w.heap.size) (hS : ∀ j, j < n → (M j).S.size ≤ 9223372036854775807) :
    Calls Tryd.prog 9 #[.slice A n c, .int .i64 left] w fun e w' => ∃ r : Int, e = .returned (.int .i64 r) ∧ (0 ≤ r → n ≤ 1048576) ∧ Below w.heap.size w w' := by
  have hw : IntKind.i64.wrap (left - (n : Int)) = left - n := by rw [IntKind.wrap_i64]; omega
  replace hx := Lib.hid hx
  replace hS := Lib.hid hS
  by_cases h : left < n
  · have hlt : left - (n : Int) < 0 := by omega
    go_enter Tryd.func9, Tryd.ntmps9
    go_wp2
    go_ret
    exact ⟨-1, rfl, fun h => by omega, Below.refl _ _⟩
  · have hlt : ¬ (left - (n : Int) < 0) := by omega
    go_enter Tryd.func9, Tryd.ntmps9
    go_wp2_with fail
    go_loopw [1, 5] (fun v1 v5 wr => ∃ (k : Nat) (l : Int), k ≤ n ∧ v5 = .int .i64 k ∧ v1 = .int .i64 l ∧ 0 ≤ l ∧ l ≤ 1048576 ∧ Hid (Below w.heap.size w wr)) (fun v1 v5 _ => (n - intOf v5).toNat)
    case atStart => exact ⟨0, left - n, by omega, rfl, rfl, by omega, by omega, Lib.hid (Below.refl _ _)⟩
    case round =>
      obtain ⟨k, l, hk, rfl, rfl, l0, l1, hbel⟩ := hrel
      by_cases hlt2 : k < n
      · obtain ⟨b', o, rfl, hbB, hcode⟩ := hx.out (by omega)
        obtain ⟨g0, g1, g2, g3, g4⟩ := hcode k hlt2
        rw [← hbel.out.cell (by simp; omega)] at g0 g1 g2 g3 g4
        clear hcode
        have hs := hS.out k hlt2
        have hcall := fun W => szMark_any (M k).S (M k).x (M k).y (M k).s (M k).z l W l0 l1 hs
        obtain ⟨r, hr⟩ : ∃ r : Int, (if l < (M k).S.size then -1 else l - (M k).S.size) = r := ⟨_, rfl⟩
        have hr2 : r < 0 ∨ (0 ≤ r ∧ r ≤ 1048576) := by split at hr <;> omega
        simp only [hr] at hcall
        generalize (M k).S = T at *
        generalize (M k).x = x at *
        generalize (M k).y = y at *
        generalize (M k).s = s at *
        generalize (M k).z = z at *
        replace hcall := Lib.hid hcall
        clear hr hs
        go_wp2_with fail
        refine (hcall.out _).mono ?_
        rintro e w1 ⟨rfl, hb1⟩
        have hb2 := Lib.hid (hbel.out.trans (hb1.mono hbel.out.size))
        rcases hr2 with hr2 | ⟨r0, r1⟩
        · go_wp2
          go_ret
          exact ⟨-1, rfl, fun h => by omega, hb2.out⟩
        · have r0' : ¬ r < 0 := by omega
          go_wp2
          go_roundw
          case rel => exact ⟨k + 1, r, by omega, by go_num, rfl, r0, r1, hb2⟩
          case measure => simp [intOf]; omega
      · obtain rfl : k = n := by omega
        go_wp2
        go_ret
        exact ⟨l, rfl, fun _ => by omega, hbel.out⟩
set_option maxRecDepth 100000 in
set_option maxHeartbeats 4000000 in
theorem toMark_any (S : ByteArray) (a b c d : Int) (w : World) : Calls Tryd.prog 22 #[.agg #[.string S, .int .i64 a, .int .i64 b, .int .i64 c, .int .i64 d]] w fun e w' => e = .returned (.agg #[.string S, .int .i64 a, .int .i64 b, .int .i64 c, .int .i64 d]) ∧ Below w.heap.size w w' := by
  have hp := fun W => toPoint_any a b W
  replace hp := Lib.hid hp
  go_enter Tryd.func22, Tryd.ntmps22
  go_wp2_with fail
  refine (hp.out _).mono ?_
  rintro e w1 ⟨rfl, hb1⟩
  have hX := ((Whole.new w 51 #[.string S, .int .i64 a, .int .i64 b, .int .i64 c, .int .i64 d]).alloc (.cells #[.string ⟨#[]⟩, .int .i64 0, .int .i64 0, .int .i64 0, .int .i64 0] 59)).alloc (.cells #[.string S, .int .i64 0, .int .i64 0, .int .i64 0, .int .i64 0] 59)
  have hR := ((Whole.new (w.alloc (.cells #[.string S, .int .i64 a, .int .i64 b, .int .i64 c, .int .i64 d] 51)) 59 #[.string ⟨#[]⟩, .int .i64 0, .int .i64 0, .int .i64 0, .int .i64 0])).alloc (.cells #[.string S, .int .i64 0, .int .i64 0, .int .i64 0, .int .i64 0] 59)
  have hO := Whole.new ((w.alloc (.cells #[.string S, .int .i64 a, .int .i64 b, .int .i64 c, .int .i64 d] 51)).alloc (.cells #[.string ⟨#[]⟩, .int .i64 0, .int .i64 0, .int .i64 0, .int .i64 0] 59)) 59 #[.string S, .int .i64 0, .int .i64 0, .int .i64 0, .int .i64 0]
  have hbel := ((((Below.refl w.heap.size w).alloc (Nat.le_refl _) (.cells #[.string S, .int .i64 a, .int .i64 b, .int .i64 c, .int .i64 d] 51)).alloc (by simp) (.cells #[.string ⟨#[]⟩, .int .i64 0, .int .i64 0, .int .i64 0, .int .i64 0] 59)).alloc (by simp; omega) (.cells #[.string S, .int .i64 0, .int .i64 0, .int .i64 0, .int .i64 0] 59)).trans (hb1.mono (by simp; omega))
  replace hX := hX.below hb1 (by simp; omega)
  replace hR := hR.below hb1 (by simp)
  replace hO := hO.below hb1 (by simp)
  simp only [World.size_alloc] at hR hO
  have x3 := hX.cell 3
  have x4 := hX.cell 4
  have o0 := hO.cell 0
  have o1 := hO.cell 1
  have o2 := hO.cell 2
  have o3 := hO.cell 3
  have o4 := hO.cell 4
  have f0 := hO.frz 0
  have f1 := hO.frz 1
  have f2 := hO.frz 2
  have f3 := hO.frz 3
  have f4 := hO.frz 4
  have r0 := hR.cell 0
  have r1 := hR.cell 1
  have r2 := hR.cell 2
  have r3 := hR.cell 3
  have r4 := hR.cell 4
  have s0 := hR.frz 0
  have s1 := hR.frz 1
  have s2 := hR.frz 2
  have s3 := hR.frz 3
  have s4 := hR.frz 4
  simp at x3 x4 o0 o1 o2 o3 o4 r0 r1 r2 r3 r4
  replace hX := Lib.hid hX
  replace hR := Lib.hid hR
  replace hO := Lib.hid hO
  replace hbel := Lib.hid hbel
  clear hb1
  have hR2 := (((((((((hR.out.far (p := ⟨w.heap.size + 1 + 1, 1, none⟩) (by simp) (.int .i64 a)).far (p := ⟨w.heap.size + 1 + 1, 2, none⟩) (by simp) (.int .i64 b)).far (p := ⟨w.heap.size + 1 + 1, 3, none⟩) (by simp) (.int .i64 c)).far (p := ⟨w.heap.size + 1 + 1, 4, none⟩) (by simp) (.int .i64 d)).put 0 (.string S)).put 1 (.int .i64 a)).put 2 (.int .i64 b)).put 3 (.int .i64 c)).put 4 (.int .i64 d))
  have hb2 := (((((((((hbel.out.setCell (p := ⟨w.heap.size + 1 + 1, 1, none⟩) (by simp; omega) (.int .i64 a)).setCell (p := ⟨w.heap.size + 1 + 1, 2, none⟩) (by simp; omega) (.int .i64 b)).setCell (p := ⟨w.heap.size + 1 + 1, 3, none⟩) (by simp; omega) (.int .i64 c)).setCell (p := ⟨w.heap.size + 1 + 1, 4, none⟩) (by simp; omega) (.int .i64 d)).setCell (p := ⟨w.heap.size + 1, 0, none⟩) (by simp) (.string S)).setCell (p := ⟨w.heap.size + 1, 1, none⟩) (by simp) (.int .i64 a)).setCell (p := ⟨w.heap.size + 1, 2, none⟩) (by simp) (.int .i64 b)).setCell (p := ⟨w.heap.size + 1, 3, none⟩) (by simp) (.int .i64 c)).setCell (p := ⟨w.heap.size + 1, 4, none⟩) (by simp) (.int .i64 d))
  have z0 := hR2.cell 0
  have z1 := hR2.cell 1
  have z2 := hR2.cell 2
  have z3 := hR2.cell 3
  have z4 := hR2.cell 4
  simp [Array.getElem?_setIfInBounds] at z0 z1 z2 z3 z4
  replace hb2 := Lib.hid hb2
  have hz := Lib.hid (And.intro z0 (And.intro z1 (And.intro z2 (And.intro z3 z4))))
  clear hR2 z0 z1 z2 z3 z4
  go_wp2
  obtain ⟨z0, z1, z2, z3, z4⟩ := hz.out
  refine bodyPost_ret (v := .agg #[.string S, .int .i64 a, .int .i64 b, .int .i64 c, .int .i64 d]) (by simp [results, Tryd.results22, go_sem, z0, z1, z2, z3, z4]) rfl ⟨rfl, hb2.out⟩
end Go.Proofs.YtfllbhgngolfnaaDoor
