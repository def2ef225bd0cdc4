/- The stations of a course: the program's and the reference's. -/
import Derived.Test.YtfllbhgngolfnaaDoorMks
set_option linter.unusedSimpArgs false
set_option linter.unusedVariables false
namespace Go.Proofs.YtfllbhgngolfnaaDoor
open Go.RowKit

theorem infoPoint : (Tryd.prog.info? 32).map (fun i => (i.zero, i.size, i.bytes)) = some (some (.agg #[.int .i64 0, .int .i64 0]), 2, 16) := by kernel_rfl
theorem own_base {w : World} {base b : Nat} {e : TypeId} {size : Nat} {v : Value} {n : Nat} {xs : List Value} (h : w.ownsRow base e size v n xs) (hb : b ≤ base) : w.ownsRow b e size v n xs :=
  ⟨h.1, h.2.imp id fun ⟨g, cap, cur, a, c, d⟩ => ⟨g, cap, cur, a, Nat.le_trans hb c, d⟩⟩
/-- A row of the call's own with one element of two cells. -/
theorem own_two {w : World} {g base : Nat} {e : TypeId} {u v : Value} (h : Whole w g e #[u, v]) (hb : base ≤ g) : w.ownsRow base e 2 (.slice (some ⟨g, 0, none⟩) 1 1) 1 [u, v] :=
  ⟨by simp, .inr ⟨g, 1, #[u, v], rfl, hb, h, Nat.le_refl _, by simp [maxLen], by simp, by simp⟩⟩
theorem news_two {w : World} {g : Nat} {e : TypeId} {u v : Value} (h : Whole w g e #[u, v]) : ∀ j x, [u, v][j]? = some x → w.cell? ((⟨g, 0, none⟩ : Addr).add j) = some x := by
  intro j x hx
  rw [add_zero_off, h.cell j]
  simpa using hx
/-- The places of the first n marks. -/
def stI (M : Nat → MkV) : Nat → List Int
  | 0 => []
  | k + 1 => stI M k ++ [(M k).x, (M k).y]
/-- The stations of a course, as numbers. -/
def stL (p q : Int) (M : Nat → MkV) (n : Nat) (r s : Int) : List Int := p :: q :: (stI M n ++ [r, s])
/-- The cells of a course. -/
abbrev crs (a b c d e f g h : Int) (A : Option Addr) (n cp : Nat) : Array Value := #[.int .i64 a, .int .i64 b, .int .i64 c, .int .i64 d, .int .i64 e, .int .i64 f, .int .i64 g, .int .i64 h, .slice A n cp]
/-- The stations on their way back. -/
def GaveP (w w' : World) (e : Ending) (m : Nat) (L : List Int) : Prop :=
  ∃ A c, e = .returned (.slice A m c) ∧ w'.ownsRow w.heap.size 32 2 (.slice A m c) m (L.map (Value.int .i64)) ∧ Below w.heap.size w w'

set_option maxRecDepth 100000 in
set_option maxHeartbeats 8000000 in
theorem stationsOf_any (a b c d e f g h p q r s : Int) (A : Option Addr) (n cp B : Nat) (M : Nat → MkV) (h1 : lnB a b c d = true) (h2 : lnB e f g h = true) (hp : (a + c) / 2 = p) (hq : (b + d) / 2 = q) (hr : (e + g) / 2 = r) (hs : (f + h) / 2 = s) (w : World) (hx : Mks w B A n M) (hB : B ≤ w.heap.size) (hn : n ≤ 1048576) :
    Calls Tryd.prog 24 #[.agg #[.int .i64 a, .int .i64 b, .int .i64 c, .int .i64 d, .int .i64 e, .int .i64 f, .int .i64 g, .int .i64 h, .slice A n cp]] w fun e w' => GaveP w w' e (n + 2) (stL p q M n r s) := by
  have m1 := fun W => middleOf_any a b c d p q h1 hp hq W
  have m2 := fun W => middleOf_any e f g h r s h2 hr hs W
  replace m1 := Lib.hid m1
  replace m2 := Lib.hid m2
  replace hx := Lib.hid hx
  clear h1 h2 hp hq hr hs
  obtain ⟨i0, hi, hz0', hz1', hz2'⟩ := info_parts infoPoint
  replace hi := Lib.hid hi
  replace hz0' := Lib.hid hz0'
  replace hz1' := Lib.hid hz1'
  replace hz2' := Lib.hid hz2'
  have hb0 := (Below.refl w.heap.size w).alloc (Nat.le_refl _) (.cells #[.int .i64 a, .int .i64 b, .int .i64 c, .int .i64 d, .int .i64 e, .int .i64 f, .int .i64 g, .int .i64 h, .slice A n cp] 37)
  have hW0 := Whole.new w 37 #[.int .i64 a, .int .i64 b, .int .i64 c, .int .i64 d, .int .i64 e, .int .i64 f, .int .i64 g, .int .i64 h, .slice A n cp]
  replace hb0 := Lib.hid hb0
  replace hW0 := Lib.hid hW0
  go_enter Tryd.func24, Tryd.ntmps24
  go_wp2_with fail
  refine (m1.out _).mono ?_
  rintro e1 w1 ⟨rfl, hb1⟩
  have hz1 := hb1.size
  simp only [World.size_alloc] at hz1
  have hW1 : Whole (w1.alloc (.cells #[.int .i64 p, .int .i64 q] 32)) w.heap.size 37 #[.int .i64 a, .int .i64 b, .int .i64 c, .int .i64 d, .int .i64 e, .int .i64 f, .int .i64 g, .int .i64 h, .slice A n cp] := (hW0.out.below hb1 (by simp)).alloc _
  have hB1 : Below w.heap.size w (w1.alloc (.cells #[.int .i64 p, .int .i64 q] 32)) := (hb0.out.trans (hb1.mono (by simp))).alloc (by omega) _
  have hO1 : (w1.alloc (.cells #[.int .i64 p, .int .i64 q] 32)).ownsRow (w.heap.size + 1) 32 2 (.slice (some ⟨w1.heap.size, 0, none⟩) 1 1) (0 + 1) ((p :: q :: stI M 0).map (Value.int .i64)) := own_two (Whole.new w1 32 #[.int .i64 p, .int .i64 q]) hz1
  have hs1 : w.heap.size + 1 ≤ (w1.alloc (.cells #[.int .i64 p, .int .i64 q] 32)).heap.size := by simp; omega

  have y8 : (w1.alloc (.cells #[.int .i64 p, .int .i64 q] 32)).cell? ⟨w.heap.size, 8, none⟩ = some (.slice A n cp) := by simpa using hW1.cell 8
  replace hW1 := Lib.hid hW1
  replace hB1 := Lib.hid hB1
  go_wp2_with fail
  clear y8
  go_loopw [3, 5, 13] (fun vo v5 vi wr => ∃ k : Nat, k ≤ n ∧ vi = .int .i64 k ∧ wr.ownsRow (w.heap.size + 1) 32 2 vo (k + 1) ((p :: q :: stI M k).map (Value.int .i64)) ∧ Hid (Whole wr w.heap.size 37 #[.int .i64 a, .int .i64 b, .int .i64 c, .int .i64 d, .int .i64 e, .int .i64 f, .int .i64 g, .int .i64 h, .slice A n cp]) ∧ Hid (Below w.heap.size w wr) ∧ w.heap.size + 1 ≤ wr.heap.size) (fun vo v5 vi _ => (n - intOf vi).toNat)
  case atStart => exact ⟨0, by omega, rfl, hO1, hW1, hB1, hs1⟩
  case round =>
    obtain ⟨k, hk1, rfl, hown, hW, hbel, hsz⟩ := hrel
    clear hO1 hW1 hB1 hs1
    have y8 : wr.cell? ⟨w.heap.size, 8, none⟩ = some (.slice A n cp) := by simpa using hW.out.cell 8
    by_cases h1 : k < n
    · obtain ⟨b', o, rfl, hbB, hcode⟩ := hx.out (by omega)
      obtain ⟨g0, g1, g2, g3, g4⟩ := hcode k h1
      rw [← hbel.out.cell (by simp; omega)] at g0 g1 g2 g3 g4
      have hb2l : b' < wr.heap.size := by omega
      clear hcode
      have hstp : (p :: q :: stI M (k + 1)) = (p :: q :: stI M k) ++ [(M k).x, (M k).y] := rfl
      obtain ⟨A', c', rfl, hnc, hcm⟩ := own_form hown
      generalize (p :: q :: stI M k) = L at hown hstp
      generalize (M k).S = T at *
      generalize (M k).x = x at *
      generalize (M k).y = y at *
      generalize (M k).s = z1 at *
      generalize (M k).z = z2 at *
      replace hstp := Lib.hid hstp
      go_wp2_with (at_builtin; refine wpList_append_own _ rfl _ _ 53 rfl (w.heap.size + 1) 32 i0 _ 2 16 Tryd.underlying53 hi.out hz0'.out hz1'.out hz2'.out rfl (by decide) _ _ _ rfl ((hown.alloc _).alloc _) ⟨wr.heap.size + 1, 0, none⟩ 1 1 [.int .i64 x, .int .i64 y] rfl rfl ?c1 ?c2 ?c3 ?c4 ?c5 ?_)
      case c1 =>
        have hN := Whole.new (wr.alloc (.cells #[.string T, .int .i64 x, .int .i64 y, .int .i64 z1, .int .i64 z2] 59)) 32 #[.int .i64 x, .int .i64 y]
        simp only [World.size_alloc] at hN
        exact news_two hN
      case c2 => simp [Value.oneCell']
      case c3 => simp only [maxLen]; omega
      case c4 => omega
      case c5 => simp; omega
      intro v' w3 hown3 hgrow _
      have hW3 : Whole w3 w.heap.size 37 #[.int .i64 a, .int .i64 b, .int .i64 c, .int .i64 d, .int .i64 e, .int .i64 f, .int .i64 g, .int .i64 h, .slice (some ⟨b', o, none⟩) n cp] := ((hW.out.alloc _).alloc _).grown hgrow (fun e => by have := (hown.lt _ e).1; omega)
      have hb3 : Below w.heap.size w w3 := ((hbel.out.alloc (by omega) _).alloc (by simp; omega) _).trans (below_only hgrow (by simp; omega) (fun k hk => by have := (hown.lt k hk).1; omega))
      have hz3 : w.heap.size + 1 ≤ w3.heap.size := by have := hgrow.size; simp at this; omega
      have hown4 : w3.ownsRow (w.heap.size + 1) 32 2 v' (k + 1 + 1) ((p :: q :: stI M (k + 1)).map (Value.int .i64)) := by
        rw [hstp.out]; simpa using hown3
      replace hW3 := Lib.hid hW3
      replace hb3 := Lib.hid hb3
      clear hown hown3 hgrow hW hbel
      go_wp2
      go_roundw
      case rel => exact ⟨k + 1, by omega, by go_num, hown4, hW3, hb3, hz3⟩
      case measure => simp [intOf]; omega
    · obtain rfl : k = n := by omega
      have y4 : wr.cell? ⟨w.heap.size, 4, none⟩ = some (.int .i64 e) := by simpa using hW.out.cell 4
      have y5 : wr.cell? ⟨w.heap.size, 5, none⟩ = some (.int .i64 f) := by simpa using hW.out.cell 5
      have y6 : wr.cell? ⟨w.heap.size, 6, none⟩ = some (.int .i64 g) := by simpa using hW.out.cell 6
      have y7 : wr.cell? ⟨w.heap.size, 7, none⟩ = some (.int .i64 h) := by simpa using hW.out.cell 7
      obtain ⟨A', c', rfl, hnc, hcm⟩ := own_form hown
      have hstp : stL p q M k r s = (p :: q :: stI M k) ++ [r, s] := rfl
      generalize (p :: q :: stI M k) = L at hown hstp
      replace hstp := Lib.hid hstp
      go_wp2_with fail
      refine (m2.out _).mono ?_
      rintro e1 w2 ⟨rfl, hb2⟩
      have hz2 := hb2.size
      have hown2 := own_below hown hb2
      clear y4 y5 y6 y7 y8 hW
      go_wp2_with (at_builtin; refine wpList_append_own _ rfl _ _ 53 rfl (w.heap.size + 1) 32 i0 _ 2 16 Tryd.underlying53 hi.out hz0'.out hz1'.out hz2'.out rfl (by decide) _ _ _ rfl (hown2.alloc _) ⟨w2.heap.size, 0, none⟩ 1 1 [.int .i64 r, .int .i64 s] rfl rfl ?c1 ?c2 ?c3 ?c4 ?c5 ?_)
      case c1 => exact news_two (Whole.new w2 32 #[.int .i64 r, .int .i64 s])
      case c2 => simp [Value.oneCell']
      case c3 => simp only [maxLen]; omega
      case c4 => omega
      case c5 => simp; omega
      intro v' w3 hown3 hgrow _
      have hb3 : Below w.heap.size w w3 := ((hbel.out.trans (hb2.mono (by omega))).alloc (by omega) _).trans (below_only hgrow (by simp; omega) (fun k hk => by have := (hown.lt k hk).1; omega))
      have hown4 : w3.ownsRow (w.heap.size + 1) 32 2 v' (k + 2) ((stL p q M k r s).map (Value.int .i64)) := by
        rw [hstp.out]; simpa using hown3
      obtain ⟨A4, c4, rfl, hnc4, hcm4⟩ := own_form hown4
      replace hb3 := Lib.hid hb3
      clear hown hown3 hgrow hbel hown2
      go_wp2
      go_ret
      exact ⟨A4, c4, rfl, own_base hown4 (Nat.le_succ _), hb3.out⟩
set_option maxRecDepth 100000 in
set_option maxHeartbeats 8000000 in
theorem l04Stations_any (a b c d e f g h p q r s : Int) (A : Option Addr) (n cp B : Nat) (M : Nat → MkV) (h1 : lnB a b c d = true) (h2 : lnB e f g h = true) (hp : (a + c) / 2 = p) (hq : (b + d) / 2 = q) (hr : (e + g) / 2 = r) (hs : (f + h) / 2 = s) (w : World) (hx : Mks w B A n M) (hB : B ≤ w.heap.size) (hn : n ≤ 1048576) :
    Calls Tryd.prog 18 #[.agg #[.int .i64 a, .int .i64 b, .int .i64 c, .int .i64 d, .int .i64 e, .int .i64 f, .int .i64 g, .int .i64 h, .slice A n cp]] w fun e w' => GaveP w w' e (n + 2) (stL p q M n r s) := by
  have m1 := fun W => l04Middle_any a b c d p q h1 hp hq W
  have m2 := fun W => l04Middle_any e f g h r s h2 hr hs W
  replace m1 := Lib.hid m1
  replace m2 := Lib.hid m2
  replace hx := Lib.hid hx
  clear h1 h2 hp hq hr hs
  obtain ⟨i0, hi, hz0', hz1', hz2'⟩ := info_parts infoPoint
  replace hi := Lib.hid hi
  replace hz0' := Lib.hid hz0'
  replace hz1' := Lib.hid hz1'
  replace hz2' := Lib.hid hz2'
  have hb0 := (Below.refl w.heap.size w).alloc (Nat.le_refl _) (.cells #[.int .i64 a, .int .i64 b, .int .i64 c, .int .i64 d, .int .i64 e, .int .i64 f, .int .i64 g, .int .i64 h, .slice A n cp] 37)
  have hW0 := Whole.new w 37 #[.int .i64 a, .int .i64 b, .int .i64 c, .int .i64 d, .int .i64 e, .int .i64 f, .int .i64 g, .int .i64 h, .slice A n cp]
  replace hb0 := Lib.hid hb0
  replace hW0 := Lib.hid hW0
  go_enter Tryd.func18, Tryd.ntmps18
  go_wp2_with fail
  refine (m1.out _).mono ?_
  rintro e1 w1 ⟨rfl, hb1⟩
  have hz1 := hb1.size
  simp only [World.size_alloc] at hz1
  have hW1 : Whole (w1.alloc (.cells #[.int .i64 p, .int .i64 q] 32)) w.heap.size 37 #[.int .i64 a, .int .i64 b, .int .i64 c, .int .i64 d, .int .i64 e, .int .i64 f, .int .i64 g, .int .i64 h, .slice A n cp] := (hW0.out.below hb1 (by simp)).alloc _
  have hB1 : Below w.heap.size w (w1.alloc (.cells #[.int .i64 p, .int .i64 q] 32)) := (hb0.out.trans (hb1.mono (by simp))).alloc (by omega) _
  have hO1 : (w1.alloc (.cells #[.int .i64 p, .int .i64 q] 32)).ownsRow (w.heap.size + 1) 32 2 (.slice (some ⟨w1.heap.size, 0, none⟩) 1 1) (0 + 1) ((p :: q :: stI M 0).map (Value.int .i64)) := own_two (Whole.new w1 32 #[.int .i64 p, .int .i64 q]) hz1
  have hs1 : w.heap.size + 1 ≤ (w1.alloc (.cells #[.int .i64 p, .int .i64 q] 32)).heap.size := by simp; omega

  have y8 : (w1.alloc (.cells #[.int .i64 p, .int .i64 q] 32)).cell? ⟨w.heap.size, 8, none⟩ = some (.slice A n cp) := by simpa using hW1.cell 8
  replace hW1 := Lib.hid hW1
  replace hB1 := Lib.hid hB1
  go_wp2_with fail
  clear y8
  go_loopw [3, 4] (fun vo vi wr => ∃ k : Nat, k ≤ n ∧ vi = .int .i64 k ∧ wr.ownsRow (w.heap.size + 1) 32 2 vo (k + 1) ((p :: q :: stI M k).map (Value.int .i64)) ∧ Hid (Whole wr w.heap.size 37 #[.int .i64 a, .int .i64 b, .int .i64 c, .int .i64 d, .int .i64 e, .int .i64 f, .int .i64 g, .int .i64 h, .slice A n cp]) ∧ Hid (Below w.heap.size w wr) ∧ w.heap.size + 1 ≤ wr.heap.size) (fun vo vi _ => (n - intOf vi).toNat)
  case atStart => exact ⟨0, by omega, rfl, hO1, hW1, hB1, hs1⟩
  case round =>
    obtain ⟨k, hk1, rfl, hown, hW, hbel, hsz⟩ := hrel
    clear hO1 hW1 hB1 hs1
    have y8 : wr.cell? ⟨w.heap.size, 8, none⟩ = some (.slice A n cp) := by simpa using hW.out.cell 8
    by_cases h1 : k < n
    · obtain ⟨b', o, rfl, hbB, hcode⟩ := hx.out (by omega)
      obtain ⟨g0, g1, g2, g3, g4⟩ := hcode k h1
      rw [← hbel.out.cell (by simp; omega)] at g0 g1 g2 g3 g4
      have hb2l : b' < wr.heap.size := by omega
      clear hcode
      have hstp : (p :: q :: stI M (k + 1)) = (p :: q :: stI M k) ++ [(M k).x, (M k).y] := rfl
      obtain ⟨A', c', rfl, hnc, hcm⟩ := own_form hown
      generalize (p :: q :: stI M k) = L at hown hstp
      generalize (M k).S = T at *
      generalize (M k).x = x at *
      generalize (M k).y = y at *
      generalize (M k).s = z1 at *
      generalize (M k).z = z2 at *
      replace hstp := Lib.hid hstp
      go_wp2_with (at_builtin; refine wpList_append_own _ rfl _ _ 53 rfl (w.heap.size + 1) 32 i0 _ 2 16 Tryd.underlying53 hi.out hz0'.out hz1'.out hz2'.out rfl (by decide) _ _ _ rfl (hown.alloc _) ⟨wr.heap.size, 0, none⟩ 1 1 [.int .i64 x, .int .i64 y] rfl rfl ?c1 ?c2 ?c3 ?c4 ?c5 ?_)
      case c1 => exact news_two (Whole.new wr 32 #[.int .i64 x, .int .i64 y])
      case c2 => simp [Value.oneCell']
      case c3 => simp only [maxLen]; omega
      case c4 => omega
      case c5 => simp; omega
      intro v' w3 hown3 hgrow _
      have hW3 : Whole w3 w.heap.size 37 #[.int .i64 a, .int .i64 b, .int .i64 c, .int .i64 d, .int .i64 e, .int .i64 f, .int .i64 g, .int .i64 h, .slice (some ⟨b', o, none⟩) n cp] := (hW.out.alloc _).grown hgrow (fun e => by have := (hown.lt _ e).1; omega)
      have hb3 : Below w.heap.size w w3 := (hbel.out.alloc (by omega) _).trans (below_only hgrow (by simp; omega) (fun k hk => by have := (hown.lt k hk).1; omega))
      have hz3 : w.heap.size + 1 ≤ w3.heap.size := by have := hgrow.size; simp at this; omega
      have hown4 : w3.ownsRow (w.heap.size + 1) 32 2 v' (k + 1 + 1) ((p :: q :: stI M (k + 1)).map (Value.int .i64)) := by
        rw [hstp.out]; simpa using hown3
      replace hW3 := Lib.hid hW3
      replace hb3 := Lib.hid hb3
      clear hown hown3 hgrow hW hbel
      go_wp2
      go_roundw
      case rel => exact ⟨k + 1, by omega, by go_num, hown4, hW3, hb3, hz3⟩
      case measure => simp [intOf]; omega
    · obtain rfl : k = n := by omega
      have y4 : wr.cell? ⟨w.heap.size, 4, none⟩ = some (.int .i64 e) := by simpa using hW.out.cell 4
      have y5 : wr.cell? ⟨w.heap.size, 5, none⟩ = some (.int .i64 f) := by simpa using hW.out.cell 5
      have y6 : wr.cell? ⟨w.heap.size, 6, none⟩ = some (.int .i64 g) := by simpa using hW.out.cell 6
      have y7 : wr.cell? ⟨w.heap.size, 7, none⟩ = some (.int .i64 h) := by simpa using hW.out.cell 7
      obtain ⟨A', c', rfl, hnc, hcm⟩ := own_form hown
      have hstp : stL p q M k r s = (p :: q :: stI M k) ++ [r, s] := rfl
      generalize (p :: q :: stI M k) = L at hown hstp
      replace hstp := Lib.hid hstp
      go_wp2_with fail
      refine (m2.out _).mono ?_
      rintro e1 w2 ⟨rfl, hb2⟩
      have hz2 := hb2.size
      have hown2 := own_below hown hb2
      clear y4 y5 y6 y7 y8 hW
      go_wp2_with (at_builtin; refine wpList_append_own _ rfl _ _ 53 rfl (w.heap.size + 1) 32 i0 _ 2 16 Tryd.underlying53 hi.out hz0'.out hz1'.out hz2'.out rfl (by decide) _ _ _ rfl (hown2.alloc _) ⟨w2.heap.size, 0, none⟩ 1 1 [.int .i64 r, .int .i64 s] rfl rfl ?c1 ?c2 ?c3 ?c4 ?c5 ?_)
      case c1 => exact news_two (Whole.new w2 32 #[.int .i64 r, .int .i64 s])
      case c2 => simp [Value.oneCell']
      case c3 => simp only [maxLen]; omega
      case c4 => omega
      case c5 => simp; omega
      intro v' w3 hown3 hgrow _
      have hb3 : Below w.heap.size w w3 := ((hbel.out.trans (hb2.mono (by omega))).alloc (by omega) _).trans (below_only hgrow (by simp; omega) (fun k hk => by have := (hown.lt k hk).1; omega))
      have hown4 : w3.ownsRow (w.heap.size + 1) 32 2 v' (k + 2) ((stL p q M k r s).map (Value.int .i64)) := by
        rw [hstp.out]; simpa using hown3
      obtain ⟨A4, c4, rfl, hnc4, hcm4⟩ := own_form hown4
      replace hb3 := Lib.hid hb3
      clear hown hown3 hgrow hbel hown2
      go_wp2
      go_ret
      exact ⟨A4, c4, rfl, own_base hown4 (Nat.le_succ _), hb3.out⟩
end Go.Proofs.YtfllbhgngolfnaaDoor
