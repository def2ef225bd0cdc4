/- The draw of a history and a ruling off a code. -/
import Derived.Test.YteacjoemlobmoaaDoorRul
import Derived.Test.YteacjoemlobmoaaDoorInv
set_option linter.unusedSimpArgs false
set_option linter.unusedVariables false
namespace Go.Proofs.YteacjoemlobmoaaDoor
open Go.RowKit Go.Shelf

def litT : List Int := [0, 1, 86400000, 86400001, 604800000, 604800001]
/-- Twenty rulings, two at a time. -/
def twL : Nat → List Int
  | 0 => []
  | q + 1 => twL q ++ [0, 1, 0, 0, 4, 0]
theorem twL_len : ∀ q, (twL q).length = q * 2 * 3
  | 0 => rfl
  | q + 1 => by unfold twL; rw [List.length_append, twL_len q]; simp; omega
def lenV : Value → Nat
  | .slice _ n _ => n
  | _ => 0
theorem ints_put3 {w : World} {B b g n : Nat} {xs : Nat → Int} (h : Ints w B (some ⟨b, 0, none⟩) n xs) (hg : g < b) (u v y : Value) : Ints (((w.setCell ⟨g, 0, none⟩ u).setCell ⟨g, 1, none⟩ v).setCell ⟨g, 2, none⟩ y) B (some ⟨b, 0, none⟩) n xs := fun hn => by
  obtain ⟨b', o, e, hb, hcl⟩ := h hn
  injection e with e
  injection e with e1 e2 _
  subst e1
  subst e2
  refine ⟨_, _, rfl, hb, fun j hj => ?_⟩
  rw [World.cell?_of_block (Below.heap_setCell _ ⟨g, 2, none⟩ y b (by simp; omega)), World.cell?_of_block (Below.heap_setCell _ ⟨g, 1, none⟩ v b (by simp; omega)), World.cell?_of_block (Below.heap_setCell _ ⟨g, 0, none⟩ u b (by simp; omega))]
  exact hcl j hj
def DrewR (n : Nat) (xs : Nat → Int) (t k u : Int) (w w' : World) (e : Ending) : Prop :=
  ∃ (b c : Nat), e = .returned (.tuple #[.slice (some ⟨b, 0, none⟩) n c, .agg #[.int .i64 t, .int .i64 k, .int .i64 u]]) ∧ n ≤ 20 ∧ n ≤ c ∧ c ≤ maxLen ∧ Ints w' w'.heap.size (some ⟨b, 0, none⟩) (n * 3) xs ∧ Below w.heap.size w w' ∧ w.heap.size ≤ b

def rdPD : Nat → Nat
  | 0 => 16
  | 1 => 17
  | 2 => 18
  | 3 => 19
  | 4 => 20
  | 5 => 21
  | 6 => 22
  | 7 => 23
  | 8 => 24
  | 9 => 25
  | 10 => 26
  | 11 => 27
  | 12 => 28
  | 13 => 6
  | _ => 0
def rdPG (b ν c g ρ : Nat) (z lv t1 : Int) : Nat → Value → World → Prop
  | 0, y, W => y = .slice (some ⟨b, 0, none⟩) (ν + 1) c
  | 1, y, W => y = .slice (some ⟨b, 0, none⟩) (ν + 1) c
  | 2, y, W => y = .int .i64 ((ν : Int) + 1)
  | 3, y, W => y = .int .i64 ν
  | 4, y, W => y = .pointer (some ⟨b, ν * 3, none⟩)
  | 5, y, W => y = .pointer (some ⟨b, ν * 3, none⟩)
  | 6, y, W => y = .int .i64 z
  | 7, y, W => ∃ q, y = .slice (some ⟨q, 0, none⟩) 6 6 ∧ g < q ∧ Whole W q 2 #[.int .i64 0, .int .i64 1, .int .i64 86400000, .int .i64 86400001, .int .i64 604800000, .int .i64 604800001]
  | 8, y, W => y = .pointer (some ⟨g, 0, none⟩)
  | 9, y, W => y = .int .i64 ρ
  | 10, y, W => ∃ p, y = .pointer (some p) ∧ g < p.block ∧ p.block < W.heap.size ∧ W.cell? p = some (.int .i64 lv)
  | 11, y, W => y = .int .i64 lv
  | 12, y, W => y = .int .i64 t1
  | 13, y, W => y = .int .i64 t1
  | _, _, _ => True
theorem rdP_be {b ν c g ρ : Nat} {z lv t1 : Int} {w w' : World} (hg : w.grownBy w' (some g)) : ∀ {j : Nat} {y : Value}, rdPG b ν c g ρ z lv t1 j y w → rdPG b ν c g ρ z lv t1 j y w'
  | 7, _, ⟨q, h1, h2, h3⟩ => ⟨q, h1, h2, h3.grown hg (fun e => by injection e with e; omega)⟩
  | 10, _, ⟨p, h1, h2, h3, h4⟩ => ⟨p, h1, h2, Nat.lt_of_lt_of_le h3 hg.size, (World.cell?_of_block (hg.block p.block h3 (fun e => by injection e with e; omega))).trans h4⟩
  | 0, _, h => h
  | 1, _, h => h
  | 2, _, h => h
  | 3, _, h => h
  | 4, _, h => h
  | 5, _, h => h
  | 6, _, h => h
  | 8, _, h => h
  | 9, _, h => h
  | 11, _, h => h
  | 12, _, h => h
  | 13, _, h => h
  | _ + 14, _, h => h
set_option maxRecDepth 100000 in
set_option maxHeartbeats 16000000 in
theorem drawAddRuling_ex (m : Nat) (bs : Nat → Int) (hm : m ≤ 100000) (hb : ∀ j, 0 ≤ bs j ∧ bs j ≤ 255) : ∃ (n : Nat) (xs : Nat → Int) (t k u : Int),
    ∀ (A : Option Addr) (c : Nat) (w : World), Nums .u8 w w.heap.size A m bs → Calls Tryd.prog 9 #[.slice A m c] w fun e w' => DrewR n xs t k u w w' e := by
  obtain ⟨P, hP⟩ : ∃ P, drawH m bs (0, fromV bs (min m 64)) = P := ⟨_, rfl⟩
  obtain ⟨zs, s0⟩ := P
  obtain ⟨n0, hn0⟩ : ∃ n0, zs.length / 3 = n0 := ⟨_, rfl⟩
  obtain ⟨t0, ht0⟩ : ∃ r, nextV 1000 m bs s0 = r := ⟨_, rfl⟩
  obtain ⟨s1, hs1⟩ : ∃ x, nextS 1000 m s0 = x := ⟨_, rfl⟩
  obtain ⟨t1, s2, hT0, hT1⟩ : ∃ (t1 : Int) (s2 : Nat × Int), (n0 = 0 → t1 = t0 ∧ s2 = s1) ∧ (0 < n0 → IntKind.i64.wrap (zs.getD ((n0 - 1) * 3) 0 + litT.getD (nextV 6 m bs s1).toNat 0) = t1 ∧ nextS 6 m s1 = s2) := by
    rcases Nat.eq_zero_or_pos n0 with h | h
    · exact ⟨t0, s1, fun _ => ⟨rfl, rfl⟩, fun h' => by omega⟩
    · exact ⟨_, _, fun h' => by omega, fun _ => ⟨rfl, rfl⟩⟩
  obtain ⟨d, hd⟩ : ∃ r, nextV 24 m bs s2 = r := ⟨_, rfl⟩
  obtain ⟨s3, hs3⟩ : ∃ x, nextS 24 m s2 = x := ⟨_, rfl⟩
  obtain ⟨n, xs, hF0, hF1⟩ : ∃ (n : Nat) (xs : Nat → Int), (d = 0 → n = 20 ∧ xs = xsOf (twL 10)) ∧ (d ≠ 0 → n = n0 ∧ xs = xsOf zs) := by
    by_cases h : d = 0
    · exact ⟨_, _, fun _ => ⟨rfl, rfl⟩, fun h' => absurd h h'⟩
    · exact ⟨_, _, fun h' => absurd h' h, fun _ => ⟨rfl, rfl⟩⟩
  obtain ⟨kv, hk⟩ : ∃ r, nextV 5 m bs s3 = r := ⟨_, rfl⟩
  obtain ⟨s4, hs4⟩ : ∃ x, nextS 5 m s3 = x := ⟨_, rfl⟩
  obtain ⟨u, hu⟩ : ∃ x, (rulO m bs (1 + kv) s4).1 = x := ⟨_, rfl⟩
  refine ⟨n, xs, t1, 1 + kv, u, ?_⟩
  replace hP := Lib.hid hP
  replace hT0 := Lib.hid hT0
  replace hT1 := Lib.hid hT1
  replace hF0 := Lib.hid hF0
  replace hF1 := Lib.hid hF1
  replace ht0 := Lib.hid ht0
  replace hs1 := Lib.hid hs1
  replace hd := Lib.hid hd
  replace hs3 := Lib.hid hs3
  replace hk := Lib.hid hk
  replace hs4 := Lib.hid hs4
  replace hu := Lib.hid hu
  obtain ⟨i0, hi, hz0', hz1', hz2'⟩ := info_parts infoAppealRuling
  replace hi := Lib.hid hi
  replace hz0' := Lib.hid hz0'
  replace hz1' := Lib.hid hz1'
  replace hz2' := Lib.hid hz2'
  intro A c0 w hc
  have hX0 := Whole.new w 25 #[.int .i64 0, .int .i64 0, .int .i64 0]
  have hb0 : Below w.heap.size w (w.alloc (.cells #[.int .i64 0, .int .i64 0, .int .i64 0] 25)) := (Below.refl _ _).alloc (Nat.le_refl _) _
  have hc0 := (hc.below hb0).more hb0.size
  clear hc
  replace hX0 := Lib.hid hX0
  go_enter Tryd.func9, Tryd.ntmps9
  go_wp2_with fail
  refine (from_any _ _ _ _ _ _ hc0 (Nat.le_refl _) hm hb).mono ?_
  rintro e w1 ⟨rfl, hS1, hb1⟩
  have hX1 := hX0.out.below hb1 hX0.out.lt
  have hbb := hb0.trans (hb1.mono (B' := w.heap.size) hb0.size)
  simp only [World.size_alloc] at hS1 ⊢
  obtain ⟨g, hg⟩ : ∃ g, w.heap.size + 1 = g := ⟨_, rfl⟩
  rw [hg] at hS1 ⊢
  obtain ⟨B, hB0⟩ : ∃ B, B = w.heap.size + 1 := ⟨_, rfl⟩
  have hSB : ∃ B, Src w1 B g m bs (0, fromV bs (min m 64)) := ⟨_, hS1⟩
  clear hB0 B hc0 hb0 hb1 hX0 hS1
  obtain ⟨B, hS1⟩ := hSB
  have hl := hS1.lt
  have hbz := hbb.size
  go_wp2_with fail
  refine (l19Draw_any _ _ _ _ _ _ hS1).mono ?_
  rw [hP.out]
  rintro e w2 ⟨v, n', rfl, hl2, hn8, hown, hS2, hg2, hv0⟩
  dsimp only at hl2 hown hS2
  obtain rfl : n0 = n' := by omega
  obtain ⟨b, c, hv, hnc, hcm, hbw⟩ : ∃ b c : Nat, v = .slice (some ⟨b, 0, none⟩) n0 c ∧ n0 ≤ c ∧ c ≤ maxLen ∧ w.heap.size ≤ b := by
    rcases Nat.eq_zero_or_pos n0 with h | h
    · subst h
      exact ⟨_, 0, hv0 rfl, Nat.le_refl _, by simp [maxLen], hbz⟩
    · obtain ⟨g', cap, cur, e, h0, -, h1, h2, -⟩ := own_open hown h
      exact ⟨g', cap, e, h1, h2, by omega⟩
  subst hv
  have hX2 := hX1.grown hg2 (fun e => by injection e with e; omega)
  have hbb2 := hbb.trans (below_only hg2 hbz (fun k e => by injection e with e; omega))
  have hz2 := hg2.size
  clear hS1 hg2 hX1 hbb hv0
  go_wp2_with fail
  refine (next_val _ _ _ _ _ _ _ _ _ hS2 ht0.out hs1.out (by omega) (by omega)).mono ?_
  rintro e wo ⟨rfl, t00, t01, hSo, hgo⟩
  have hXo := hX2.grown hgo (fun e => by injection e with e; omega)
  have howno := own_only hown hgo (fun k e => by injection e with e; omega)
  have hbbo := hbb2.trans (below_only hgo hbb2.size (fun k e => by injection e with e; omega))
  have hzo := hgo.size
  have hxl := hXo.lt
  clear hS2 hgo hX2 hown hbb2
  rcases Nat.eq_zero_or_pos n0 with hn | hn
  · subst hn
    obtain ⟨e1, e2⟩ := hT0.out rfl
    subst e1
    subst e2
    go_wp2_with fail
    refine (next_val _ _ _ _ _ _ _ _ _ hSo hd.out hs3.out (by omega) (by omega)).mono ?_
    rintro e w3 ⟨rfl, d0, d1, hS3, hg3⟩
    have hX3 := hXo.grown hg3 (fun e => by injection e with e; omega)
    have hown3 := own_only howno hg3 (fun k e => by injection e with e; omega)
    have hbb3 := hbbo.trans (below_only hg3 hbbo.size (fun k e => by injection e with e; omega))
    have hz3 := hg3.size
    have hl3 := hS3.lt
    clear hSo hXo howno hbbo hg3
    by_cases h24 : d = 0
    · subst h24
      obtain ⟨eN, eX⟩ := hF0.out (by trivial)
      subst eN
      subst eX
      have hownz : (w3.alloc (.cells #[] 25)).ownsRow w3.heap.size 25 3 (.slice (some ⟨w3.heap.size, 0, none⟩) 0 0) 0 ((twL 0).map (Value.int .i64)) := own_empty (Whole.new _ _ _) (Nat.le_refl _)
      have hXz := hX3.alloc (.cells #[] 25)
      have hSz := hS3.new (.cells #[] 25)
      have hbz := hbb3.alloc hbb3.size (.cells #[] 25)
      have hxl3 := hX3.lt
      clear hown3 hX3 hS3 hbb3
      go_wp2_with fail
      go_loopw [5] (fun v5 wr => ∃ q : Nat, q ≤ 10 ∧ wr.ownsRow w3.heap.size 25 3 v5 (q * 2) ((twL q).map (Value.int .i64)) ∧ Whole wr w.heap.size 25 #[.int .i64 0, .int .i64 0, .int .i64 0] ∧ Src wr B g m bs s3 ∧ w3.heap.size ≤ wr.heap.size ∧ Below w.heap.size w wr) (fun v5 _ => 20 - lenV v5)
      case atStart => exact ⟨0, by omega, hownz, hXz, hSz, by simp, hbz⟩
      case round =>
        obtain ⟨q, hq, hownr, hXr, hSr, hzr, hbr⟩ := hrel
        clear hownz hXz hSz hbz
        obtain ⟨g5, cap5, e5, hc5, hm5⟩ : ∃ b c : Nat, True ∧ q * 2 ≤ c ∧ c ≤ maxLen := by
          obtain ⟨A5, c5, -, h1, h2⟩ := own_form hownr
          exact ⟨0, c5, trivial, h1, h2⟩
        obtain ⟨A5, c5, rfl, hnc5, hcm5⟩ := own_form hownr
        clear e5 hc5 hm5
        by_cases hlt : q < 10
        · have hlt' : (q : Int) * 2 < 20 := by omega
          have hnew := Whole.new wr 25 #[.int .i64 0, .int .i64 1, .int .i64 0, .int .i64 0, .int .i64 4, .int .i64 0]
          go_wp2_with (at_builtin; refine wpList_append_own_at _ rfl _ _ 30 rfl w3.heap.size 25 i0 _ 3 24 Tryd.underlying30 hi.out hz0'.out hz1'.out hz2'.out rfl (by decide) _ _ _ rfl (hownr.alloc _) ⟨wr.heap.size, 0, none⟩ 2 2 [.int .i64 0, .int .i64 1, .int .i64 0, .int .i64 0, .int .i64 4, .int .i64 0] rfl rfl ?c1 ?c2 ?c3 ?c4 ?c5 ?_)
          case c1 =>
            intro j u hu
            rw [add_zero_off, hnew.cell]
            simpa using hu
          case c2 => simp [Value.oneCell']
          case c3 => simp only [maxLen]; omega
          case c4 => omega
          case c5 => simp; omega
          intro v' w8 hown' hgrow _ hat
          have hlt8 := fun k hk => (hownr.lt k hk).1
          have hbb8 : Below w.heap.size w w8 := (hbr.alloc hbr.size _).trans (below_only hgrow (by have := hbr.size; simp; omega) (fun k hk => by have := hlt8 k hk; omega))
          have hX8 := (hXr.alloc (.cells #[.int .i64 0, .int .i64 1, .int .i64 0, .int .i64 0, .int .i64 4, .int .i64 0] 25)).grown hgrow (fun e => by have := hlt8 _ e; omega)
          have hS8 := (hSr.new (.cells #[.int .i64 0, .int .i64 1, .int .i64 0, .int .i64 0, .int .i64 4, .int .i64 0] 25)).keepOnly hgrow (fun k hk => by have := hlt8 k hk; omega)
          have hown8 : w8.ownsRow w3.heap.size 25 3 v' ((q + 1) * 2) ((twL (q + 1)).map (Value.int .i64)) := by
            have e : (q + 1) * 2 = q * 2 + 2 := by omega
            rw [e]
            simpa [twL] using hown'
          have hz8 := hgrow.size
          simp only [World.size_alloc] at hz8
          obtain ⟨g8, cap8, cur8, rfl, -⟩ := own_open hown8 (by omega)
          clear hown' hgrow hat hownr hXr hSr hbr hnew
          go_wp2
          go_roundw
          case rel => exact ⟨q + 1, by omega, hown8, hX8, hS8, by omega, hbb8⟩
          case measure => simp [lenV]; omega
        · obtain rfl : q = 10 := by omega
          obtain ⟨g8, cap8, cur8, hv8, hg8, -⟩ := own_open hownr (by omega)
          injection hv8 with hv8 _ hv9
          subst hv8
          subst hv9
          go_wp2_with fail
          refine (next_val _ _ _ _ _ _ _ _ _ hSr hk.out hs4.out (by omega) (by omega)).mono ?_
          rintro e w5 ⟨rfl, k0, k1, hS5, hg5⟩
          have hX5 := hXr.grown hg5 (fun e => by injection e with e; omega)
          have hown5 := own_only hownr hg5 (fun k e => by injection e with e; omega)
          have hbb5 := hbr.trans (below_only hg5 hbr.size (fun k e => by injection e with e; omega))
          have hwk : IntKind.i64.wrap (1 + kv) = 1 + kv := by rw [IntKind.wrap_i64]; omega
          clear hownr hXr hSr hbr hg5
          go_wp2_with fail
          refine (l19DrawRuling_any _ _ _ _ _ _ _ _ hS5).mono ?_
          rw [hu.out]
          rintro e w6 ⟨rfl, hS6, hg6⟩
          have hX6 := hX5.grown hg6 (fun e => by injection e with e; omega)
          have hown6 := own_only hown5 hg6 (fun k e => by injection e with e; omega)
          have hbb6 := hbb5.trans (below_only hg6 hbb5.size (fun k e => by injection e with e; omega))
          have z0 : w6.cell? ⟨w.heap.size, 0, none⟩ = some (.int .i64 0) := by simpa using hX6.cell 0
          have z1 : w6.cell? ⟨w.heap.size, 1, none⟩ = some (.int .i64 0) := by simpa using hX6.cell 1
          have z2 : w6.cell? ⟨w.heap.size, 2, none⟩ = some (.int .i64 0) := by simpa using hX6.cell 2
          have f0 := hX6.frz 0
          have f1 := hX6.frz 1
          have f2 := hX6.frz 2
          have hF := ((hX6.put 0 (.int .i64 t1)).put 1 (.int .i64 (1 + kv))).put 2 (.int .i64 u)
          have e0 := hF.cell 0
          have e1 := hF.cell 1
          have e2 := hF.cell 2
          simp at e0 e1 e2
          have hownF := ownsRow_setCell_below (ownsRow_setCell_below (ownsRow_setCell_below hown6 (a := ⟨w.heap.size, 0, none⟩) (show w.heap.size < w3.heap.size by omega) (.int .i64 t1)) (a := ⟨w.heap.size, 1, none⟩) (show w.heap.size < w3.heap.size by omega) (.int .i64 (1 + kv))) (a := ⟨w.heap.size, 2, none⟩) (show w.heap.size < w3.heap.size by omega) (.int .i64 u)
          have hIF : Ints _ _ (some ⟨g8, 0, none⟩) (20 * 3) (xsOf (twL 10)) := Ints.of_own hownF (Nat.le_refl _) (by first | (have := twL_len 10; simp only [List.length_map]; omega) | (simp; omega) | simp) (fun j hj => (cells_of hownF).2 j (by omega))
          have hbF := ((hbb6.setCell (p := ⟨w.heap.size, 0, none⟩) (Nat.le_refl _) (.int .i64 t1)).setCell (p := ⟨w.heap.size, 1, none⟩) (Nat.le_refl _) (.int .i64 (1 + kv))).setCell (p := ⟨w.heap.size, 2, none⟩) (Nat.le_refl _) (.int .i64 u)
          replace e0 := Lib.hid e0
          replace e1 := Lib.hid e1
          replace e2 := Lib.hid e2
          replace hIF := Lib.hid hIF
          replace hbF := Lib.hid hbF
          clear hown5 hX5 hS5 hbb5 hg6 hS6 hown6 hbb6 hownF hF hX6
          go_wp2
          have e0 := e0.out
          have e1 := e1.out
          have e2 := e2.out
          refine bodyPost_ret (v := .tuple #[.slice (some ⟨g8, 0, none⟩) 20 c5, .agg #[.int .i64 t1, .int .i64 (1 + kv), .int .i64 u]]) (by simp [results, Tryd.results9, go_sem, e0, e1, e2]) rfl ?_
          exact ⟨g8, c5, rfl, (by omega), (by omega), hcm5, hIF.out, hbF.out, by omega⟩
    · obtain ⟨eN, eX⟩ := hF1.out h24
      subst eN
      subst eX
      have n24 : (d == 0) = false := by rw [beq_eq_false_iff_ne]; exact h24
      go_wp2_with fail
      refine (next_val _ _ _ _ _ _ _ _ _ hS3 hk.out hs4.out (by omega) (by omega)).mono ?_
      rintro e w5 ⟨rfl, k0, k1, hS5, hg5⟩
      have hX5 := hX3.grown hg5 (fun e => by injection e with e; omega)
      have hown5 := own_only hown3 hg5 (fun k e => by injection e with e; omega)
      have hbb5 := hbb3.trans (below_only hg5 hbb3.size (fun k e => by injection e with e; omega))
      have hwk : IntKind.i64.wrap (1 + kv) = 1 + kv := by rw [IntKind.wrap_i64]; omega
      clear hown3 hX3 hS3 hbb3 hg5
      go_wp2_with fail
      refine (l19DrawRuling_any _ _ _ _ _ _ _ _ hS5).mono ?_
      rw [hu.out]
      rintro e w6 ⟨rfl, hS6, hg6⟩
      have hX6 := hX5.grown hg6 (fun e => by injection e with e; omega)
      have hown6 := own_only hown5 hg6 (fun k e => by injection e with e; omega)
      have hbb6 := hbb5.trans (below_only hg6 hbb5.size (fun k e => by injection e with e; omega))
      have z0 : w6.cell? ⟨w.heap.size, 0, none⟩ = some (.int .i64 0) := by simpa using hX6.cell 0
      have z1 : w6.cell? ⟨w.heap.size, 1, none⟩ = some (.int .i64 0) := by simpa using hX6.cell 1
      have z2 : w6.cell? ⟨w.heap.size, 2, none⟩ = some (.int .i64 0) := by simpa using hX6.cell 2
      have f0 := hX6.frz 0
      have f1 := hX6.frz 1
      have f2 := hX6.frz 2
      have hF := ((hX6.put 0 (.int .i64 t1)).put 1 (.int .i64 (1 + kv))).put 2 (.int .i64 u)
      have e0 := hF.cell 0
      have e1 := hF.cell 1
      have e2 := hF.cell 2
      simp at e0 e1 e2
      have hownF := ownsRow_setCell_below (ownsRow_setCell_below (ownsRow_setCell_below hown6 (a := ⟨w.heap.size, 0, none⟩) (show w.heap.size < w1.heap.size by omega) (.int .i64 t1)) (a := ⟨w.heap.size, 1, none⟩) (show w.heap.size < w1.heap.size by omega) (.int .i64 (1 + kv))) (a := ⟨w.heap.size, 2, none⟩) (show w.heap.size < w1.heap.size by omega) (.int .i64 u)
      have hIF : Ints _ _ (some ⟨b, 0, none⟩) (0 * 3) (xsOf zs) := Ints.of_own hownF (Nat.le_refl _) (by first | (have := twL_len 10; simp only [List.length_map]; omega) | (simp; omega) | simp) (fun j hj => (cells_of hownF).2 j (by omega))
      have hbF := ((hbb6.setCell (p := ⟨w.heap.size, 0, none⟩) (Nat.le_refl _) (.int .i64 t1)).setCell (p := ⟨w.heap.size, 1, none⟩) (Nat.le_refl _) (.int .i64 (1 + kv))).setCell (p := ⟨w.heap.size, 2, none⟩) (Nat.le_refl _) (.int .i64 u)
      replace e0 := Lib.hid e0
      replace e1 := Lib.hid e1
      replace e2 := Lib.hid e2
      replace hIF := Lib.hid hIF
      replace hbF := Lib.hid hbF
      clear hown5 hX5 hS5 hbb5 hg6 hS6 hown6 hbb6 hownF hF hX6
      go_wp2
      have e0 := e0.out
      have e1 := e1.out
      have e2 := e2.out
      refine bodyPost_ret (v := .tuple #[.slice (some ⟨b, 0, none⟩) 0 c, .agg #[.int .i64 t1, .int .i64 (1 + kv), .int .i64 u]]) (by simp [results, Tryd.results9, go_sem, e0, e1, e2]) rfl ?_
      exact ⟨b, c, rfl, (by omega), hnc, hcm, hIF.out, hbF.out, by omega⟩
  · obtain ⟨ν, rfl⟩ : ∃ ν, n0 = ν + 1 := ⟨n0 - 1, by omega⟩
    obtain ⟨hTa, hTb⟩ := hT1.out hn
    obtain ⟨ρ, hρ⟩ : ∃ r, nextV 6 m bs s1 = r := ⟨_, rfl⟩
    have hρb := nextV_bd 6 m bs s1 (by omega)
    rw [hρ] at hTa hρb
    obtain ⟨ρ, rfl⟩ : ∃ r : Nat, ρ = r := ⟨ρ.toNat, by omega⟩
    rw [show ((ρ : Int)).toNat = ρ by omega, show ν + 1 - 1 = ν by omega] at hTa
    obtain ⟨lv, hlv0⟩ : ∃ x, litT.getD ρ 0 = x := ⟨_, rfl⟩
    have hlv : (#[.int .i64 0, .int .i64 1, .int .i64 86400000, .int .i64 86400001, .int .i64 604800000, .int .i64 604800001] : Array Value)[ρ]? = some (.int .i64 lv) := by
      rw [← hlv0]
      obtain rfl | rfl | rfl | rfl | rfl | rfl : ρ = 0 ∨ ρ = 1 ∨ ρ = 2 ∨ ρ = 3 ∨ ρ = 4 ∨ ρ = 5 := by omega
      all_goals rfl
    obtain ⟨-, hzc⟩ := cells_of howno
    obtain ⟨g', cap, cur, hv', hg'b, hWh, -, -, -, hcur⟩ := own_open howno (by omega)
    injection hv' with hv1 _ hv3
    injection hv1 with hv1
    injection hv1 with hv1
    subst hv1
    subst hv3
    obtain ⟨z, hzz⟩ : ∃ z, zs.getD (ν * 3) 0 = z := ⟨_, rfl⟩
    have hcz : cur[ν * 3]? = some (.int .i64 z) := by rw [← hzz]; exact hcur _ _ (hzc _ (by omega))
    rw [hlv0, hzz] at hTa
    have hz : Hid (∀ W : World, wo.grownBy W (some g) → W.cell? ⟨b, ν * 3, none⟩ = some (.int .i64 z)) := Lib.hid fun W hgW => ((hWh.grown hgW (fun e => by injection e with e; omega)).cell _).trans hcz
    replace hlv := Lib.hid hlv
    replace hρ := Lib.hid hρ
    have hs2 := Lib.hid hTb
    have hwr : IntKind.i64.wrap (z + lv) = t1 := hTa
    have hn1 : ((ν : Int) + 1 - 1) = ν := by omega
    have hwν : IntKind.i64.wrap (ν : Int) = ν := by rw [IntKind.wrap_i64]; omega
    have hνl : (ν : Int) < (ν : Int) + 1 := by omega
    have hρ6 : (ρ : Int) < 6 := by omega
    clear hzc hWh hcur hcz hzz hlv0 hTa hTb
    go_wp2_with fail
    refine wp_region_inv (fun L x wx => (Src wx B g m bs (if L 9 = true then s2 else s1) ∧ wo.grownBy wx (some g)) ∧ Held rdPD (rdPG b ν c g ρ z lv t1) 14 L x wx) [6, 16, 17, 18, 19, 20, 21, 22, 23, 24, 25, 26, 27, 28] [[], [], [1], [2], [0, 3], [4], [5], [], [], [8], [7, 9], [10], [6, 11], [12, 9, 0, 1, 2, 3, 4, 5, 6, 7, 8, 9, 10, 11, 12]] (by kernel_rfl) (by kernel_rfl) (by kernel_rfl) ?_ ?_ ?_
    · intro x
      exact ⟨⟨hSo, ⟨(only_refl wo (some g)).1, (only_refl wo (some g)).2, (only_refl wo (some g)).3, (only_refl wo (some g)).4, (only_refl wo (some g)).5⟩⟩, Held.none⟩
    · rintro L x wx ⟨hB, hH⟩
      have hBz := hB.2.size
      refine ⟨InvAt.mk rfl (by simp) ?_, InvAt.mk rfl (by simp) ?_, InvAt.mk rfl (by simp) ?_, InvAt.mk rfl (by simp) ?_, InvAt.mk rfl (by simp) ?_, InvAt.mk rfl (by simp) ?_, InvAt.mk rfl (by simp) ?_, InvAt.mk rfl (by simp) ?_, InvAt.mk rfl (by simp) ?_, InvAt.mk rfl (by simp) ?_, InvAt.mk rfl (by simp) ?_, InvAt.mk rfl (by simp) ?_, InvAt.mk rfl (by simp) ?_, InvAt.mk rfl (by simp) ?_, trivial⟩
      · intro hL hd K hK
        simp only [fillA, fillL]
        go_simp
        exact hK (.slice (some ⟨b, 0, none⟩) (ν + 1) c) _ _ ⟨hB, hH.step 0 16 _ rfl (by decide) (fun j y h => h) rfl⟩ rfl
      · intro hL hd K hK
        simp only [fillA, fillL]
        go_simp
        exact hK (.slice (some ⟨b, 0, none⟩) (ν + 1) c) _ _ ⟨hB, hH.step 1 17 _ rfl (by decide) (fun j y h => h) rfl⟩ rfl
      · intro hL hd K hK
        have e1 : x 17 = .slice (some ⟨b, 0, none⟩) (ν + 1) c := hH 1 (by omega) (hd 1 (by simp))
        simp only [fillA, fillL]
        simp only [e1]
        simp only [fillA, fillL, e1] at hK
        go_simp
        exact hK (.int .i64 ((ν : Int) + 1)) _ _ ⟨hB, hH.step 2 18 _ rfl (by decide) (fun j y h => h) rfl⟩ rfl
      · intro hL hd K hK
        have e2 : x 18 = .int .i64 ((ν : Int) + 1) := hH 2 (by omega) (hd 2 (by simp))
        simp only [fillA, fillL]
        simp only [e2]
        simp only [fillA, fillL, e2] at hK
        go_simp
        exact hK (.int .i64 ν) _ _ ⟨hB, hH.step 3 19 _ rfl (by decide) (fun j y h => h) rfl⟩ rfl
      · intro hL hd K hK
        have e0 : x 16 = .slice (some ⟨b, 0, none⟩) (ν + 1) c := hH 0 (by omega) (hd 0 (by simp))
        have e3 : x 19 = .int .i64 ν := hH 3 (by omega) (hd 3 (by simp))
        simp only [fillA, fillL]
        simp only [e0, e3]
        simp only [fillA, fillL, e0, e3] at hK
        go_simp
        exact hK (.pointer (some ⟨b, ν * 3, none⟩)) _ _ ⟨hB, hH.step 4 20 _ rfl (by decide) (fun j y h => h) rfl⟩ rfl
      · intro hL hd K hK
        have e4 : x 20 = .pointer (some ⟨b, ν * 3, none⟩) := hH 4 (by omega) (hd 4 (by simp))
        simp only [fillA, fillL]
        simp only [e4]
        simp only [fillA, fillL, e4] at hK
        go_simp
        exact hK (.pointer (some ⟨b, ν * 3, none⟩)) _ _ ⟨hB, hH.step 5 21 _ rfl (by decide) (fun j y h => h) rfl⟩ rfl
      · intro hL hd K hK
        have e5 : x 21 = .pointer (some ⟨b, ν * 3, none⟩) := hH 5 (by omega) (hd 5 (by simp))
        have y0 := hz.out wx hB.2
        simp only [fillA, fillL]
        simp only [e5]
        simp only [fillA, fillL, e5] at hK
        go_simp
        exact hK (.int .i64 z) _ _ ⟨hB, hH.step 6 22 _ rfl (by decide) (fun j y h => h) rfl⟩ rfl
      · intro hL hd K hK
        simp only [fillA, fillL]
        go_simp
        refine hK (.slice (some ⟨wx.heap.size, 0, none⟩) 6 6) _ _ ⟨⟨hB.1.new _, only_new hB.2 _⟩, hH.step 7 23 _ rfl (by decide) (fun j y h => rdP_be (only_new (only_refl wx (some g)) _) h) ⟨wx.heap.size, rfl, by omega, Whole.new _ _ _⟩⟩ rfl
      · intro hL hd K hK
        simp only [fillA, fillL]
        go_simp
        exact hK (.pointer (some ⟨g, 0, none⟩)) _ _ ⟨hB, hH.step 8 24 _ rfl (by decide) (fun j y h => h) rfl⟩ rfl
      · intro hL hd K hK
        have e8 : x 24 = .pointer (some ⟨g, 0, none⟩) := hH 8 (by omega) (hd 8 (by simp))
        have hZ0 : Src wx B g m bs s1 := by have := hB.1; rw [hL] at this; exact this
        simp only [fillA, fillL]
        simp only [e8]
        simp only [fillA, fillL, e8] at hK
        go_simp
        go_at_call 26
        refine (next_val _ _ _ _ _ _ _ _ _ hZ0 hρ.out hs2.out (by omega) (by omega)).mono ?_
        rintro e wy ⟨rfl, -, -, hSy, hgy⟩
        exact hK (.int .i64 ρ) _ _ ⟨⟨hSy, only_trans hB.2 hgy⟩, hH.step 9 25 _ rfl (by decide) (fun j y h => rdP_be hgy h) rfl⟩ rfl
      · intro hL hd K hK
        obtain ⟨q, e7, hgq, hq⟩ : ∃ q, x 23 = .slice (some ⟨q, 0, none⟩) 6 6 ∧ g < q ∧ Whole wx q 2 #[.int .i64 0, .int .i64 1, .int .i64 86400000, .int .i64 86400001, .int .i64 604800000, .int .i64 604800001] := (hH 7 (by omega) (hd 7 (by simp)))
        have e9 : x 25 = .int .i64 ρ := hH 9 (by omega) (hd 9 (by simp))
        simp only [fillA, fillL]
        simp only [e7, e9]
        simp only [fillA, fillL, e7, e9] at hK
        go_simp
        exact hK (.pointer (some ⟨q, ρ, none⟩)) _ _ ⟨hB, hH.step 10 26 _ rfl (by decide) (fun j y h => h) ⟨_, rfl, hgq, hq.lt, (hq.cell ρ).trans hlv.out⟩⟩ rfl
      · intro hL hd K hK
        obtain ⟨p, e10, hgp, hp, hpc⟩ : ∃ p, x 26 = .pointer (some p) ∧ g < p.block ∧ p.block < wx.heap.size ∧ wx.cell? p = some (.int .i64 lv) := (hH 10 (by omega) (hd 10 (by simp)))
        simp only [fillA, fillL]
        simp only [e10]
        simp only [fillA, fillL, e10] at hK
        go_simp
        exact hK (.int .i64 lv) _ _ ⟨hB, hH.step 11 27 _ rfl (by decide) (fun j y h => h) rfl⟩ rfl
      · intro hL hd K hK
        have e6 : x 22 = .int .i64 z := hH 6 (by omega) (hd 6 (by simp))
        have e11 : x 27 = .int .i64 lv := hH 11 (by omega) (hd 11 (by simp))
        simp only [fillA, fillL]
        simp only [e6, e11]
        simp only [fillA, fillL, e6, e11] at hK
        go_simp
        exact hK (.int .i64 t1) _ _ ⟨hB, hH.step 12 28 _ rfl (by decide) (fun j y h => h) rfl⟩ rfl
      · intro hL hd K hK
        have e12 : x 28 = .int .i64 t1 := hH 12 (by omega) (hd 12 (by simp))
        simp only [fillA, fillL]
        simp only [e12]
        simp only [fillA, fillL, e12] at hK
        go_simp
        exact hK (.int .i64 t1) _ _ ⟨hB, hH.step 13 6 _ rfl (by decide) (fun j y h => h) rfl⟩ rfl
    rintro x wq ⟨hB, hH⟩
    have e13 : x 6 = .int .i64 t1 := hH 13 (by omega) rfl
    have hSq : Src wq B g m bs s2 := hB.1
    have hgq := hB.2
    have hXq := hXo.grown hgq (fun e => by injection e with e; omega)
    have hownq := own_only howno hgq (fun k e => by injection e with e; omega)
    have hbbq := hbbo.trans (below_only hgq hbbo.size (fun k e => by injection e with e; omega))
    have hzq := hgq.size
    clear hB hH hgq hXo howno hbbo hSo hz hwr
    simp only [fillA, fillL, e13]
    go_wp2_with fail
    refine (next_val _ _ _ _ _ _ _ _ _ hSq hd.out hs3.out (by omega) (by omega)).mono ?_
    rintro e w3 ⟨rfl, d0, d1, hS3, hg3⟩
    have hX3 := hXq.grown hg3 (fun e => by injection e with e; omega)
    have hown3 := own_only hownq hg3 (fun k e => by injection e with e; omega)
    have hbb3 := hbbq.trans (below_only hg3 hbbq.size (fun k e => by injection e with e; omega))
    have hz3 := hg3.size
    have hl3 := hS3.lt
    clear hSq hXq hownq hbbq hg3
    by_cases h24 : d = 0
    · subst h24
      obtain ⟨eN, eX⟩ := hF0.out (by trivial)
      subst eN
      subst eX
      have hownz : (w3.alloc (.cells #[] 25)).ownsRow w3.heap.size 25 3 (.slice (some ⟨w3.heap.size, 0, none⟩) 0 0) 0 ((twL 0).map (Value.int .i64)) := own_empty (Whole.new _ _ _) (Nat.le_refl _)
      have hXz := hX3.alloc (.cells #[] 25)
      have hSz := hS3.new (.cells #[] 25)
      have hbz := hbb3.alloc hbb3.size (.cells #[] 25)
      have hxl3 := hX3.lt
      clear hown3 hX3 hS3 hbb3
      go_wp2_with fail
      go_loopw [5] (fun v5 wr => ∃ q : Nat, q ≤ 10 ∧ wr.ownsRow w3.heap.size 25 3 v5 (q * 2) ((twL q).map (Value.int .i64)) ∧ Whole wr w.heap.size 25 #[.int .i64 0, .int .i64 0, .int .i64 0] ∧ Src wr B g m bs s3 ∧ w3.heap.size ≤ wr.heap.size ∧ Below w.heap.size w wr) (fun v5 _ => 20 - lenV v5)
      case atStart => exact ⟨0, by omega, hownz, hXz, hSz, by simp, hbz⟩
      case round =>
        obtain ⟨q, hq, hownr, hXr, hSr, hzr, hbr⟩ := hrel
        clear hownz hXz hSz hbz
        obtain ⟨g5, cap5, e5, hc5, hm5⟩ : ∃ b c : Nat, True ∧ q * 2 ≤ c ∧ c ≤ maxLen := by
          obtain ⟨A5, c5, -, h1, h2⟩ := own_form hownr
          exact ⟨0, c5, trivial, h1, h2⟩
        obtain ⟨A5, c5, rfl, hnc5, hcm5⟩ := own_form hownr
        clear e5 hc5 hm5
        by_cases hlt : q < 10
        · have hlt' : (q : Int) * 2 < 20 := by omega
          have hnew := Whole.new wr 25 #[.int .i64 0, .int .i64 1, .int .i64 0, .int .i64 0, .int .i64 4, .int .i64 0]
          go_wp2_with (at_builtin; refine wpList_append_own_at _ rfl _ _ 30 rfl w3.heap.size 25 i0 _ 3 24 Tryd.underlying30 hi.out hz0'.out hz1'.out hz2'.out rfl (by decide) _ _ _ rfl (hownr.alloc _) ⟨wr.heap.size, 0, none⟩ 2 2 [.int .i64 0, .int .i64 1, .int .i64 0, .int .i64 0, .int .i64 4, .int .i64 0] rfl rfl ?c1 ?c2 ?c3 ?c4 ?c5 ?_)
          case c1 =>
            intro j u hu
            rw [add_zero_off, hnew.cell]
            simpa using hu
          case c2 => simp [Value.oneCell']
          case c3 => simp only [maxLen]; omega
          case c4 => omega
          case c5 => simp; omega
          intro v' w8 hown' hgrow _ hat
          have hlt8 := fun k hk => (hownr.lt k hk).1
          have hbb8 : Below w.heap.size w w8 := (hbr.alloc hbr.size _).trans (below_only hgrow (by have := hbr.size; simp; omega) (fun k hk => by have := hlt8 k hk; omega))
          have hX8 := (hXr.alloc (.cells #[.int .i64 0, .int .i64 1, .int .i64 0, .int .i64 0, .int .i64 4, .int .i64 0] 25)).grown hgrow (fun e => by have := hlt8 _ e; omega)
          have hS8 := (hSr.new (.cells #[.int .i64 0, .int .i64 1, .int .i64 0, .int .i64 0, .int .i64 4, .int .i64 0] 25)).keepOnly hgrow (fun k hk => by have := hlt8 k hk; omega)
          have hown8 : w8.ownsRow w3.heap.size 25 3 v' ((q + 1) * 2) ((twL (q + 1)).map (Value.int .i64)) := by
            have e : (q + 1) * 2 = q * 2 + 2 := by omega
            rw [e]
            simpa [twL] using hown'
          have hz8 := hgrow.size
          simp only [World.size_alloc] at hz8
          obtain ⟨g8, cap8, cur8, rfl, -⟩ := own_open hown8 (by omega)
          clear hown' hgrow hat hownr hXr hSr hbr hnew
          go_wp2
          go_roundw
          case rel => exact ⟨q + 1, by omega, hown8, hX8, hS8, by omega, hbb8⟩
          case measure => simp [lenV]; omega
        · obtain rfl : q = 10 := by omega
          obtain ⟨g8, cap8, cur8, hv8, hg8, -⟩ := own_open hownr (by omega)
          injection hv8 with hv8 _ hv9
          subst hv8
          subst hv9
          go_wp2_with fail
          refine (next_val _ _ _ _ _ _ _ _ _ hSr hk.out hs4.out (by omega) (by omega)).mono ?_
          rintro e w5 ⟨rfl, k0, k1, hS5, hg5⟩
          have hX5 := hXr.grown hg5 (fun e => by injection e with e; omega)
          have hown5 := own_only hownr hg5 (fun k e => by injection e with e; omega)
          have hbb5 := hbr.trans (below_only hg5 hbr.size (fun k e => by injection e with e; omega))
          have hwk : IntKind.i64.wrap (1 + kv) = 1 + kv := by rw [IntKind.wrap_i64]; omega
          clear hownr hXr hSr hbr hg5
          go_wp2_with fail
          refine (l19DrawRuling_any _ _ _ _ _ _ _ _ hS5).mono ?_
          rw [hu.out]
          rintro e w6 ⟨rfl, hS6, hg6⟩
          have hX6 := hX5.grown hg6 (fun e => by injection e with e; omega)
          have hown6 := own_only hown5 hg6 (fun k e => by injection e with e; omega)
          have hbb6 := hbb5.trans (below_only hg6 hbb5.size (fun k e => by injection e with e; omega))
          have z0 : w6.cell? ⟨w.heap.size, 0, none⟩ = some (.int .i64 0) := by simpa using hX6.cell 0
          have z1 : w6.cell? ⟨w.heap.size, 1, none⟩ = some (.int .i64 0) := by simpa using hX6.cell 1
          have z2 : w6.cell? ⟨w.heap.size, 2, none⟩ = some (.int .i64 0) := by simpa using hX6.cell 2
          have f0 := hX6.frz 0
          have f1 := hX6.frz 1
          have f2 := hX6.frz 2
          have hF := ((hX6.put 0 (.int .i64 t1)).put 1 (.int .i64 (1 + kv))).put 2 (.int .i64 u)
          have e0 := hF.cell 0
          have e1 := hF.cell 1
          have e2 := hF.cell 2
          simp at e0 e1 e2
          have hownF := ownsRow_setCell_below (ownsRow_setCell_below (ownsRow_setCell_below hown6 (a := ⟨w.heap.size, 0, none⟩) (show w.heap.size < w3.heap.size by omega) (.int .i64 t1)) (a := ⟨w.heap.size, 1, none⟩) (show w.heap.size < w3.heap.size by omega) (.int .i64 (1 + kv))) (a := ⟨w.heap.size, 2, none⟩) (show w.heap.size < w3.heap.size by omega) (.int .i64 u)
          have hIF : Ints _ _ (some ⟨g8, 0, none⟩) (20 * 3) (xsOf (twL 10)) := Ints.of_own hownF (Nat.le_refl _) (by first | (have := twL_len 10; simp only [List.length_map]; omega) | (simp; omega) | simp) (fun j hj => (cells_of hownF).2 j (by omega))
          have hbF := ((hbb6.setCell (p := ⟨w.heap.size, 0, none⟩) (Nat.le_refl _) (.int .i64 t1)).setCell (p := ⟨w.heap.size, 1, none⟩) (Nat.le_refl _) (.int .i64 (1 + kv))).setCell (p := ⟨w.heap.size, 2, none⟩) (Nat.le_refl _) (.int .i64 u)
          replace e0 := Lib.hid e0
          replace e1 := Lib.hid e1
          replace e2 := Lib.hid e2
          replace hIF := Lib.hid hIF
          replace hbF := Lib.hid hbF
          clear hown5 hX5 hS5 hbb5 hg6 hS6 hown6 hbb6 hownF hF hX6
          go_wp2
          have e0 := e0.out
          have e1 := e1.out
          have e2 := e2.out
          refine bodyPost_ret (v := .tuple #[.slice (some ⟨g8, 0, none⟩) 20 c5, .agg #[.int .i64 t1, .int .i64 (1 + kv), .int .i64 u]]) (by simp [results, Tryd.results9, go_sem, e0, e1, e2]) rfl ?_
          exact ⟨g8, c5, rfl, (by omega), (by omega), hcm5, hIF.out, hbF.out, by omega⟩
    · obtain ⟨eN, eX⟩ := hF1.out h24
      subst eN
      subst eX
      have n24 : (d == 0) = false := by rw [beq_eq_false_iff_ne]; exact h24
      go_wp2_with fail
      refine (next_val _ _ _ _ _ _ _ _ _ hS3 hk.out hs4.out (by omega) (by omega)).mono ?_
      rintro e w5 ⟨rfl, k0, k1, hS5, hg5⟩
      have hX5 := hX3.grown hg5 (fun e => by injection e with e; omega)
      have hown5 := own_only hown3 hg5 (fun k e => by injection e with e; omega)
      have hbb5 := hbb3.trans (below_only hg5 hbb3.size (fun k e => by injection e with e; omega))
      have hwk : IntKind.i64.wrap (1 + kv) = 1 + kv := by rw [IntKind.wrap_i64]; omega
      clear hown3 hX3 hS3 hbb3 hg5
      go_wp2_with fail
      refine (l19DrawRuling_any _ _ _ _ _ _ _ _ hS5).mono ?_
      rw [hu.out]
      rintro e w6 ⟨rfl, hS6, hg6⟩
      have hX6 := hX5.grown hg6 (fun e => by injection e with e; omega)
      have hown6 := own_only hown5 hg6 (fun k e => by injection e with e; omega)
      have hbb6 := hbb5.trans (below_only hg6 hbb5.size (fun k e => by injection e with e; omega))
      have z0 : w6.cell? ⟨w.heap.size, 0, none⟩ = some (.int .i64 0) := by simpa using hX6.cell 0
      have z1 : w6.cell? ⟨w.heap.size, 1, none⟩ = some (.int .i64 0) := by simpa using hX6.cell 1
      have z2 : w6.cell? ⟨w.heap.size, 2, none⟩ = some (.int .i64 0) := by simpa using hX6.cell 2
      have f0 := hX6.frz 0
      have f1 := hX6.frz 1
      have f2 := hX6.frz 2
      have hF := ((hX6.put 0 (.int .i64 t1)).put 1 (.int .i64 (1 + kv))).put 2 (.int .i64 u)
      have e0 := hF.cell 0
      have e1 := hF.cell 1
      have e2 := hF.cell 2
      simp at e0 e1 e2
      have hownF := ownsRow_setCell_below (ownsRow_setCell_below (ownsRow_setCell_below hown6 (a := ⟨w.heap.size, 0, none⟩) (show w.heap.size < w1.heap.size by omega) (.int .i64 t1)) (a := ⟨w.heap.size, 1, none⟩) (show w.heap.size < w1.heap.size by omega) (.int .i64 (1 + kv))) (a := ⟨w.heap.size, 2, none⟩) (show w.heap.size < w1.heap.size by omega) (.int .i64 u)
      have hIF : Ints _ _ (some ⟨b, 0, none⟩) ((ν + 1) * 3) (xsOf zs) := Ints.of_own hownF (Nat.le_refl _) (by first | (have := twL_len 10; simp only [List.length_map]; omega) | (simp; omega) | simp) (fun j hj => (cells_of hownF).2 j (by omega))
      have hbF := ((hbb6.setCell (p := ⟨w.heap.size, 0, none⟩) (Nat.le_refl _) (.int .i64 t1)).setCell (p := ⟨w.heap.size, 1, none⟩) (Nat.le_refl _) (.int .i64 (1 + kv))).setCell (p := ⟨w.heap.size, 2, none⟩) (Nat.le_refl _) (.int .i64 u)
      replace e0 := Lib.hid e0
      replace e1 := Lib.hid e1
      replace e2 := Lib.hid e2
      replace hIF := Lib.hid hIF
      replace hbF := Lib.hid hbF
      clear hown5 hX5 hS5 hbb5 hg6 hS6 hown6 hbb6 hownF hF hX6
      go_wp2
      have e0 := e0.out
      have e1 := e1.out
      have e2 := e2.out
      refine bodyPost_ret (v := .tuple #[.slice (some ⟨b, 0, none⟩) (ν + 1) c, .agg #[.int .i64 t1, .int .i64 (1 + kv), .int .i64 u]]) (by simp [results, Tryd.results9, go_sem, e0, e1, e2]) rfl ?_
      exact ⟨b, c, rfl, (by omega), hnc, hcm, hIF.out, hbF.out, by omega⟩
end Go.Proofs.YteacjoemlobmoaaDoor
