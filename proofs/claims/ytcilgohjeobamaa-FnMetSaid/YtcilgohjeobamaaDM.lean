/- The draw of facts and a demand, off a code. -/
import Derived.Test.YtcilgohjeobamaaDD2
import Derived.Test.YtcilgohjeobamaaDem7
set_option linter.unusedSimpArgs false
set_option linter.unusedVariables false
namespace Go.Proofs.Ytcilgohjeobamaa
open Go.RowKit

def drawM8 (m : Nat) (bs : Nat → Int) : Nat → List Int → Nat × Int → List Int × (Nat × Int)
  | 0, zs, s => (zs, s)
  | q + 1, zs, s => drawM8 m bs q (zs ++ [nextV 3 m bs s - 1]) (nextS 3 m s)
/-- The facts and the demands that are drawn. -/
def drawM (m : Nat) (bs : Nat → Int) (st : Nat × Int) : List Int × List (List Int × Int) :=
  let T := drawM8 m bs 8 [] st
  let s1 := nextS 16 m T.2
  let z1 := if nextV 16 m bs T.2 = 0 then T.1.set 0 2 else T.1
  (if nextV 24 m bs s1 = 0 then z1.drop 1 else z1, (drawDm m bs (nextS 24 m s1)).1)
def DrewM (F : List Int) (D : List (List Int × Int)) (w w' : World) (e : Ending) : Prop :=
  ∃ (A Ad : Option Addr) (c cd : Nat), e = .returned (.tuple #[.slice A F.length c, .agg #[.slice Ad (lenD D 0) cd, .int .i64 (outD D 0)]]) ∧ F.length ≤ 8 ∧ Ints w' w'.heap.size A F.length (fun j => F.getD j 0) ∧ lenD D 0 ≤ maxLen ∧ lenD D 0 ≤ cd ∧ Ints w' w'.heap.size Ad (lenD D 0) (facD D 0) ∧ (∀ p, A = some p → w.heap.size ≤ p.block) ∧ (∀ p, Ad = some p → w.heap.size ≤ p.block) ∧ Below w.heap.size w w'
theorem tail_ints {w : World} {base g c : Nat} {zs : List Int} (h : w.ownsRow base 2 1 (.slice (some ⟨g, 0, none⟩) 8 c) 8 (zs.map (Value.int .i64))) (hz : zs.length = 8) : Ints w w.heap.size (some ⟨g, 1, none⟩) 7 (fun j => (zs.drop 1).getD j 0) := by
  obtain ⟨_, hc⟩ := cells_of h
  obtain ⟨g', cap, cur, hv, hb, hW, _, _, _, hcur⟩ := own_open h (by omega)
  injection hv with hv1 _ _
  injection hv1 with hv1
  injection hv1 with hv1
  subst hv1
  refine fun _ => ⟨g, 1, rfl, hW.lt, fun j hj => ?_⟩
  rw [hW.cell, hcur _ _ (hc (1 + j) (by omega))]
  simp only [List.getD_eq_getElem?_getD, List.getElem?_drop]
theorem whole_ints {w : World} {base g c : Nat} {zs : List Int} (h : w.ownsRow base 2 1 (.slice (some ⟨g, 0, none⟩) 8 c) 8 (zs.map (Value.int .i64))) (hz : zs.length = 8) : Ints w w.heap.size (some ⟨g, 0, none⟩) 8 (fun j => zs.getD j 0) :=
  Ints.of_own h (Nat.le_refl _) (by simp; omega) (fun j hj => (cells_of h).2 j (by omega))
/-- Integers read while two cells of another block are written. -/
theorem ints_put2 {w : World} {B g n : Nat} {A : Option Addr} {xs : Nat → Int} (h : Ints w B A n xs) (hg : ∀ p, A = some p → g < p.block) (u v : Value) : Ints ((w.setCell ⟨g, 0, none⟩ u).setCell ⟨g, 1, none⟩ v) B A n xs := fun hn => by
  obtain ⟨b, o, e, hb, hcl⟩ := h hn
  refine ⟨b, o, e, hb, fun j hj => ?_⟩
  have hne := hg _ e
  simp only at hne
  rw [World.cell?_of_block (Below.heap_setCell _ ⟨g, 1, none⟩ v b (by simp; omega)), World.cell?_of_block (Below.heap_setCell _ ⟨g, 0, none⟩ u b (by simp; omega))]
  exact hcl j hj
set_option maxRecDepth 100000 in
set_option maxHeartbeats 8000000 in
theorem drawIsMet_ex (m : Nat) (bs : Nat → Int) (hm : m ≤ 100000) (hb : ∀ j, 0 ≤ bs j ∧ bs j ≤ 255) : ∃ (F : List Int) (D : List (List Int × Int)),
    ∀ (A : Option Addr) (c : Nat) (w : World), Nums .u8 w w.heap.size A m bs → Calls Try.prog 17 #[.slice A m c] w fun e w' => DrewM F D w w' e := by
  obtain ⟨st, hst⟩ : ∃ st, ((0 : Nat), fromV bs (min m 64)) = st := ⟨_, rfl⟩
  refine ⟨(drawM m bs st).1, (drawM m bs st).2, ?_⟩
  obtain ⟨j0, hj, hy0', hy1', hy2'⟩ := info_parts infoInt64
  replace hj := Lib.hid hj
  replace hy0' := Lib.hid hy0'
  replace hy1' := Lib.hid hy1'
  replace hy2' := Lib.hid hy2'
  obtain ⟨T, hT⟩ : ∃ T, drawM8 m bs 8 [] st = T := ⟨_, rfl⟩
  have hP : ∀ (z1 : List Int) (s2 : Nat × Int) (r24 : Int), (if nextV 16 m bs T.2 = 0 then T.1.set 0 2 else T.1) = z1 → nextV 24 m bs (nextS 16 m T.2) = r24 → nextS 24 m (nextS 16 m T.2) = s2 → drawM m bs st = (if r24 = 0 then z1.drop 1 else z1, (drawDm m bs s2).1) := by
    intro z1 s2 r24 h1 h2 h3
    unfold drawM
    simp only [hT, h1, h2, h3]
  replace hP := Lib.hid hP
  replace hT := Lib.hid hT
  generalize drawM m bs st = P at hP ⊢
  intro A c w hc
  go_enter Try.func17, Try.ntmps17
  go_wp2_with fail
  refine (from_any _ _ _ _ _ _ ((hc.below ((Below.refl _ _).alloc (Nat.le_refl _) (.cells #[.slice none 0 0, .int .i64 0] 33))).more (by simp)) (Nat.le_refl _) hm hb).mono ?_
  rw [hst]
  rintro e w1 ⟨rfl, hS1, hb1⟩
  have hR1 := (Whole.new w 33 #[.slice none 0 0, .int .i64 0]).below hb1 (by simp)
  have hz1 := hb1.size
  have hgl := hS1.lt
  simp only [World.size_alloc] at hS1 hgl hz1
  simp only [World.size_alloc]
  have hbw1 : Below w.heap.size w w1 := ((Below.refl _ _).alloc (Nat.le_refl _) (.cells #[.slice none 0 0, .int .i64 0] 33)).trans (hb1.mono (by simp))
  clear hb1 hc
  have hS1' := hS1.new (.cells #[] 2)
  have hR1' := hR1.alloc (.cells #[] 2)
  have ho1 : (w1.alloc (.cells #[] 2)).ownsRow w1.heap.size 2 1 (.slice (some ⟨w1.heap.size, 0, none⟩) 0 0) 0 (([] : List Int).map (Value.int .i64)) := own_empty (Whole.new w1 2 #[]) (Nat.le_refl _)
  have hbw1' := hbw1.alloc (by omega) (.cells #[] 2)
  clear hS1 hR1
  go_wp2_with fail
  go_loopw [5, 6] (fun v5 v6 wr => ∃ (p i : Nat) (zs : List Int) (s : Nat × Int), v6 = .int .i64 i ∧ i + p = 8 ∧ zs.length = i ∧ Hid (drawM8 m bs p zs s = T) ∧ wr.ownsRow w1.heap.size 2 1 v5 i (zs.map (Value.int .i64)) ∧
    Whole wr w.heap.size 33 #[.slice none 0 0, .int .i64 0] ∧ Src wr (w.heap.size + 1) (w.heap.size + 1) m bs s ∧ w1.heap.size ≤ wr.heap.size ∧ Below w.heap.size w wr) (fun _ v6 _ => (8 - intOf v6).toNat)
  case atStart => exact ⟨8, 0, [], st, rfl, rfl, rfl, hT, ho1, hR1', hS1', by simp, hbw1'⟩
  case round =>
    obtain ⟨p, i, zs, s, rfl, hip, hzl, hTz, hown, hR, hS, hzr, hbel⟩ := hrel
    clear hS1' hR1' ho1 hbw1' hbw1 hT
    have hRl := hR.lt
    rcases Nat.eq_zero_or_pos p with hp | hp
    · subst hp
      obtain rfl : i = 8 := by omega
      have hP2 : T = (zs, s) := by
        have h1 := hTz.out
        simp only [drawM8] at h1
        exact h1.symm
      subst hP2
      dsimp only at hP
      clear hTz
      obtain ⟨r16, hr16⟩ : ∃ r, nextV 16 m bs s = r := ⟨_, rfl⟩
      obtain ⟨s1, hs1⟩ : ∃ x, nextS 16 m s = x := ⟨_, rfl⟩
      obtain ⟨r24, hr24⟩ : ∃ r, nextV 24 m bs s1 = r := ⟨_, rfl⟩
      obtain ⟨s2, hs2⟩ : ∃ x, nextS 24 m s1 = x := ⟨_, rfl⟩
      have hPP : P = (if r24 = 0 then (if r16 = 0 then zs.set 0 2 else zs).drop 1 else (if r16 = 0 then zs.set 0 2 else zs), (drawDm m bs s2).1) := hP.out _ _ _ (by rw [hr16]) (by rw [hs1, hr24]) (by rw [hs1, hs2])
      obtain ⟨Q, hQ⟩ : ∃ Q, drawDm m bs s2 = Q := ⟨_, rfl⟩
      rw [hQ] at hPP
      obtain ⟨g5, cap5, cur5, rfl, hg5b, hW5, hnc5, hcm5, hcs5, -⟩ := own_open hown (by omega)
      have hg5l := hW5.lt
      clear hP
      go_wp2_with fail
      refine (next_val _ _ _ _ _ _ _ _ _ hS hr16 hs1 (by omega) (by omega)).mono ?_
      rintro e w2 ⟨rfl, p0, p1, hS2, hg2⟩
      have hown2 := hown.kept hg2 (.inr (fun e => by have e : (some g5 : Option Nat) = some (w.heap.size + 1) := e; injection e with e; omega))
      have hW2 := hW5.grown hg2 (fun e => by injection e with e; omega)
      have hR2 := hR.grown hg2 (fun e => by injection e with e; omega)
      have hz2 := hg2.size
      have hbel2 : Below w.heap.size w w2 := hbel.trans (below_only hg2 (by omega) (fun k e => by injection e with e; omega))
      clear hown hW5 hR hS hg2 hbel hr16 hs1
      by_cases h16 : r16 = 0
      · subst h16
        rw [if_pos rfl] at hPP
        have y0 := hW2.some_ 0 (by omega)
        have f0 := hW2.frz 0
        have hownS := own_putI hown2 0 2
        have hzs : (zs.set 0 2).length = 8 := by simpa using hzl
        have hSS := hS2.keepOnly (row := some g5) (only_put (only_refl _ _) 0 (.int .i64 2)) (fun j e => by injection e with e; omega)
        have hRS := hR2.far (p := ⟨g5, 0, none⟩) (by simp; omega) (.int .i64 2)
        have hbS := hbel2.setCell (p := ⟨g5, 0, none⟩) (by simp; omega) (.int .i64 2)
        clear hown2 hR2 hS2 hW2 hbel2
        go_wp2_with fail
        refine (next_val _ _ _ _ _ _ _ _ _ hSS hr24 hs2 (by omega) (by omega)).mono ?_
        rintro e w3 ⟨rfl, q0, q1, hS3, hg3⟩
        have hown3 := (hownS).kept hg3 (.inr (fun e => by have e : (some g5 : Option Nat) = some (w.heap.size + 1) := e; injection e with e; omega))
        have hR3 := (hRS).grown hg3 (fun e => by injection e with e; omega)
        have hz3 := hg3.size
        try simp only [World.size_setCell] at hz3
        have hbel3 : Below w.heap.size w w3 := (hbS).trans (below_only hg3 (by first | omega | (simp; omega)) (fun k e => by injection e with e; omega))
        clear hr24 hs2 hg3
        by_cases h24 : r24 = 0
        · subst h24
          have hPP' : P = ((zs.set 0 2).drop 1, Q.1) := by rw [hPP]; rfl
          clear hPP
          have hPP := hPP'
          clear hPP'
          have hn1 : ¬ cap5 = 1 := by omega
          have hn2 : ¬ (cap5 : Int) = 1 := by omega
          go_wp2_with fail
          refine (l18DrawDemands_any _ _ _ _ _ _ hS3).mono ?_
          rw [hQ]
          rintro e wd ⟨vd, E, rfl, hE, hE4, hownd, hrowsd, hSd, hgd⟩
          have hzd := hgd.size
          have hRd := (hR3).grown hgd (fun e => by injection e with e; omega)
          have hownf := (hown3).kept hgd (.inr (fun e => by have e : (some g5 : Option Nat) = some (w.heap.size + 1) := e; injection e with e; omega))
          have hbeld : Below w.heap.size w wd := (hbel3).trans (below_only hgd (by omega) (fun k e => by injection e with e; omega))
          have hf := (fun h => tail_ints h hzs) hownf
          obtain ⟨AD, cd, rfl, hnd, hcd⟩ := own_form hownd
          obtain ⟨fa, fc, hDm, hfab⟩ := dems_of_drew hE hownd rfl hrowsd
          clear hownd hrowsd hSd hgd hownf
          replace hf := Lib.hid hf
          have hl3 : Q.1.length = E.length := by rw [← hE, List.length_map]
          clear hE
          generalize E.length = kd at *
          rcases Nat.eq_zero_or_pos kd with hk0 | hk0
          · subst hk0
            have hQ0 : Q.1 = [] := List.length_eq_zero_iff.1 hl3
            have r0 := hRd.cell 0
            have r1 := hRd.cell 1
            have q0 := hRd.frz 0
            have q1 := hRd.frz 1
            simp at r0 r1
            have hF := (hRd.put 0 (.slice none 0 0)).put 1 (.int .i64 0)
            have e0 := hF.cell 0
            have e1 := hF.cell 1
            simp only [List.getElem?_toArray, List.getElem?_cons_zero, List.getElem?_cons_succ, List.setIfInBounds_toArray, List.set_cons_zero, List.set_cons_succ] at e0 e1
            have hbF := (hbeld.setCell (p := ⟨w.heap.size, 0, none⟩) (Nat.le_refl _) (.slice none 0 0)).setCell (p := ⟨w.heap.size, 1, none⟩) (Nat.le_refl _) (.int .i64 0)
            have hfF := ints_put2 (g := w.heap.size) hf.out (fun p e => by injection e with e; subst e; simp; omega) (.slice none 0 0) (.int .i64 0)
            replace e0 := Lib.hid e0
            replace e1 := Lib.hid e1
            replace hbF := Lib.hid hbF
            replace hfF := Lib.hid hfF
            clear hF hRd hDm hbeld hfab
            go_wp2
            have e0 := e0.out
            have e1 := e1.out
            refine bodyPost_ret (v := .tuple #[.slice (some ⟨g5, 1, none⟩) 7 (cap5 - 1), .agg #[.slice none 0 0, .int .i64 0]]) (by simp [results, Try.results17, go_sem, e0, e1]) rfl ?_
            rw [hPP, hQ0]
            exact ⟨_, none, _, 0, (by show Ending.returned _ = Ending.returned (.tuple #[.slice _ (((zs.set 0 2)).drop 1).length _, _]); rw [List.length_drop, hzs]; rfl), (by show (((zs.set 0 2)).drop 1).length ≤ 8; rw [List.length_drop]; omega), (by show Ints _ _ _ (((zs.set 0 2)).drop 1).length _; rw [List.length_drop, hzs]; exact hfF.out.more (by simp)), by simp [lenD], by simp [lenD], (fun h => by simp [lenD] at h), (fun p e => by injection e with e; subst e; simp; omega), (fun p e => by cases e), hbF.out⟩
          · obtain ⟨bD, oD, rfl, hbD, hcells⟩ := hDm.1 hk0
            obtain ⟨g0, g1⟩ := hcells 0 hk0
            obtain ⟨hI0, hfc0, hfm0⟩ := hDm.2 0 hk0
            simp only [Nat.zero_mul, Nat.add_zero] at g0 g1
            have r0 := hRd.cell 0
            have r1 := hRd.cell 1
            have q0 := hRd.frz 0
            have q1 := hRd.frz 1
            simp at r0 r1
            have hk1 : ((kd : Int) == 0) = false := by rw [beq_eq_false_iff_ne]; omega
            have hk2 : ¬ kd = 0 := by omega
            have hfab0 := hfab 0 hk0
            generalize fa 0 = fa0 at g0 hI0 hfab0
            generalize fc 0 = fc0 at g0 hfc0
            obtain ⟨ld, hld⟩ : ∃ z, lenD Q.1 0 = z := ⟨_, rfl⟩
            rw [hld] at g0 hI0 hfc0 hfm0
            obtain ⟨od, hod⟩ : ∃ z, outD Q.1 0 = z := ⟨_, rfl⟩
            rw [hod] at g1
            have hF := (hRd.put 0 (.slice fa0 ld fc0)).put 1 (.int .i64 od)
            have e0 := hF.cell 0
            have e1 := hF.cell 1
            simp only [List.getElem?_toArray, List.getElem?_cons_zero, List.getElem?_cons_succ, List.setIfInBounds_toArray, List.set_cons_zero, List.set_cons_succ] at e0 e1
            have hbF := (hbeld.setCell (p := ⟨w.heap.size, 0, none⟩) (Nat.le_refl _) (.slice fa0 ld fc0)).setCell (p := ⟨w.heap.size, 1, none⟩) (Nat.le_refl _) (.int .i64 od)
            have hfF := ints_put2 (g := w.heap.size) hf.out (fun p e => by injection e with e; subst e; simp; omega) (.slice fa0 ld fc0) (.int .i64 od)
            have hIF := ints_put2 (g := w.heap.size) hI0 (fun p e => by have := hfab0 p e; omega) (.slice fa0 ld fc0) (.int .i64 od)
            replace e0 := Lib.hid e0
            replace e1 := Lib.hid e1
            replace hbF := Lib.hid hbF
            replace hfF := Lib.hid hfF
            replace hIF := Lib.hid hIF
            replace hld := Lib.hid hld
            replace hod := Lib.hid hod
            have hfabH := Lib.hid hfab0
            clear hF hRd hDm hbeld hcells hI0 hfab hfab0
            go_wp2_with fail
            go_region
            all_goals go_wp2
            all_goals
              have e0 := e0.out
              have e1 := e1.out
              refine bodyPost_ret (v := .tuple #[.slice (some ⟨g5, 1, none⟩) 7 (cap5 - 1), .agg #[.slice fa0 ld fc0, .int .i64 od]]) (by simp [results, Try.results17, go_sem, e0, e1]) rfl ?_
              rw [hPP]
              refine ⟨_, fa0, (cap5 - 1), fc0, ?_, (by show (((zs.set 0 2)).drop 1).length ≤ 8; rw [List.length_drop]; omega), (by show Ints _ _ _ (((zs.set 0 2)).drop 1).length _; rw [List.length_drop, hzs]; exact hfF.out.more (by simp)), ?_, ?_, ?_, (fun p e => by injection e with e; subst e; simp; omega), (fun p e => by have := hfabH.out p e; omega), hbF.out.drew⟩
              · show Ending.returned _ = Ending.returned (.tuple #[_, .agg #[.slice fa0 (lenD Q.1 0) fc0, .int .i64 (outD Q.1 0)]])
                rw [hld.out, hod.out]
                rw [List.length_drop, hzs]
              · show lenD Q.1 0 ≤ maxLen
                rw [hld.out]; exact hfm0
              · show lenD Q.1 0 ≤ fc0
                rw [hld.out]; exact hfc0
              · show Ints _ _ fa0 (lenD Q.1 0) (facD Q.1 0)
                rw [hld.out]; exact hIF.out.more (by simp)
        · have n24 : (r24 == 0) = false := by rw [beq_eq_false_iff_ne]; exact h24
          rw [if_neg h24] at hPP
          have hPP' : P = ((zs.set 0 2), Q.1) := hPP
          clear hPP
          have hPP := hPP'
          clear hPP'
          go_wp2_with fail
          refine (l18DrawDemands_any _ _ _ _ _ _ hS3).mono ?_
          rw [hQ]
          rintro e wd ⟨vd, E, rfl, hE, hE4, hownd, hrowsd, hSd, hgd⟩
          have hzd := hgd.size
          have hRd := (hR3).grown hgd (fun e => by injection e with e; omega)
          have hownf := (hown3).kept hgd (.inr (fun e => by have e : (some g5 : Option Nat) = some (w.heap.size + 1) := e; injection e with e; omega))
          have hbeld : Below w.heap.size w wd := (hbel3).trans (below_only hgd (by omega) (fun k e => by injection e with e; omega))
          have hf := (fun h => whole_ints h hzs) hownf
          obtain ⟨AD, cd, rfl, hnd, hcd⟩ := own_form hownd
          obtain ⟨fa, fc, hDm, hfab⟩ := dems_of_drew hE hownd rfl hrowsd
          clear hownd hrowsd hSd hgd hownf
          replace hf := Lib.hid hf
          have hl3 : Q.1.length = E.length := by rw [← hE, List.length_map]
          clear hE
          generalize E.length = kd at *
          rcases Nat.eq_zero_or_pos kd with hk0 | hk0
          · subst hk0
            have hQ0 : Q.1 = [] := List.length_eq_zero_iff.1 hl3
            have r0 := hRd.cell 0
            have r1 := hRd.cell 1
            have q0 := hRd.frz 0
            have q1 := hRd.frz 1
            simp at r0 r1
            have hF := (hRd.put 0 (.slice none 0 0)).put 1 (.int .i64 0)
            have e0 := hF.cell 0
            have e1 := hF.cell 1
            simp only [List.getElem?_toArray, List.getElem?_cons_zero, List.getElem?_cons_succ, List.setIfInBounds_toArray, List.set_cons_zero, List.set_cons_succ] at e0 e1
            have hbF := (hbeld.setCell (p := ⟨w.heap.size, 0, none⟩) (Nat.le_refl _) (.slice none 0 0)).setCell (p := ⟨w.heap.size, 1, none⟩) (Nat.le_refl _) (.int .i64 0)
            have hfF := ints_put2 (g := w.heap.size) hf.out (fun p e => by injection e with e; subst e; simp; omega) (.slice none 0 0) (.int .i64 0)
            replace e0 := Lib.hid e0
            replace e1 := Lib.hid e1
            replace hbF := Lib.hid hbF
            replace hfF := Lib.hid hfF
            clear hF hRd hDm hbeld hfab
            go_wp2
            have e0 := e0.out
            have e1 := e1.out
            refine bodyPost_ret (v := .tuple #[.slice (some ⟨g5, 0, none⟩) 8 cap5, .agg #[.slice none 0 0, .int .i64 0]]) (by simp [results, Try.results17, go_sem, e0, e1]) rfl ?_
            rw [hPP, hQ0]
            exact ⟨_, none, _, 0, (by show Ending.returned _ = Ending.returned (.tuple #[.slice _ ((zs.set 0 2)).length _, _]); rw [hzs]; rfl), (by show ((zs.set 0 2)).length ≤ 8; omega), (by show Ints _ _ _ ((zs.set 0 2)).length _; rw [hzs]; exact hfF.out.more (by simp)), by simp [lenD], by simp [lenD], (fun h => by simp [lenD] at h), (fun p e => by injection e with e; subst e; simp; omega), (fun p e => by cases e), hbF.out⟩
          · obtain ⟨bD, oD, rfl, hbD, hcells⟩ := hDm.1 hk0
            obtain ⟨g0, g1⟩ := hcells 0 hk0
            obtain ⟨hI0, hfc0, hfm0⟩ := hDm.2 0 hk0
            simp only [Nat.zero_mul, Nat.add_zero] at g0 g1
            have r0 := hRd.cell 0
            have r1 := hRd.cell 1
            have q0 := hRd.frz 0
            have q1 := hRd.frz 1
            simp at r0 r1
            have hk1 : ((kd : Int) == 0) = false := by rw [beq_eq_false_iff_ne]; omega
            have hk2 : ¬ kd = 0 := by omega
            have hfab0 := hfab 0 hk0
            generalize fa 0 = fa0 at g0 hI0 hfab0
            generalize fc 0 = fc0 at g0 hfc0
            obtain ⟨ld, hld⟩ : ∃ z, lenD Q.1 0 = z := ⟨_, rfl⟩
            rw [hld] at g0 hI0 hfc0 hfm0
            obtain ⟨od, hod⟩ : ∃ z, outD Q.1 0 = z := ⟨_, rfl⟩
            rw [hod] at g1
            have hF := (hRd.put 0 (.slice fa0 ld fc0)).put 1 (.int .i64 od)
            have e0 := hF.cell 0
            have e1 := hF.cell 1
            simp only [List.getElem?_toArray, List.getElem?_cons_zero, List.getElem?_cons_succ, List.setIfInBounds_toArray, List.set_cons_zero, List.set_cons_succ] at e0 e1
            have hbF := (hbeld.setCell (p := ⟨w.heap.size, 0, none⟩) (Nat.le_refl _) (.slice fa0 ld fc0)).setCell (p := ⟨w.heap.size, 1, none⟩) (Nat.le_refl _) (.int .i64 od)
            have hfF := ints_put2 (g := w.heap.size) hf.out (fun p e => by injection e with e; subst e; simp; omega) (.slice fa0 ld fc0) (.int .i64 od)
            have hIF := ints_put2 (g := w.heap.size) hI0 (fun p e => by have := hfab0 p e; omega) (.slice fa0 ld fc0) (.int .i64 od)
            replace e0 := Lib.hid e0
            replace e1 := Lib.hid e1
            replace hbF := Lib.hid hbF
            replace hfF := Lib.hid hfF
            replace hIF := Lib.hid hIF
            replace hld := Lib.hid hld
            replace hod := Lib.hid hod
            have hfabH := Lib.hid hfab0
            clear hF hRd hDm hbeld hcells hI0 hfab hfab0
            go_wp2_with fail
            go_region
            all_goals go_wp2
            all_goals
              have e0 := e0.out
              have e1 := e1.out
              refine bodyPost_ret (v := .tuple #[.slice (some ⟨g5, 0, none⟩) 8 cap5, .agg #[.slice fa0 ld fc0, .int .i64 od]]) (by simp [results, Try.results17, go_sem, e0, e1]) rfl ?_
              rw [hPP]
              refine ⟨_, fa0, cap5, fc0, ?_, (by show ((zs.set 0 2)).length ≤ 8; omega), (by show Ints _ _ _ ((zs.set 0 2)).length _; rw [hzs]; exact hfF.out.more (by simp)), ?_, ?_, ?_, (fun p e => by injection e with e; subst e; simp; omega), (fun p e => by have := hfabH.out p e; omega), hbF.out.drew⟩
              · show Ending.returned _ = Ending.returned (.tuple #[_, .agg #[.slice fa0 (lenD Q.1 0) fc0, .int .i64 (outD Q.1 0)]])
                rw [hld.out, hod.out]
                rw [hzs]
              · show lenD Q.1 0 ≤ maxLen
                rw [hld.out]; exact hfm0
              · show lenD Q.1 0 ≤ fc0
                rw [hld.out]; exact hfc0
              · show Ints _ _ fa0 (lenD Q.1 0) (facD Q.1 0)
                rw [hld.out]; exact hIF.out.more (by simp)
      · have n16 : (r16 == 0) = false := by rw [beq_eq_false_iff_ne]; exact h16
        rw [if_neg h16] at hPP
        clear hW2
        go_wp2_with fail
        refine (next_val _ _ _ _ _ _ _ _ _ hS2 hr24 hs2 (by omega) (by omega)).mono ?_
        rintro e w3 ⟨rfl, q0, q1, hS3, hg3⟩
        have hown3 := (hown2).kept hg3 (.inr (fun e => by have e : (some g5 : Option Nat) = some (w.heap.size + 1) := e; injection e with e; omega))
        have hR3 := (hR2).grown hg3 (fun e => by injection e with e; omega)
        have hz3 := hg3.size
        try simp only [World.size_setCell] at hz3
        have hbel3 : Below w.heap.size w w3 := (hbel2).trans (below_only hg3 (by first | omega | (simp; omega)) (fun k e => by injection e with e; omega))
        clear hr24 hs2 hg3
        by_cases h24 : r24 = 0
        · subst h24
          have hPP' : P = (zs.drop 1, Q.1) := by rw [hPP]; rfl
          clear hPP
          have hPP := hPP'
          clear hPP'
          have hn1 : ¬ cap5 = 1 := by omega
          have hn2 : ¬ (cap5 : Int) = 1 := by omega
          go_wp2_with fail
          refine (l18DrawDemands_any _ _ _ _ _ _ hS3).mono ?_
          rw [hQ]
          rintro e wd ⟨vd, E, rfl, hE, hE4, hownd, hrowsd, hSd, hgd⟩
          have hzd := hgd.size
          have hRd := (hR3).grown hgd (fun e => by injection e with e; omega)
          have hownf := (hown3).kept hgd (.inr (fun e => by have e : (some g5 : Option Nat) = some (w.heap.size + 1) := e; injection e with e; omega))
          have hbeld : Below w.heap.size w wd := (hbel3).trans (below_only hgd (by omega) (fun k e => by injection e with e; omega))
          have hf := (fun h => tail_ints h hzl) hownf
          obtain ⟨AD, cd, rfl, hnd, hcd⟩ := own_form hownd
          obtain ⟨fa, fc, hDm, hfab⟩ := dems_of_drew hE hownd rfl hrowsd
          clear hownd hrowsd hSd hgd hownf
          replace hf := Lib.hid hf
          have hl3 : Q.1.length = E.length := by rw [← hE, List.length_map]
          clear hE
          generalize E.length = kd at *
          rcases Nat.eq_zero_or_pos kd with hk0 | hk0
          · subst hk0
            have hQ0 : Q.1 = [] := List.length_eq_zero_iff.1 hl3
            have r0 := hRd.cell 0
            have r1 := hRd.cell 1
            have q0 := hRd.frz 0
            have q1 := hRd.frz 1
            simp at r0 r1
            have hF := (hRd.put 0 (.slice none 0 0)).put 1 (.int .i64 0)
            have e0 := hF.cell 0
            have e1 := hF.cell 1
            simp only [List.getElem?_toArray, List.getElem?_cons_zero, List.getElem?_cons_succ, List.setIfInBounds_toArray, List.set_cons_zero, List.set_cons_succ] at e0 e1
            have hbF := (hbeld.setCell (p := ⟨w.heap.size, 0, none⟩) (Nat.le_refl _) (.slice none 0 0)).setCell (p := ⟨w.heap.size, 1, none⟩) (Nat.le_refl _) (.int .i64 0)
            have hfF := ints_put2 (g := w.heap.size) hf.out (fun p e => by injection e with e; subst e; simp; omega) (.slice none 0 0) (.int .i64 0)
            replace e0 := Lib.hid e0
            replace e1 := Lib.hid e1
            replace hbF := Lib.hid hbF
            replace hfF := Lib.hid hfF
            clear hF hRd hDm hbeld hfab
            go_wp2
            have e0 := e0.out
            have e1 := e1.out
            refine bodyPost_ret (v := .tuple #[.slice (some ⟨g5, 1, none⟩) 7 (cap5 - 1), .agg #[.slice none 0 0, .int .i64 0]]) (by simp [results, Try.results17, go_sem, e0, e1]) rfl ?_
            rw [hPP, hQ0]
            exact ⟨_, none, _, 0, (by show Ending.returned _ = Ending.returned (.tuple #[.slice _ ((zs).drop 1).length _, _]); rw [List.length_drop, hzl]; rfl), (by show ((zs).drop 1).length ≤ 8; rw [List.length_drop]; omega), (by show Ints _ _ _ ((zs).drop 1).length _; rw [List.length_drop, hzl]; exact hfF.out.more (by simp)), by simp [lenD], by simp [lenD], (fun h => by simp [lenD] at h), (fun p e => by injection e with e; subst e; simp; omega), (fun p e => by cases e), hbF.out⟩
          · obtain ⟨bD, oD, rfl, hbD, hcells⟩ := hDm.1 hk0
            obtain ⟨g0, g1⟩ := hcells 0 hk0
            obtain ⟨hI0, hfc0, hfm0⟩ := hDm.2 0 hk0
            simp only [Nat.zero_mul, Nat.add_zero] at g0 g1
            have r0 := hRd.cell 0
            have r1 := hRd.cell 1
            have q0 := hRd.frz 0
            have q1 := hRd.frz 1
            simp at r0 r1
            have hk1 : ((kd : Int) == 0) = false := by rw [beq_eq_false_iff_ne]; omega
            have hk2 : ¬ kd = 0 := by omega
            have hfab0 := hfab 0 hk0
            generalize fa 0 = fa0 at g0 hI0 hfab0
            generalize fc 0 = fc0 at g0 hfc0
            obtain ⟨ld, hld⟩ : ∃ z, lenD Q.1 0 = z := ⟨_, rfl⟩
            rw [hld] at g0 hI0 hfc0 hfm0
            obtain ⟨od, hod⟩ : ∃ z, outD Q.1 0 = z := ⟨_, rfl⟩
            rw [hod] at g1
            have hF := (hRd.put 0 (.slice fa0 ld fc0)).put 1 (.int .i64 od)
            have e0 := hF.cell 0
            have e1 := hF.cell 1
            simp only [List.getElem?_toArray, List.getElem?_cons_zero, List.getElem?_cons_succ, List.setIfInBounds_toArray, List.set_cons_zero, List.set_cons_succ] at e0 e1
            have hbF := (hbeld.setCell (p := ⟨w.heap.size, 0, none⟩) (Nat.le_refl _) (.slice fa0 ld fc0)).setCell (p := ⟨w.heap.size, 1, none⟩) (Nat.le_refl _) (.int .i64 od)
            have hfF := ints_put2 (g := w.heap.size) hf.out (fun p e => by injection e with e; subst e; simp; omega) (.slice fa0 ld fc0) (.int .i64 od)
            have hIF := ints_put2 (g := w.heap.size) hI0 (fun p e => by have := hfab0 p e; omega) (.slice fa0 ld fc0) (.int .i64 od)
            replace e0 := Lib.hid e0
            replace e1 := Lib.hid e1
            replace hbF := Lib.hid hbF
            replace hfF := Lib.hid hfF
            replace hIF := Lib.hid hIF
            replace hld := Lib.hid hld
            replace hod := Lib.hid hod
            have hfabH := Lib.hid hfab0
            clear hF hRd hDm hbeld hcells hI0 hfab hfab0
            go_wp2_with fail
            go_region
            all_goals go_wp2
            all_goals
              have e0 := e0.out
              have e1 := e1.out
              refine bodyPost_ret (v := .tuple #[.slice (some ⟨g5, 1, none⟩) 7 (cap5 - 1), .agg #[.slice fa0 ld fc0, .int .i64 od]]) (by simp [results, Try.results17, go_sem, e0, e1]) rfl ?_
              rw [hPP]
              refine ⟨_, fa0, (cap5 - 1), fc0, ?_, (by show ((zs).drop 1).length ≤ 8; rw [List.length_drop]; omega), (by show Ints _ _ _ ((zs).drop 1).length _; rw [List.length_drop, hzl]; exact hfF.out.more (by simp)), ?_, ?_, ?_, (fun p e => by injection e with e; subst e; simp; omega), (fun p e => by have := hfabH.out p e; omega), hbF.out.drew⟩
              · show Ending.returned _ = Ending.returned (.tuple #[_, .agg #[.slice fa0 (lenD Q.1 0) fc0, .int .i64 (outD Q.1 0)]])
                rw [hld.out, hod.out]
                rw [List.length_drop, hzl]
              · show lenD Q.1 0 ≤ maxLen
                rw [hld.out]; exact hfm0
              · show lenD Q.1 0 ≤ fc0
                rw [hld.out]; exact hfc0
              · show Ints _ _ fa0 (lenD Q.1 0) (facD Q.1 0)
                rw [hld.out]; exact hIF.out.more (by simp)
        · have n24 : (r24 == 0) = false := by rw [beq_eq_false_iff_ne]; exact h24
          rw [if_neg h24] at hPP
          have hPP' : P = (zs, Q.1) := hPP
          clear hPP
          have hPP := hPP'
          clear hPP'
          go_wp2_with fail
          refine (l18DrawDemands_any _ _ _ _ _ _ hS3).mono ?_
          rw [hQ]
          rintro e wd ⟨vd, E, rfl, hE, hE4, hownd, hrowsd, hSd, hgd⟩
          have hzd := hgd.size
          have hRd := (hR3).grown hgd (fun e => by injection e with e; omega)
          have hownf := (hown3).kept hgd (.inr (fun e => by have e : (some g5 : Option Nat) = some (w.heap.size + 1) := e; injection e with e; omega))
          have hbeld : Below w.heap.size w wd := (hbel3).trans (below_only hgd (by omega) (fun k e => by injection e with e; omega))
          have hf := (fun h => whole_ints h hzl) hownf
          obtain ⟨AD, cd, rfl, hnd, hcd⟩ := own_form hownd
          obtain ⟨fa, fc, hDm, hfab⟩ := dems_of_drew hE hownd rfl hrowsd
          clear hownd hrowsd hSd hgd hownf
          replace hf := Lib.hid hf
          have hl3 : Q.1.length = E.length := by rw [← hE, List.length_map]
          clear hE
          generalize E.length = kd at *
          rcases Nat.eq_zero_or_pos kd with hk0 | hk0
          · subst hk0
            have hQ0 : Q.1 = [] := List.length_eq_zero_iff.1 hl3
            have r0 := hRd.cell 0
            have r1 := hRd.cell 1
            have q0 := hRd.frz 0
            have q1 := hRd.frz 1
            simp at r0 r1
            have hF := (hRd.put 0 (.slice none 0 0)).put 1 (.int .i64 0)
            have e0 := hF.cell 0
            have e1 := hF.cell 1
            simp only [List.getElem?_toArray, List.getElem?_cons_zero, List.getElem?_cons_succ, List.setIfInBounds_toArray, List.set_cons_zero, List.set_cons_succ] at e0 e1
            have hbF := (hbeld.setCell (p := ⟨w.heap.size, 0, none⟩) (Nat.le_refl _) (.slice none 0 0)).setCell (p := ⟨w.heap.size, 1, none⟩) (Nat.le_refl _) (.int .i64 0)
            have hfF := ints_put2 (g := w.heap.size) hf.out (fun p e => by injection e with e; subst e; simp; omega) (.slice none 0 0) (.int .i64 0)
            replace e0 := Lib.hid e0
            replace e1 := Lib.hid e1
            replace hbF := Lib.hid hbF
            replace hfF := Lib.hid hfF
            clear hF hRd hDm hbeld hfab
            go_wp2
            have e0 := e0.out
            have e1 := e1.out
            refine bodyPost_ret (v := .tuple #[.slice (some ⟨g5, 0, none⟩) 8 cap5, .agg #[.slice none 0 0, .int .i64 0]]) (by simp [results, Try.results17, go_sem, e0, e1]) rfl ?_
            rw [hPP, hQ0]
            exact ⟨_, none, _, 0, (by show Ending.returned _ = Ending.returned (.tuple #[.slice _ (zs).length _, _]); rw [hzl]; rfl), (by show (zs).length ≤ 8; omega), (by show Ints _ _ _ (zs).length _; rw [hzl]; exact hfF.out.more (by simp)), by simp [lenD], by simp [lenD], (fun h => by simp [lenD] at h), (fun p e => by injection e with e; subst e; simp; omega), (fun p e => by cases e), hbF.out⟩
          · obtain ⟨bD, oD, rfl, hbD, hcells⟩ := hDm.1 hk0
            obtain ⟨g0, g1⟩ := hcells 0 hk0
            obtain ⟨hI0, hfc0, hfm0⟩ := hDm.2 0 hk0
            simp only [Nat.zero_mul, Nat.add_zero] at g0 g1
            have r0 := hRd.cell 0
            have r1 := hRd.cell 1
            have q0 := hRd.frz 0
            have q1 := hRd.frz 1
            simp at r0 r1
            have hk1 : ((kd : Int) == 0) = false := by rw [beq_eq_false_iff_ne]; omega
            have hk2 : ¬ kd = 0 := by omega
            have hfab0 := hfab 0 hk0
            generalize fa 0 = fa0 at g0 hI0 hfab0
            generalize fc 0 = fc0 at g0 hfc0
            obtain ⟨ld, hld⟩ : ∃ z, lenD Q.1 0 = z := ⟨_, rfl⟩
            rw [hld] at g0 hI0 hfc0 hfm0
            obtain ⟨od, hod⟩ : ∃ z, outD Q.1 0 = z := ⟨_, rfl⟩
            rw [hod] at g1
            have hF := (hRd.put 0 (.slice fa0 ld fc0)).put 1 (.int .i64 od)
            have e0 := hF.cell 0
            have e1 := hF.cell 1
            simp only [List.getElem?_toArray, List.getElem?_cons_zero, List.getElem?_cons_succ, List.setIfInBounds_toArray, List.set_cons_zero, List.set_cons_succ] at e0 e1
            have hbF := (hbeld.setCell (p := ⟨w.heap.size, 0, none⟩) (Nat.le_refl _) (.slice fa0 ld fc0)).setCell (p := ⟨w.heap.size, 1, none⟩) (Nat.le_refl _) (.int .i64 od)
            have hfF := ints_put2 (g := w.heap.size) hf.out (fun p e => by injection e with e; subst e; simp; omega) (.slice fa0 ld fc0) (.int .i64 od)
            have hIF := ints_put2 (g := w.heap.size) hI0 (fun p e => by have := hfab0 p e; omega) (.slice fa0 ld fc0) (.int .i64 od)
            replace e0 := Lib.hid e0
            replace e1 := Lib.hid e1
            replace hbF := Lib.hid hbF
            replace hfF := Lib.hid hfF
            replace hIF := Lib.hid hIF
            replace hld := Lib.hid hld
            replace hod := Lib.hid hod
            have hfabH := Lib.hid hfab0
            clear hF hRd hDm hbeld hcells hI0 hfab hfab0
            go_wp2_with fail
            go_region
            all_goals go_wp2
            all_goals
              have e0 := e0.out
              have e1 := e1.out
              refine bodyPost_ret (v := .tuple #[.slice (some ⟨g5, 0, none⟩) 8 cap5, .agg #[.slice fa0 ld fc0, .int .i64 od]]) (by simp [results, Try.results17, go_sem, e0, e1]) rfl ?_
              rw [hPP]
              refine ⟨_, fa0, cap5, fc0, ?_, (by show (zs).length ≤ 8; omega), (by show Ints _ _ _ (zs).length _; rw [hzl]; exact hfF.out.more (by simp)), ?_, ?_, ?_, (fun p e => by injection e with e; subst e; simp; omega), (fun p e => by have := hfabH.out p e; omega), hbF.out.drew⟩
              · show Ending.returned _ = Ending.returned (.tuple #[_, .agg #[.slice fa0 (lenD Q.1 0) fc0, .int .i64 (outD Q.1 0)]])
                rw [hld.out, hod.out]
                rw [hzl]
              · show lenD Q.1 0 ≤ maxLen
                rw [hld.out]; exact hfm0
              · show lenD Q.1 0 ≤ fc0
                rw [hld.out]; exact hfc0
              · show Ints _ _ fa0 (lenD Q.1 0) (facD Q.1 0)
                rw [hld.out]; exact hIF.out.more (by simp)
    · obtain ⟨p, rfl⟩ : ∃ k, p = k + 1 := ⟨p - 1, by omega⟩
      obtain ⟨r3, hr3⟩ : ∃ r, nextV 3 m bs s = r := ⟨_, rfl⟩
      obtain ⟨s1, hs1⟩ : ∃ x, nextS 3 m s = x := ⟨_, rfl⟩
      have hTn : Hid (drawM8 m bs p (zs ++ [r3 - 1]) s1 = T) := by
        have h1 := hTz.out
        simp only [drawM8, hr3, hs1] at h1
        exact Lib.hid h1
      have hi8 : i < 8 := by omega
      clear hTz hP
      go_wp2_with fail
      refine (next_val _ _ _ _ _ _ _ _ _ hS hr3 hs1 (by omega) (by omega)).mono ?_
      rintro e w2 ⟨rfl, p0, p1, hS2, hg2⟩
      have hown2 := own_only hown hg2 (fun k e => by injection e with e; omega)
      have hR2 := hR.grown hg2 (fun e => by injection e with e; omega)
      have hz2 := hg2.size
      have hbel2 : Below w.heap.size w w2 := hbel.trans (below_only hg2 (by omega) (fun k e => by injection e with e; omega))
      have hw3 : IntKind.i64.wrap (r3 - 1) = r3 - 1 := by rw [IntKind.wrap_i64]; omega
      have hnew := Whole.new w2 2 #[.int .i64 (r3 - 1)]
      clear hown hR hS hg2 hbel hr3 hs1
      go_wp2_with (at_builtin; refine wpList_append_own_at _ rfl _ _ 31 rfl w1.heap.size 2 j0 _ 1 8 Try.underlying31 hj.out hy0'.out hy1'.out hy2'.out rfl (by decide) _ _ _ rfl (hown2.alloc _) ⟨w2.heap.size, 0, none⟩ 1 1 [.int .i64 (r3 - 1)] rfl rfl ?c1 ?c2 ?c3 ?c4 ?c5 ?_)
      case c1 =>
        intro j u hu
        rw [add_zero_off, hnew.cell]
        simpa using hu
      case c2 => simp [Value.oneCell']
      case c3 => simp only [maxLen]; omega
      case c4 => omega
      case c5 => simp; omega
      intro v' w8 hown' hgrow _ hat
      have hlt := fun k hk => (hown2.lt k hk).1
      have hz8 := hgrow.size
      simp only [World.size_alloc] at hz8
      have hS8 : Src w8 (w.heap.size + 1) (w.heap.size + 1) m bs s1 := (hS2.new _).keepOnly hgrow (fun k hk => by have := hlt k hk; omega)
      have hown8 : w8.ownsRow w1.heap.size 2 1 v' (i + 1) ((zs ++ [r3 - 1]).map (Value.int .i64)) := by simpa using hown'
      have hR8 := (hR2.alloc (.cells #[.int .i64 (r3 - 1)] 2)).grown hgrow (fun e => by have := hlt _ e; omega)
      have hbel8 : Below w.heap.size w w8 := (hbel2.alloc (by omega) (.cells #[.int .i64 (r3 - 1)] 2)).trans (below_only hgrow (by simp; omega) (fun k hk => by have := hlt k hk; omega))
      clear hown' hgrow hat hown2 hR2 hS2 hbel2
      go_wp2
      go_roundw
      case rel => exact ⟨p, i + 1, zs ++ [r3 - 1], s1, by go_num, by omega, by simp; omega, hTn, hown8, hR8, hS8, by omega, hbel8⟩
      case measure => simp [intOf]; omega
end Go.Proofs.Ytcilgohjeobamaa
