/- The draw of a hearing, as a function of the code. -/
import Derived.Test.YtcilgohjeobamaaHear3
import Derived.Test.YtcilgohjeobamaaPick
import Derived.Test.YtcilgohjeobamaaInv
import Derived.Maps.AppendAt
import Derived.Deep.CutRange
import Derived.Deep.RegionWith
import Derived.Deep.CutBlock
import Derived.Deep.RegionLaw
import Derived.StillTailTactics
set_option linter.unusedSimpArgs false
set_option linter.unusedVariables false
namespace Go.Proofs.Ytcilgohjeobamaa
open Go.RowKit

theorem next_val (n : Int) (w : World) (B g m : Nat) (bs : Nat → Int) (st s' : Nat × Int) (r : Int) (h : Src w B g m bs st) (hr : nextV n m bs st = r) (hs : nextS n m st = s') (h1 : 1 ≤ n) (h2 : n ≤ 9223372036854775807) :
    Calls Try.prog 53 #[.pointer (some ⟨g, 0, none⟩), .int .i64 n] w fun e w' => e = .returned (.int .i64 r) ∧ 0 ≤ r ∧ r < n ∧ Src w' B g m bs s' ∧ w.grownBy w' (some g) := by
  subst hr; subst hs
  refine (next_any n w B g m bs st h h2).mono ?_
  rintro e w' ⟨rfl, h3, h4⟩
  have := nextV_bd n m bs st h1
  exact ⟨rfl, this.1, this.2, h3, h4⟩
theorem Src.new {w : World} {B g m : Nat} {bs : Nat → Int} {st : Nat × Int} (h : Src w B g m bs st) (o : Obj) : Src (w.alloc o) B g m bs st :=
  h.keepOnly (World.grownBy_alloc w o none) (fun k e => by cases e)
theorem Src.lt {w : World} {B g m : Nat} {bs : Nat → Int} {st : Nat × Int} (h : Src w B g m bs st) : g < w.heap.size := SrcX.lt ⟨st, h⟩
theorem own_put {w : World} {base g n c size : Nat} {e : TypeId} {xs : List Value} (h : w.ownsRow base e size (.slice (some ⟨g, 0, none⟩) n c) n xs) (i : Nat) (u : Value) : (w.setCell ⟨g, i, none⟩ u).ownsRow base e size (.slice (some ⟨g, 0, none⟩) n c) n (xs.set i u) := by
  rcases h.2 with ⟨hv, _⟩ | ⟨g', cap, cur, hv, hb, hh, hnc, hcm, hcs, ht⟩
  · cases hv
  · injection hv with hv1 _ hv3
    injection hv1 with hv1
    injection hv1 with hv1
    subst hv1
    subst hv3
    refine ⟨by simpa using h.1, .inr ⟨g, c, cur.setIfInBounds i u, rfl, hb, Whole.put hh i u, hnc, hcm, by simpa using hcs, ?_⟩⟩
    rw [Array.toList_setIfInBounds, List.take_set, ht]
theorem own_putI {w : World} {base g n c size : Nat} {e : TypeId} {zs : List Int} (h : w.ownsRow base e size (.slice (some ⟨g, 0, none⟩) n c) n (zs.map (Value.int .i64))) (i : Nat) (x : Int) : (w.setCell ⟨g, i, none⟩ (.int .i64 x)).ownsRow base e size (.slice (some ⟨g, 0, none⟩) n c) n ((zs.set i x).map (Value.int .i64)) := by
  rw [List.map_set]; exact own_put h i _
/-- append onto a row of the call's own, as a step of a region that draws its order. -/
theorem step_append_own {P : Program} {w : World} {ops : Array Oper} {o : Oper} {a : Act} {K : Act → World → Prop} {Q : Exit → Act → World → Prop} {E : Prop} (hgd : o.guard = none) (s x : Operand) (t : TypeId)
    (ho : o.op = .call { callee := .builtin .append, args := #[s, x], argTypes := #[t, t] })
    (base : Nat) (e : TypeId) (i : TypeInfo) (z : Value) (size bytes : Nat) (ht : P.underlying t = some (.slice e)) (hi : P.info? e = some i) (hz : i.zero = some z)
    (hsize : i.size = size) (hby : i.bytes = bytes) (hzs : z.cells.size = size) (hsz : 0 < size)
    (v : Value) (n : Nat) (xs : List Value) (hs : a.eval s = v) (hown : w.ownsRow base e size v n xs)
    (ad : Addr) (m c : Nat) (news : List Value) (hx : a.eval x = .slice (some ad) m c) (hl : news.length = m * size) (hnews : ∀ j u, news[j]? = some u → w.cell? (ad.add j) = some u) (h1 : ∀ u ∈ news, u.oneCell' = true)
    (h63 : n + m ≤ maxLen) (hbytes : (n + m) * bytes ≤ 140737488355328) (hbase : base ≤ w.heap.size)
    (h : ∀ v' w', w'.ownsRow base e size v' (n + m) (xs ++ news) → w.grownBy w' v.ownBlock → K (a.put o.dst v') w') :
    if Region.wanted o (yielded ops a.tmps) = true then Oper.wp P o a w K Q else E := by
  have hw : Region.wanted o (yielded ops a.tmps) = true := by simp [Region.wanted, hgd]
  rw [if_pos hw]
  exact wp_append_own w s x t ho base e i z size bytes ht hi hz hsize hby hzs hsz v n xs hs hown ad m c news hx hl hnews h1 h63 hbytes hbase fun v' w' h2 h3 h4 => h v' w' h2 h3
theorem news_whole {W : World} {g : Nat} {t : TypeId} {cs : Array Value} (h : Whole W g t cs) : ∀ j u, cs.toList[j]? = some u → W.cell? ((⟨g, 0, none⟩ : Addr).add j) = some u := by
  intro j u hu
  rw [add_zero_off, h.cell j]
  simpa using hu
def xsOf (zs : List Int) (j : Nat) : Int := zs.getD j 0

/-- A statement, drawn: its speaker, fact and sign, and the state behind it. -/
def stD (pb pa : Int) (m : Nat) (bs : Nat → Int) (s : Nat × Int) : (Int × Int × Int) × (Nat × Int) :=
  (((([pb, pa, 100, 101, 199] : List Int).getD (nextV 5 m bs s).toNat 0), nextV 4 m bs (nextS 5 m s), 2 * nextV 2 m bs (nextS 4 m (nextS 5 m s)) - 1), nextS 2 m (nextS 4 m (nextS 5 m s)))
/-- The list that q rounds draw behind zs. -/
def drawS (pb pa : Int) (m : Nat) (bs : Nat → Int) : Nat → List Int → Nat × Int → List Int × (Nat × Int)
  | 0, zs, s => (zs, s)
  | q + 1, zs, s =>
    let D := stD pb pa m bs s
    let ys := zs ++ [D.1.1, D.1.2.1, D.1.2.2]
    if stB pb pa (zs.length / 3 + 1) (xsOf ys) = true then drawS pb pa m bs q ys D.2
    else drawS pb pa m bs q (if nextV 60 m bs D.2 = 0 then ys else zs) (nextS 60 m D.2)
/-- The list, mended rarely. -/
def fixS (m : Nat) (bs : Nat → Int) (n : Nat) (zs : List Int) (st : Nat × Int) : List Int × (Nat × Int) :=
  if n = 0 then (zs, st) else
  let s1 := nextS 16 m st
  if nextV 16 m bs st ≠ 0 then (zs, s1) else
  let i := (nextV n m bs s1).toNat
  let s2 := nextS n m s1
  let d := nextV 3 m bs s2
  let s3 := nextS 3 m s2
  if d = 0 then (zs.set (i * 3 + 2) 0, s3)
  else if d = 1 then (zs.set (i * 3 + 1) 8, s3)
  else (zs.set (i * 3) 50, s3)
/-- by, against (as the statements were drawn), against (as it is returned), the list and the state behind it. -/
def drawF (m : Nat) (bs : Nat → Int) (st : Nat × Int) : Int × Int × List Int × (Nat × Int) :=
  let s1 := nextS 5 m st
  let pb := nextV 5 m bs st
  let pa := (pb + 1 + nextV 4 m bs s1) % 5
  let s2 := nextS 4 m s1
  let p := drawS pb pa m bs (nextV 14 m bs s2).toNat [] (nextS 14 m s2)
  let r := fixS m bs (p.1.length / 3) p.1 p.2
  (pb, if nextV 24 m bs r.2 = 0 then pb else pa, r.1, nextS 24 m r.2)
def DrewF (w w' : World) (B g m : Nat) (bs : Nat → Int) (P : Int × Int × List Int × (Nat × Int)) (e : Ending) : Prop :=
  ∃ (v : Value) (n : Nat), e = .returned (.tuple #[.int .i64 P.1, .int .i64 P.2.1, v]) ∧ P.2.2.1.length = n * 3 ∧ n ≤ 13 ∧ w'.ownsRow w.heap.size 59 3 v n (P.2.2.1.map (Value.int .i64)) ∧ Src w' B g m bs P.2.2.2 ∧ w.grownBy w' (some g)

/-- What the operations leave that draw a statement. -/
def stG (base g : Nat) (pb pa sp a1 a2 a3 : Int) (i : Nat) (v : Value) (w : World) : Prop :=
  match i with
  | 0 => v = .int .i64 pb
  | 1 => v = .int .i64 pa
  | 2 => ∃ gs, v = .slice (some ⟨gs, 0, none⟩) 5 5 ∧ base ≤ gs ∧ Whole w gs 2 #[.int .i64 pb, .int .i64 pa, .int .i64 100, .int .i64 101, .int .i64 199]
  | 3 => v = .pointer (some ⟨g, 0, none⟩)
  | 4 => v = .int .i64 a1
  | 5 => ∃ gs, v = .pointer (some ⟨gs, a1.toNat, none⟩) ∧ base ≤ gs ∧ Whole w gs 2 #[.int .i64 pb, .int .i64 pa, .int .i64 100, .int .i64 101, .int .i64 199]
  | 6 => v = .int .i64 sp
  | 7 => v = .pointer (some ⟨g, 0, none⟩)
  | 8 => v = .int .i64 a2
  | 9 => v = .pointer (some ⟨g, 0, none⟩)
  | 10 => v = .int .i64 a3
  | 11 => v = .int .i64 (2 * a3)
  | 12 => v = .int .i64 (2 * a3 - 1)
  | 13 => v = .agg #[.int .i64 sp, .int .i64 a2, .int .i64 (2 * a3 - 1)]
  | 14 => ∃ gx, v = .pointer (some ⟨gx, 0, none⟩) ∧ base ≤ gx ∧ Whole w gx 59 #[.int .i64 0, .int .i64 0, .int .i64 0]
  | _ => True
theorem stG.keep {base g : Nat} {pb pa sp a1 a2 a3 : Int} {w w' : World} (hg : g < base) (hw : w.grownBy w' (some g)) (i : Nat) (v : Value) (h : stG base g pb pa sp a1 a2 a3 i v w) : stG base g pb pa sp a1 a2 a3 i v w' := by
  unfold stG at h ⊢
  split at h
  case h_3 => obtain ⟨gs, rfl, h1, h2⟩ := h; exact ⟨gs, rfl, h1, h2.grown hw (fun e => by injection e with e; omega)⟩
  case h_6 => obtain ⟨gs, rfl, h1, h2⟩ := h; exact ⟨gs, rfl, h1, h2.grown hw (fun e => by injection e with e; omega)⟩
  case h_15 => obtain ⟨gs, rfl, h1, h2⟩ := h; exact ⟨gs, rfl, h1, h2.grown hw (fun e => by injection e with e; omega)⟩
  all_goals exact h
/-- How far the three draws are. -/
def stT (Z : Nat × Int → Prop) (s s1 s2 s3 : Nat × Int) (L : Nat → Bool) : Prop :=
  (L 4 = false ∧ L 8 = false ∧ L 10 = false ∧ Z s) ∨ (L 4 = true ∧ L 8 = false ∧ L 10 = false ∧ Z s1) ∨ (L 4 = true ∧ L 8 = true ∧ L 10 = false ∧ Z s2) ∨ (L 4 = true ∧ L 8 = true ∧ L 10 = true ∧ Z s3)
theorem stT.map {Z Z' : Nat × Int → Prop} {s s1 s2 s3 : Nat × Int} {L : Nat → Bool} (h : stT Z s s1 s2 s3 L) (hz : ∀ s, Z s → Z' s) : stT Z' s s1 s2 s3 L := by
  rcases h with ⟨a, b, c, d⟩ | ⟨a, b, c, d⟩ | ⟨a, b, c, d⟩ | ⟨a, b, c, d⟩
  · exact .inl ⟨a, b, c, hz _ d⟩
  · exact .inr (.inl ⟨a, b, c, hz _ d⟩)
  · exact .inr (.inr (.inl ⟨a, b, c, hz _ d⟩))
  · exact .inr (.inr (.inr ⟨a, b, c, hz _ d⟩))
def stDst (j : Nat) : Nat := [26, 27, 28, 29, 30, 31, 32, 33, 34, 35, 36, 37, 38, 39, 9].getD j 0

/-- What the operations leave that test the list with a statement behind it. -/
def suG (g : Nat) (pb pa sp f sy r : Int) (v7 : Value) (b : Bool) (i : Nat) (v : Value) (_ : World) : Prop :=
  match i with
  | 0 => v = .int .i64 pb
  | 1 => v = .int .i64 pa
  | 3 => v = v7
  | 5 => v = .agg #[.int .i64 sp, .int .i64 f, .int .i64 sy]
  | 8 => v = .bool b
  | 9 => v = .bool b
  | 10 => b = false → v = .pointer (some ⟨g, 0, none⟩)
  | 11 => b = false → v = .int .i64 r
  | 12 => b = false → v = .bool (r == 0)
  | 13 => v = .bool (b || (r == 0))
  | _ => True
def suT (base n : Nat) (zs : List Int) (sp f sy : Int) (L : Nat → Bool) (x : Nat → Value) (w : World) : Prop :=
  (L 2 = true → L 4 = false → w.ownsRow base 59 3 (x 42) 0 (([] : List Int).map (Value.int .i64))) ∧
  (L 4 = true → L 7 = false → w.ownsRow base 59 3 (x 44) n (zs.map (Value.int .i64))) ∧
  (L 6 = true → L 7 = false → ∃ gn, x 46 = .slice (some ⟨gn, 0, none⟩) 1 1 ∧ base ≤ gn ∧ Whole w gn 59 #[.int .i64 sp, .int .i64 f, .int .i64 sy] ∧ (L 2 = true → L 4 = false → (x 42).ownBlock ≠ some gn)) ∧
  (L 7 = true → L 8 = false → w.ownsRow base 59 3 (x 47) (n + 1) ((zs ++ [sp, f, sy]).map (Value.int .i64))) ∧ (L 7 = true → L 4 = true)
def suDst (j : Nat) : Nat := [40, 41, 42, 43, 44, 45, 46, 47, 48, 49, 50, 51, 52, 53].getD j 0

set_option maxRecDepth 100000 in
set_option maxHeartbeats 8000000 in
theorem l18Draw_any (w : World) (B g m : Nat) (bs : Nat → Int) (st : Nat × Int) (h : Src w B g m bs st) :
    Calls Try.prog 65 #[.pointer (some ⟨g, 0, none⟩)] w fun e w' => DrewF w w' B g m bs (drawF m bs st) e := by
  have hgl := h.lt
  obtain ⟨i0, hi, hz0', hz1', hz2'⟩ := info_parts infoStatement
  replace hi := Lib.hid hi
  replace hz0' := Lib.hid hz0'
  replace hz1' := Lib.hid hz1'
  replace hz2' := Lib.hid hz2'
  obtain ⟨pb, hpb⟩ : ∃ r, nextV 5 m bs st = r := ⟨_, rfl⟩
  obtain ⟨s1, hs1⟩ : ∃ s, nextS 5 m st = s := ⟨_, rfl⟩
  obtain ⟨r2, hr2⟩ : ∃ r, nextV 4 m bs s1 = r := ⟨_, rfl⟩
  obtain ⟨s2, hs2⟩ : ∃ s, nextS 4 m s1 = s := ⟨_, rfl⟩
  obtain ⟨r3, hr3⟩ : ∃ r, nextV 14 m bs s2 = r := ⟨_, rfl⟩
  obtain ⟨s3, hs3⟩ : ∃ s, nextS 14 m s2 = s := ⟨_, rfl⟩
  obtain ⟨pa, hpa⟩ : ∃ r, (pb + 1 + r2) % 5 = r := ⟨_, rfl⟩
  obtain ⟨T, hT⟩ : ∃ T, drawS pb pa m bs r3.toNat [] s3 = T := ⟨_, rfl⟩
  have hP : ∀ R, fixS m bs (T.1.length / 3) T.1 T.2 = R → drawF m bs st = (pb, if nextV 24 m bs R.2 = 0 then pb else pa, R.1, nextS 24 m R.2) := by
    intro R hR
    unfold drawF
    simp only [hpb, hs1, hr2, hs2, hr3, hs3, hpa, hT, hR]
  replace hP := Lib.hid hP
  replace hT := Lib.hid hT
  generalize drawF m bs st = P at hP ⊢
  go_enter Try.func65, Try.ntmps65
  go_wp2_with fail
  refine (next_val _ _ _ _ _ _ _ _ _ h hpb hs1 (by omega) (by omega)).mono ?_
  rintro e w1 ⟨rfl, r10, r11, hS1, hg1⟩
  go_wp2_with fail
  refine (next_val _ _ _ _ _ _ _ _ _ hS1 hr2 hs2 (by omega) (by omega)).mono ?_
  rintro e w2 ⟨rfl, r20, r21, hS2, hg2⟩
  have hpt : (pb + 1 + r2).tmod 5 = pa := by rw [Int.tmod_eq_emod_of_nonneg (by omega)]; exact hpa
  have hpa2 : 0 ≤ pa ∧ pa < 5 := by omega
  go_wp2_with fail
  refine (next_val _ _ _ _ _ _ _ _ _ (hS2.new (.cells #[] 59)) hr3 hs3 (by omega) (by omega)).mono ?_
  rintro e w3 ⟨rfl, r30, r31, hS3, hg3⟩
  have hgw0 := only_trans (only_new (only_trans hg1 hg2) (.cells #[] 59)) hg3
  have hz1 := hg1.size
  have hz2 := hg2.size
  have hz3 := hg3.size
  simp only [World.size_alloc] at hz3
  have hown0 : w3.ownsRow w.heap.size 59 3 (.slice (some ⟨w2.heap.size, 0, none⟩) 0 0) 0 (([] : List Int).map (Value.int .i64)) := own_empty ((Whole.new w2 59 #[]).grown hg3 (fun e => by injection e with e; omega)) (by omega)
  clear hS1 hS2 hg1 hg2 hg3 hpb hr2 hs1 hs2 hr3 hs3 h
  obtain ⟨k3, rfl⟩ : ∃ k : Nat, r3 = k := ⟨r3.toNat, by omega⟩
  simp only [Int.toNat_natCast] at hT
  have hpa0 := hpa2.1
  have hpa1 := hpa2.2
  clear hpa hpa2 hpt r20 r21 hz1 hz2
  go_wp2_with fail
  go_loopw [7, 8] (fun v7 v8 wr => ∃ (n q : Nat) (zs : List Int) (s : Nat × Int), v8 = .int .i64 q ∧ (∃ g7 c7, v7 = .slice (some ⟨g7, 0, none⟩) n c7) ∧ n + q ≤ 13 ∧ zs.length = n * 3 ∧ Hid (drawS pb pa m bs q zs s = T) ∧
    wr.ownsRow w.heap.size 59 3 v7 n (zs.map (Value.int .i64)) ∧ Src wr B g m bs s ∧ w.grownBy wr (some g)) (fun v7 v8 _ => (intOf v8).toNat)
  case atStart => exact ⟨0, k3, [], s3, rfl, ⟨_, _, rfl⟩, by omega, rfl, hT, hown0, hS3, hgw0⟩
  case round =>
    obtain ⟨n, q, zs, s, rfl, ⟨g7, c7, rfl⟩, hnq, hzl, hTz, hown, hS, hgw⟩ := hrel
    clear hown0 hS3 hgw0 hT
    rcases Nat.eq_zero_or_pos q with hq | hq
    · subst hq
      have hP2 : T = (zs, s) := by
        have h1 := hTz.out
        simp only [drawS] at h1
        exact h1.symm
      subst hP2
      have hl3 : zs.length / 3 = n := by omega
      dsimp only at hP
      rw [hl3] at hP
      clear hTz
      have hzw := hgw.size
      rcases Nat.eq_zero_or_pos n with hn0 | hn0
      · subst hn0
        have hPx := hP.out _ (by unfold fixS; rw [if_pos rfl])
        clear hP
        dsimp only at hPx
        obtain ⟨r24, hr24⟩ : ∃ r, nextV 24 m bs s = r := ⟨_, rfl⟩
        obtain ⟨s24, hs24⟩ : ∃ x, nextS 24 m s = x := ⟨_, rfl⟩
        rw [hr24, hs24] at hPx
        go_wp2_with fail
        refine (next_val _ _ _ _ _ _ _ _ _ hS hr24 hs24 (by omega) (by omega)).mono ?_
        rintro e wt ⟨rfl, t0, t1, hSt, hgt⟩
        have hownt := own_only hown hgt (fun k e => by injection e with e; omega)
        have hgwt := only_trans hgw hgt
        clear hr24 hs24 hgt
        by_cases h24 : r24 = 0
        · rw [if_pos h24] at hPx
          subst h24
          subst hPx
          go_wp2
          go_ret3
          exact ⟨_, 0, rfl, hzl, by omega, hownt, hSt, hgwt⟩
        · rw [if_neg h24] at hPx
          have n24 : (r24 == 0) = false := by rw [beq_eq_false_iff_ne]; exact h24
          subst hPx
          go_wp2
          go_ret3
          exact ⟨_, 0, rfl, hzl, by omega, hownt, hSt, hgwt⟩
      have hn1 : decide (0 < (n : Int)) = true := by simp; omega
      have hn2 : ¬ n = 0 := by omega
      obtain ⟨r16, hr16⟩ : ∃ r, nextV 16 m bs s = r := ⟨_, rfl⟩
      obtain ⟨s16, hs16⟩ : ∃ x, nextS 16 m s = x := ⟨_, rfl⟩
      go_wp2_with fail
      refine (next_val _ _ _ _ _ _ _ _ _ hS hr16 hs16 (by omega) (by omega)).mono ?_
      rintro e w4 ⟨rfl, p0, p1, hS4, hg4⟩
      have hown4 := own_only hown hg4 (fun k e => by injection e with e; omega)
      have hgw4 := only_trans hgw hg4
      clear hown hgw hS hg4
      by_cases h16 : ¬ r16 = 0
      · have n16 : (r16 == 0) = false := by rw [beq_eq_false_iff_ne]; exact h16
        have hfix : fixS m bs n zs s = (zs, s16) := by
          unfold fixS
          simp only [hr16, hs16]
          rw [if_neg hn2, if_pos h16]
        clear hr16 hs16 hn1
        have hPx := hP.out _ (hfix)
        clear hP
        dsimp only at hPx
        obtain ⟨r24, hr24⟩ : ∃ r, nextV 24 m bs s16 = r := ⟨_, rfl⟩
        obtain ⟨s24, hs24⟩ : ∃ x, nextS 24 m s16 = x := ⟨_, rfl⟩
        rw [hr24, hs24] at hPx
        go_wp2_with fail
        refine (next_val _ _ _ _ _ _ _ _ _ hS4 hr24 hs24 (by omega) (by omega)).mono ?_
        rintro e wt ⟨rfl, t0, t1, hSt, hgt⟩
        have hownt := own_only hown4 hgt (fun k e => by injection e with e; omega)
        have hgwt := only_trans hgw4 hgt
        clear hr24 hs24 hgt
        by_cases h24 : r24 = 0
        · rw [if_pos h24] at hPx
          subst h24
          subst hPx
          go_wp2
          go_ret3
          exact ⟨_, n, rfl, hzl, by omega, hownt, hSt, hgwt⟩
        · rw [if_neg h24] at hPx
          have n24 : (r24 == 0) = false := by rw [beq_eq_false_iff_ne]; exact h24
          subst hPx
          go_wp2
          go_ret3
          exact ⟨_, n, rfl, hzl, by omega, hownt, hSt, hgwt⟩
      have h16 : r16 = 0 := Classical.not_not.1 h16
      subst h16
      obtain ⟨kk, hkk⟩ : ∃ r, nextV n m bs s16 = r := ⟨_, rfl⟩
      obtain ⟨s5, hs5⟩ : ∃ x, nextS n m s16 = x := ⟨_, rfl⟩
      obtain ⟨d, hd⟩ : ∃ r, nextV 3 m bs s5 = r := ⟨_, rfl⟩
      obtain ⟨s6, hs6⟩ : ∃ x, nextS 3 m s5 = x := ⟨_, rfl⟩
      have hfix : fixS m bs n zs s = (if d = 0 then (zs.set (kk.toNat * 3 + 2) 0, s6) else if d = 1 then (zs.set (kk.toNat * 3 + 1) 8, s6) else (zs.set (kk.toNat * 3) 50, s6)) := by
        unfold fixS
        simp only [hr16, hs16, hkk, hs5, hd, hs6]
        rw [if_neg hn2, if_neg (by omega)]
      replace hfix := Lib.hid hfix
      clear hr16 hs16
      go_wp2_with fail
      refine (next_val _ _ _ _ _ _ _ _ _ hS4 hkk hs5 (by omega) (by omega)).mono ?_
      rintro e w5 ⟨rfl, k0, k1, hS5, hg5⟩
      have hown5 := own_only hown4 hg5 (fun k e => by injection e with e; omega)
      have hgw5 := only_trans hgw4 hg5
      clear hown4 hgw4 hS4 hg5 hn1
      go_wp2_with fail
      refine (next_val _ _ _ _ _ _ _ _ _ hS5 hd hs6 (by omega) (by omega)).mono ?_
      rintro e w6 ⟨rfl, d0, d1, hS6, hg6⟩
      have hown6 := own_only hown5 hg6 (fun k e => by injection e with e; omega)
      have hgw6 := only_trans hgw5 hg6
      clear hown5 hgw5 hS5 hg6 hkk hs5 hd hs6
      have hz6 := hgw6.size
      obtain ⟨k, rfl⟩ : ∃ k : Nat, kk = k := ⟨kk.toNat, by omega⟩
      simp only [Int.toNat_natCast] at hfix
      have hkn : k < n := by omega
      obtain ⟨g6, cap6, cur6, hv6, hg6b, hW6, hnc6, hcm6, hcs6, -⟩ := own_open hown6 hn0
      injection hv6 with hv1 _ hv3
      injection hv1 with hv1
      injection hv1 with hv1
      subst hv1
      subst hv3
      have hgl6 := hW6.lt
      by_cases hd0 : d = 0
      · subst hd0
        have hf := hfix.out
        rw [if_pos rfl] at hf
        clear hfix
        have y1 := hW6.some_ (k * 3 + 2) (by omega)
        have f1 := hW6.frz (k * 3 + 2)
        have hownS := own_putI hown6 (k * 3 + 2) 0
        have hSS := hS6.keepOnly (row := some g7) (only_put (only_refl _ _) (k * 3 + 2) (.int .i64 0)) (fun j e => by injection e with e; omega)
        have hgS := only_put_new hgw6 hg6b (k * 3 + 2) (.int .i64 0)
        have hlS : (zs.set (k * 3 + 2) 0).length = n * 3 := by simpa using hzl
        clear hown6 hgw6 hS6 hW6
        have hPx := hP.out _ (hf)
        clear hP
        dsimp only at hPx
        obtain ⟨r24, hr24⟩ : ∃ r, nextV 24 m bs s6 = r := ⟨_, rfl⟩
        obtain ⟨s24, hs24⟩ : ∃ x, nextS 24 m s6 = x := ⟨_, rfl⟩
        rw [hr24, hs24] at hPx
        go_wp2_with fail
        refine (next_val _ _ _ _ _ _ _ _ _ hSS hr24 hs24 (by omega) (by omega)).mono ?_
        rintro e wt ⟨rfl, t0, t1, hSt, hgt⟩
        have hownt := own_only hownS hgt (fun k e => by injection e with e; omega)
        have hgwt := only_trans hgS hgt
        clear hr24 hs24 hgt
        by_cases h24 : r24 = 0
        · rw [if_pos h24] at hPx
          subst h24
          subst hPx
          go_wp2
          go_ret3
          exact ⟨_, n, rfl, hlS, by omega, hownt, hSt, hgwt⟩
        · rw [if_neg h24] at hPx
          have n24 : (r24 == 0) = false := by rw [beq_eq_false_iff_ne]; exact h24
          subst hPx
          go_wp2
          go_ret3
          exact ⟨_, n, rfl, hlS, by omega, hownt, hSt, hgwt⟩
      by_cases hd1 : d = 1
      · subst hd1
        have hf := hfix.out
        rw [if_neg (by omega), if_pos rfl] at hf
        clear hfix
        have y1 := hW6.some_ (k * 3 + 1) (by omega)
        have f1 := hW6.frz (k * 3 + 1)
        have hownS := own_putI hown6 (k * 3 + 1) 8
        have hSS := hS6.keepOnly (row := some g7) (only_put (only_refl _ _) (k * 3 + 1) (.int .i64 8)) (fun j e => by injection e with e; omega)
        have hgS := only_put_new hgw6 hg6b (k * 3 + 1) (.int .i64 8)
        have hlS : (zs.set (k * 3 + 1) 8).length = n * 3 := by simpa using hzl
        clear hown6 hgw6 hS6 hW6
        have hPx := hP.out _ (hf)
        clear hP
        dsimp only at hPx
        obtain ⟨r24, hr24⟩ : ∃ r, nextV 24 m bs s6 = r := ⟨_, rfl⟩
        obtain ⟨s24, hs24⟩ : ∃ x, nextS 24 m s6 = x := ⟨_, rfl⟩
        rw [hr24, hs24] at hPx
        go_wp2_with fail
        refine (next_val _ _ _ _ _ _ _ _ _ hSS hr24 hs24 (by omega) (by omega)).mono ?_
        rintro e wt ⟨rfl, t0, t1, hSt, hgt⟩
        have hownt := own_only hownS hgt (fun k e => by injection e with e; omega)
        have hgwt := only_trans hgS hgt
        clear hr24 hs24 hgt
        by_cases h24 : r24 = 0
        · rw [if_pos h24] at hPx
          subst h24
          subst hPx
          go_wp2
          go_ret3
          exact ⟨_, n, rfl, hlS, by omega, hownt, hSt, hgwt⟩
        · rw [if_neg h24] at hPx
          have n24 : (r24 == 0) = false := by rw [beq_eq_false_iff_ne]; exact h24
          subst hPx
          go_wp2
          go_ret3
          exact ⟨_, n, rfl, hlS, by omega, hownt, hSt, hgwt⟩
      · obtain rfl : d = 2 := by omega
        have hf := hfix.out
        rw [if_neg (by omega), if_neg (by omega)] at hf
        clear hfix
        have y1 := hW6.some_ (k * 3) (by omega)
        have f1 := hW6.frz (k * 3)
        have hownS := own_putI hown6 (k * 3) 50
        have hSS := hS6.keepOnly (row := some g7) (only_put (only_refl _ _) (k * 3) (.int .i64 50)) (fun j e => by injection e with e; omega)
        have hgS := only_put_new hgw6 hg6b (k * 3) (.int .i64 50)
        have hlS : (zs.set (k * 3) 50).length = n * 3 := by simpa using hzl
        clear hown6 hgw6 hS6 hW6
        have hPx := hP.out _ (hf)
        clear hP
        dsimp only at hPx
        obtain ⟨r24, hr24⟩ : ∃ r, nextV 24 m bs s6 = r := ⟨_, rfl⟩
        obtain ⟨s24, hs24⟩ : ∃ x, nextS 24 m s6 = x := ⟨_, rfl⟩
        rw [hr24, hs24] at hPx
        go_wp2_with fail
        refine (next_val _ _ _ _ _ _ _ _ _ hSS hr24 hs24 (by omega) (by omega)).mono ?_
        rintro e wt ⟨rfl, t0, t1, hSt, hgt⟩
        have hownt := own_only hownS hgt (fun k e => by injection e with e; omega)
        have hgwt := only_trans hgS hgt
        clear hr24 hs24 hgt
        by_cases h24 : r24 = 0
        · rw [if_pos h24] at hPx
          subst h24
          subst hPx
          go_wp2
          go_ret3
          exact ⟨_, n, rfl, hlS, by omega, hownt, hSt, hgwt⟩
        · rw [if_neg h24] at hPx
          have n24 : (r24 == 0) = false := by rw [beq_eq_false_iff_ne]; exact h24
          subst hPx
          go_wp2
          go_ret3
          exact ⟨_, n, rfl, hlS, by omega, hownt, hSt, hgwt⟩
    · obtain ⟨q, rfl⟩ : ∃ k, q = k + 1 := ⟨q - 1, by omega⟩
      have hzw := hgw.size
      obtain ⟨a1, ha1⟩ : ∃ r, nextV 5 m bs s = r := ⟨_, rfl⟩
      obtain ⟨s4, hs4⟩ : ∃ x, nextS 5 m s = x := ⟨_, rfl⟩
      obtain ⟨a2, ha2⟩ : ∃ r, nextV 4 m bs s4 = r := ⟨_, rfl⟩
      obtain ⟨s5, hs5⟩ : ∃ x, nextS 4 m s4 = x := ⟨_, rfl⟩
      obtain ⟨a3, ha3⟩ : ∃ r, nextV 2 m bs s5 = r := ⟨_, rfl⟩
      obtain ⟨s6, hs6⟩ : ∃ x, nextS 2 m s5 = x := ⟨_, rfl⟩
      obtain ⟨sp, hsp⟩ : ∃ x, ([pb, pa, 100, 101, 199] : List Int).getD a1.toNat 0 = x := ⟨_, rfl⟩
      have hD : stD pb pa m bs s = ((sp, a2, 2 * a3 - 1), s6) := by
        unfold stD
        simp only [ha1, hs4, ha2, hs5, ha3, hs6, hsp]
      have hb1 := nextV_bd 5 m bs s (by omega)
      have hb3 := nextV_bd 2 m bs s5 (by omega)
      rw [ha1] at hb1
      rw [ha3] at hb3
      obtain ⟨hb10, hb11⟩ := hb1
      obtain ⟨hb30, hb31⟩ := hb3
      have hcell : (#[Value.int .i64 pb, .int .i64 pa, .int .i64 100, .int .i64 101, .int .i64 199] : Array Value)[a1.toNat]? = some (.int .i64 sp) := by
        obtain e | e | e | e | e : a1 = 0 ∨ a1 = 1 ∨ a1 = 2 ∨ a1 = 3 ∨ a1 = 4 := by omega
        all_goals (subst e; subst hsp; rfl)
      have hgw' : g < wr.heap.size := by omega
      have hw2 : IntKind.i64.wrap (2 * a3) = 2 * a3 := by rw [IntKind.wrap_i64]; omega
      have hw3 : IntKind.i64.wrap (2 * a3 - 1) = 2 * a3 - 1 := by rw [IntKind.wrap_i64]; omega
      go_wp2_with fail
      refine wp_region_inv (fun L x wx => stT (Src wx B g m bs) s s4 s5 s6 L ∧ wr.grownBy wx (some g) ∧ (L 15 = false → Held stDst (stG wr.heap.size g pb pa sp a1 a2 a3) 15 L x wx) ∧
        (L 15 = true → (∀ j, j < 15 → L j = true) ∧ ∃ gx, x 9 = .pointer (some ⟨gx, 0, none⟩) ∧ wr.heap.size ≤ gx ∧ Whole wx gx 59 #[.int .i64 sp, .int .i64 a2, .int .i64 (2 * a3 - 1)]))
        [26, 27, 28, 29, 30, 31, 32, 33, 34, 35, 36, 37, 38, 39, 9] [[], [], [0, 1], [], [3], [2, 4], [5], [], [7, 4], [], [9, 8], [10], [11], [6, 8, 12], [], [14, 13, 10, 0, 1, 2, 3, 4, 5, 6, 7, 8, 9, 10, 11, 12, 13, 14]] (by kernel_rfl) (by kernel_rfl) (by kernel_rfl) ?_ ?_ ?_
      · intro x
        exact ⟨.inl ⟨rfl, rfl, rfl, hS⟩, ⟨rfl, rfl, rfl, Nat.le_refl _, fun _ _ _ => rfl⟩, fun _ => Held.none, fun e => by cases e⟩
      · rintro L x wx ⟨hTT, hG, hH, hE⟩
        refine ⟨InvAt.mk rfl (by simp) ?_, InvAt.mk rfl (by simp) ?_, InvAt.mk rfl (by simp) ?_, InvAt.mk rfl (by simp) ?_, InvAt.mk rfl (by simp) ?_, InvAt.mk rfl (by simp) ?_, InvAt.mk rfl (by simp) ?_, InvAt.mk rfl (by simp) ?_, InvAt.mk rfl (by simp) ?_, InvAt.mk rfl (by simp) ?_, InvAt.mk rfl (by simp) ?_, InvAt.mk rfl (by simp) ?_, InvAt.mk rfl (by simp) ?_, InvAt.mk rfl (by simp) ?_, InvAt.mk rfl (by simp) ?_, InvAt.mk rfl (by simp) ?_, trivial⟩
        · intro hL hd K hK
          have h15 : L 15 = false := by cases h : L 15 with | false => rfl | true => have := (hE h).1 0 (by omega); rw [hL] at this; cases this
          have hH := hH h15
          simp only [fillA, fillL]
          go_simp
          exact hK (.int .i64 pb) _ _ ⟨hTT, hG, fun _ => hH.step 0 26 _ rfl (by decide) (fun j y h => h) rfl, fun e => by have e : L 15 = true := e; rw [h15] at e; cases e⟩ rfl
        · intro hL hd K hK
          have h15 : L 15 = false := by cases h : L 15 with | false => rfl | true => have := (hE h).1 1 (by omega); rw [hL] at this; cases this
          have hH := hH h15
          simp only [fillA, fillL]
          go_simp
          exact hK (.int .i64 pa) _ _ ⟨hTT, hG, fun _ => hH.step 1 27 _ rfl (by decide) (fun j y h => h) rfl, fun e => by have e : L 15 = true := e; rw [h15] at e; cases e⟩ rfl
        · intro hL hd K hK
          have h15 : L 15 = false := by cases h : L 15 with | false => rfl | true => have := (hE h).1 2 (by omega); rw [hL] at this; cases this
          have hH := hH h15
          have e0 : x 26 = .int .i64 pb := hH 0 (by omega) (hd 0 (by simp))
          have e1 : x 27 = .int .i64 pa := hH 1 (by omega) (hd 1 (by simp))
          simp only [fillA, fillL]
          simp only [e0, e1]
          simp only [fillA, fillL, e0, e1] at hK
          go_simp
          exact hK (.slice (some ⟨wx.heap.size, 0, none⟩) 5 5) _ _ ⟨hTT.map fun _ h => h.new _, only_new hG _, fun _ => hH.step 2 28 _ rfl (by decide) (fun j y h => stG.keep hgw' (World.grownBy_alloc _ _ _) j y h) ⟨wx.heap.size, rfl, hG.size, Whole.new _ _ _⟩, fun e => by have e : L 15 = true := e; rw [h15] at e; cases e⟩ rfl
        · intro hL hd K hK
          have h15 : L 15 = false := by cases h : L 15 with | false => rfl | true => have := (hE h).1 3 (by omega); rw [hL] at this; cases this
          have hH := hH h15
          simp only [fillA, fillL]
          go_simp
          exact hK (.pointer (some ⟨g, 0, none⟩)) _ _ ⟨hTT, hG, fun _ => hH.step 3 29 _ rfl (by decide) (fun j y h => h) rfl, fun e => by have e : L 15 = true := e; rw [h15] at e; cases e⟩ rfl
        · intro hL hd K hK
          have h15 : L 15 = false := by cases h : L 15 with | false => rfl | true => have := (hE h).1 4 (by omega); rw [hL] at this; cases this
          have hH := hH h15
          have e3 : x 29 = .pointer (some ⟨g, 0, none⟩) := hH 3 (by omega) (hd 3 (by simp))
          simp only [fillA, fillL]
          simp only [e3]
          simp only [fillA, fillL, e3] at hK
          obtain ⟨k4, k8, k10, hS⟩ : L 4 = false ∧ L 8 = false ∧ L 10 = false ∧ Src wx B g m bs s := by
            rcases hTT with ⟨q1, q2, q3, q4⟩ | ⟨q1, q2, q3, q4⟩ | ⟨q1, q2, q3, q4⟩ | ⟨q1, q2, q3, q4⟩
            · exact ⟨q1, q2, q3, q4⟩
            · exfalso; have z1 := hL; have z5 := hd 3 (by simp); simp_all
            · exfalso; have z1 := hL; have z5 := hd 3 (by simp); simp_all
            · exfalso; have z1 := hL; have z5 := hd 3 (by simp); simp_all
          go_simp
          go_at_call 53
          refine (next_val _ _ _ _ _ _ _ _ _ hS ha1 hs4 (by omega) (by omega)).mono ?_
          rintro e wy ⟨rfl, -, -, hSy, hgy⟩
          exact hK (.int .i64 a1) _ _ ⟨.inr (.inl ⟨rfl, k8, k10, hSy⟩), only_trans hG hgy, fun _ => hH.step 4 30 _ rfl (by decide) (fun j y h => stG.keep hgw' hgy j y h) rfl, fun e => by have e : L 15 = true := e; rw [h15] at e; cases e⟩ rfl
        · intro hL hd K hK
          have h15 : L 15 = false := by cases h : L 15 with | false => rfl | true => have := (hE h).1 5 (by omega); rw [hL] at this; cases this
          have hH := hH h15
          obtain ⟨gs, e2, hgs, hW⟩ : ∃ gs, x 28 = .slice (some ⟨gs, 0, none⟩) 5 5 ∧ wr.heap.size ≤ gs ∧ Whole wx gs 2 #[.int .i64 pb, .int .i64 pa, .int .i64 100, .int .i64 101, .int .i64 199] := hH 2 (by omega) (hd 2 (by simp))
          have e4 : x 30 = .int .i64 a1 := hH 4 (by omega) (hd 4 (by simp))
          simp only [fillA, fillL]
          simp only [e2, e4]
          simp only [fillA, fillL, e2, e4] at hK
          go_simp
          exact hK (.pointer (some ⟨gs, a1.toNat, none⟩)) _ _ ⟨hTT, hG, fun _ => hH.step 5 31 _ rfl (by decide) (fun j y h => h) ⟨gs, rfl, hgs, hW⟩, fun e => by have e : L 15 = true := e; rw [h15] at e; cases e⟩ rfl
        · intro hL hd K hK
          have h15 : L 15 = false := by cases h : L 15 with | false => rfl | true => have := (hE h).1 6 (by omega); rw [hL] at this; cases this
          have hH := hH h15
          obtain ⟨gs, e5, hgs, hW⟩ : ∃ gs, x 31 = .pointer (some ⟨gs, a1.toNat, none⟩) ∧ wr.heap.size ≤ gs ∧ Whole wx gs 2 #[.int .i64 pb, .int .i64 pa, .int .i64 100, .int .i64 101, .int .i64 199] := hH 5 (by omega) (hd 5 (by simp))
          have y := hW.cell a1.toNat
          rw [hcell] at y
          simp only [fillA, fillL]
          simp only [e5]
          simp only [fillA, fillL, e5] at hK
          go_simp
          exact hK (.int .i64 sp) _ _ ⟨hTT, hG, fun _ => hH.step 6 32 _ rfl (by decide) (fun j y h => h) rfl, fun e => by have e : L 15 = true := e; rw [h15] at e; cases e⟩ rfl
        · intro hL hd K hK
          have h15 : L 15 = false := by cases h : L 15 with | false => rfl | true => have := (hE h).1 7 (by omega); rw [hL] at this; cases this
          have hH := hH h15
          simp only [fillA, fillL]
          go_simp
          exact hK (.pointer (some ⟨g, 0, none⟩)) _ _ ⟨hTT, hG, fun _ => hH.step 7 33 _ rfl (by decide) (fun j y h => h) rfl, fun e => by have e : L 15 = true := e; rw [h15] at e; cases e⟩ rfl
        · intro hL hd K hK
          have h15 : L 15 = false := by cases h : L 15 with | false => rfl | true => have := (hE h).1 8 (by omega); rw [hL] at this; cases this
          have hH := hH h15
          have e7 : x 33 = .pointer (some ⟨g, 0, none⟩) := hH 7 (by omega) (hd 7 (by simp))
          have e4 : x 30 = .int .i64 a1 := hH 4 (by omega) (hd 4 (by simp))
          simp only [fillA, fillL]
          simp only [e7, e4]
          simp only [fillA, fillL, e7, e4] at hK
          obtain ⟨k4, k8, k10, hS⟩ : L 4 = true ∧ L 8 = false ∧ L 10 = false ∧ Src wx B g m bs s4 := by
            rcases hTT with ⟨q1, q2, q3, q4⟩ | ⟨q1, q2, q3, q4⟩ | ⟨q1, q2, q3, q4⟩ | ⟨q1, q2, q3, q4⟩
            · exfalso; have z1 := hL; have z9 := hd 7 (by simp); have z6 := hd 4 (by simp); simp_all
            · exact ⟨q1, q2, q3, q4⟩
            · exfalso; have z1 := hL; have z9 := hd 7 (by simp); have z6 := hd 4 (by simp); simp_all
            · exfalso; have z1 := hL; have z9 := hd 7 (by simp); have z6 := hd 4 (by simp); simp_all
          go_simp
          go_at_call 53
          refine (next_val _ _ _ _ _ _ _ _ _ hS ha2 hs5 (by omega) (by omega)).mono ?_
          rintro e wy ⟨rfl, -, -, hSy, hgy⟩
          exact hK (.int .i64 a2) _ _ ⟨.inr (.inr (.inl ⟨k4, rfl, k10, hSy⟩)), only_trans hG hgy, fun _ => hH.step 8 34 _ rfl (by decide) (fun j y h => stG.keep hgw' hgy j y h) rfl, fun e => by have e : L 15 = true := e; rw [h15] at e; cases e⟩ rfl
        · intro hL hd K hK
          have h15 : L 15 = false := by cases h : L 15 with | false => rfl | true => have := (hE h).1 9 (by omega); rw [hL] at this; cases this
          have hH := hH h15
          simp only [fillA, fillL]
          go_simp
          exact hK (.pointer (some ⟨g, 0, none⟩)) _ _ ⟨hTT, hG, fun _ => hH.step 9 35 _ rfl (by decide) (fun j y h => h) rfl, fun e => by have e : L 15 = true := e; rw [h15] at e; cases e⟩ rfl
        · intro hL hd K hK
          have h15 : L 15 = false := by cases h : L 15 with | false => rfl | true => have := (hE h).1 10 (by omega); rw [hL] at this; cases this
          have hH := hH h15
          have e9 : x 35 = .pointer (some ⟨g, 0, none⟩) := hH 9 (by omega) (hd 9 (by simp))
          have e8 : x 34 = .int .i64 a2 := hH 8 (by omega) (hd 8 (by simp))
          simp only [fillA, fillL]
          simp only [e9, e8]
          simp only [fillA, fillL, e9, e8] at hK
          obtain ⟨k4, k8, k10, hS⟩ : L 4 = true ∧ L 8 = true ∧ L 10 = false ∧ Src wx B g m bs s5 := by
            rcases hTT with ⟨q1, q2, q3, q4⟩ | ⟨q1, q2, q3, q4⟩ | ⟨q1, q2, q3, q4⟩ | ⟨q1, q2, q3, q4⟩
            · exfalso; have z1 := hL; have z11 := hd 9 (by simp); have z10 := hd 8 (by simp); simp_all
            · exfalso; have z1 := hL; have z11 := hd 9 (by simp); have z10 := hd 8 (by simp); simp_all
            · exact ⟨q1, q2, q3, q4⟩
            · exfalso; have z1 := hL; have z11 := hd 9 (by simp); have z10 := hd 8 (by simp); simp_all
          go_simp
          go_at_call 53
          refine (next_val _ _ _ _ _ _ _ _ _ hS ha3 hs6 (by omega) (by omega)).mono ?_
          rintro e wy ⟨rfl, -, -, hSy, hgy⟩
          exact hK (.int .i64 a3) _ _ ⟨.inr (.inr (.inr ⟨k4, k8, rfl, hSy⟩)), only_trans hG hgy, fun _ => hH.step 10 36 _ rfl (by decide) (fun j y h => stG.keep hgw' hgy j y h) rfl, fun e => by have e : L 15 = true := e; rw [h15] at e; cases e⟩ rfl
        · intro hL hd K hK
          have h15 : L 15 = false := by cases h : L 15 with | false => rfl | true => have := (hE h).1 11 (by omega); rw [hL] at this; cases this
          have hH := hH h15
          have e10 : x 36 = .int .i64 a3 := hH 10 (by omega) (hd 10 (by simp))
          simp only [fillA, fillL]
          simp only [e10]
          simp only [fillA, fillL, e10] at hK
          go_simp
          exact hK (.int .i64 (2 * a3)) _ _ ⟨hTT, hG, fun _ => hH.step 11 37 _ rfl (by decide) (fun j y h => h) rfl, fun e => by have e : L 15 = true := e; rw [h15] at e; cases e⟩ rfl
        · intro hL hd K hK
          have h15 : L 15 = false := by cases h : L 15 with | false => rfl | true => have := (hE h).1 12 (by omega); rw [hL] at this; cases this
          have hH := hH h15
          have e11 : x 37 = .int .i64 (2 * a3) := hH 11 (by omega) (hd 11 (by simp))
          simp only [fillA, fillL]
          simp only [e11]
          simp only [fillA, fillL, e11] at hK
          go_simp
          exact hK (.int .i64 (2 * a3 - 1)) _ _ ⟨hTT, hG, fun _ => hH.step 12 38 _ rfl (by decide) (fun j y h => h) rfl, fun e => by have e : L 15 = true := e; rw [h15] at e; cases e⟩ rfl
        · intro hL hd K hK
          have h15 : L 15 = false := by cases h : L 15 with | false => rfl | true => have := (hE h).1 13 (by omega); rw [hL] at this; cases this
          have hH := hH h15
          have e6 : x 32 = .int .i64 sp := hH 6 (by omega) (hd 6 (by simp))
          have e8 : x 34 = .int .i64 a2 := hH 8 (by omega) (hd 8 (by simp))
          have e12 : x 38 = .int .i64 (2 * a3 - 1) := hH 12 (by omega) (hd 12 (by simp))
          simp only [fillA, fillL]
          simp only [e6, e8, e12]
          simp only [fillA, fillL, e6, e8, e12] at hK
          go_simp
          exact hK (.agg #[.int .i64 sp, .int .i64 a2, .int .i64 (2 * a3 - 1)]) _ _ ⟨hTT, hG, fun _ => hH.step 13 39 _ rfl (by decide) (fun j y h => h) rfl, fun e => by have e : L 15 = true := e; rw [h15] at e; cases e⟩ rfl
        · intro hL hd K hK
          have h15 : L 15 = false := by cases h : L 15 with | false => rfl | true => have := (hE h).1 14 (by omega); rw [hL] at this; cases this
          have hH := hH h15
          simp only [fillA, fillL]
          go_simp
          exact hK (.pointer (some ⟨wx.heap.size, 0, none⟩)) _ _ ⟨hTT.map fun _ h => h.new _, only_new hG _, fun _ => hH.step 14 9 _ rfl (by decide) (fun j y h => stG.keep hgw' (World.grownBy_alloc _ _ _) j y h) ⟨wx.heap.size, rfl, hG.size, Whole.new _ _ _⟩, fun e => by have e : L 15 = true := e; rw [h15] at e; cases e⟩ rfl
        · intro hL hd K hK
          have hH := hH hL
          obtain ⟨gx, e14, hgx, hW⟩ : ∃ gx, x 9 = .pointer (some ⟨gx, 0, none⟩) ∧ wr.heap.size ≤ gx ∧ Whole wx gx 59 #[.int .i64 0, .int .i64 0, .int .i64 0] := hH 14 (by omega) (hd 14 (by simp))
          have e13 : x 39 = .agg #[.int .i64 sp, .int .i64 a2, .int .i64 (2 * a3 - 1)] := hH 13 (by omega) (hd 13 (by simp))
          have y0 := hW.cell 0
          have y1 := hW.cell 1
          have y2 := hW.cell 2
          have f0 := hW.frz 0
          have f1 := hW.frz 1
          have f2 := hW.frz 2
          simp at y0 y1 y2
          simp only [fillA, fillL]
          simp only [e14, e13]
          simp only [fillA, fillL, e14, e13] at hK
          go_simp
          have hg3 := only_put_new (only_put_new (only_put_new hG hgx 0 (.int .i64 sp)) hgx 1 (.int .i64 a2)) hgx 2 (.int .i64 (2 * a3 - 1))
          have hp3 := only_put (only_put (only_put (only_refl wx (some gx)) 0 (.int .i64 sp)) 1 (.int .i64 a2)) 2 (.int .i64 (2 * a3 - 1))
          have hF := ((hW.put 0 (.int .i64 sp)).put 1 (.int .i64 a2)).put 2 (.int .i64 (2 * a3 - 1))
          have hlj : ∀ j, j < 15 → L j = true := by
            intro j hj
            exact hd j (by simp; omega)
          refine hK undef _ _ ⟨stT.map (Z := Src wx B g m bs) hTT fun _ h => h.keepOnly hp3 (fun j e => by injection e with e; omega), hg3, (fun e => by have e : true = false := e; cases e), fun _ => ⟨fun j hj => ?_, gx, e14, hgx, by simpa using hF⟩⟩ rfl
          show upB L 15 j = true
          unfold upB
          rw [if_neg (by omega)]
          exact hlj j hj
      rintro x wx ⟨hTT, hgx, -, hE⟩
      obtain ⟨-, gx, e9, hgx', hX⟩ := hE rfl
      have hSx : Src wx B g m bs s6 := by
        rcases hTT with ⟨q1, -⟩ | ⟨-, q1, -⟩ | ⟨-, -, q1, -⟩ | ⟨-, -, -, q⟩
        · cases q1
        · cases q1
        · cases q1
        · exact q
      clear hTT hE hcell hw2 hw3
      simp only [fillA, fillL, e9]
      go_wp2_with fail
      have hzx := hgx.size
      have hownx := own_only hown hgx (fun k e => by injection e with e; omega)
      have hgwx := only_trans hgw hgx
      obtain ⟨b, hbb⟩ : ∃ b, stB pb pa (n + 1) (xsOf (zs ++ [sp, a2, 2 * a3 - 1])) = b := ⟨_, rfl⟩
      obtain ⟨r6, hr6⟩ : ∃ r, nextV 60 m bs s6 = r := ⟨_, rfl⟩
      obtain ⟨s7, hs7⟩ : ∃ x, nextS 60 m s6 = x := ⟨_, rfl⟩
      have hXx : ∀ wz, wx.grownBy wz (some g) → Whole wz gx 59 #[.int .i64 sp, .int .i64 a2, .int .i64 (2 * a3 - 1)] := fun wz hz => hX.grown hz (fun e => by injection e with e; omega)
      refine wp_region_inv (fun L x wz => Src wz B g m bs (if L 11 = true then (if b = true then s6 else s7) else s6) ∧ wx.grownBy wz (some g) ∧ suT wx.heap.size n zs sp a2 (2 * a3 - 1) L x wz ∧ Held suDst (suG g pb pa sp a2 (2 * a3 - 1) r6 (.slice (some ⟨g7, 0, none⟩) n c7) b) 14 L x wz)
        [40, 41, 42, 43, 44, 45, 46, 47, 48, 49, 50, 51, 52, 53] [[], [], [], [], [2, 3], [], [5], [4, 6, 4], [0, 1, 7, 7], [8, 8], [9], [10, 9, 9], [11, 9], [9, 12]] (by kernel_rfl) (by kernel_rfl) (by kernel_rfl) ?_ ?_ ?_
      · intro x
        exact ⟨hSx, ⟨rfl, rfl, rfl, Nat.le_refl _, fun _ _ _ => rfl⟩, ⟨fun e => (by cases e), fun e => (by cases e), fun e => (by cases e), fun e => (by cases e), fun e => (by cases e)⟩, Held.none⟩
      · rintro L x wz ⟨hZ, hG, hT, hH⟩
        have hGz := hG.size
        obtain ⟨hT2, hT4, hT6, hT7, hTc⟩ := id hT
        refine ⟨InvAt.mk rfl (by simp) ?_, InvAt.mk rfl (by simp) ?_, InvAt.mk rfl (by simp) ?_, InvAt.mk rfl (by simp) ?_, InvAt.mk rfl (by simp) ?_, InvAt.mk rfl (by simp) ?_, InvAt.mk rfl (by simp) ?_, InvAt.mk rfl (by simp) ?_, InvAt.mk rfl (by simp) ?_, InvAt.mk rfl (by simp) ?_, InvAt.mk rfl (by simp) ?_, InvAt.mk rfl (by simp) ?_, InvAt.mk rfl (by simp) ?_, InvAt.mk rfl (by simp) ?_, trivial⟩
        · intro hL hd K hK
          simp only [fillA, fillL]
          go_simp
          exact hK (.int .i64 pb) _ _ ⟨hZ, hG, hT, hH.step 0 40 _ rfl (by decide) (fun j y h => h) rfl⟩ rfl
        · intro hL hd K hK
          simp only [fillA, fillL]
          go_simp
          exact hK (.int .i64 pa) _ _ ⟨hZ, hG, hT, hH.step 1 41 _ rfl (by decide) (fun j y h => h) rfl⟩ rfl
        · intro hL hd K hK
          simp only [fillA, fillL]
          go_simp
          refine hK (.slice (some ⟨wz.heap.size, 0, none⟩) 0 0) _ _ ⟨hZ.new _, only_new hG _, ⟨fun _ _ => own_empty (Whole.new _ _ _) hGz, fun q1 q2 => (hT4 q1 q2).alloc _, fun q1 q2 => ?_, fun q1 q2 => (hT7 q1 q2).alloc _, hTc⟩, hH.step 2 42 _ rfl (by decide) (fun j y h => h) trivial⟩ rfl
          obtain ⟨gn, q3, q4, q5, -⟩ := hT6 q1 q2
          refine ⟨gn, q3, q4, q5.alloc _, fun _ _ e => ?_⟩
          have q6 := q5.lt
          have e : (some wz.heap.size : Option Nat) = some gn := e
          injection e with e
          omega
        · intro hL hd K hK
          simp only [fillA, fillL]
          go_simp
          exact hK (.slice (some ⟨g7, 0, none⟩) n c7) _ _ ⟨hZ, hG, hT, hH.step 3 43 _ rfl (by decide) (fun j y h => h) rfl⟩ rfl
        · intro hL hd K hK
          have e3 : x 43 = .slice (some ⟨g7, 0, none⟩) n c7 := hH 3 (by omega) (hd 3 (by simp))
          have o2 := hT2 (hd 2 (by simp)) hL
          have o7 := own_only hownx hG (fun k e => by injection e with e; omega)
          refine step_append_own rfl (.tmp 42) (.tmp 43) 46 rfl wx.heap.size 59 i0 _ 3 24 Try.underlying46 hi.out hz0'.out hz1'.out hz2'.out rfl (by decide) _ _ _ rfl o2 ⟨g7, 0, none⟩ n c7 (zs.map (Value.int .i64)) e3 (by simpa using hzl) (o7.cells rfl) (by simp [Value.oneCell']) (by simp only [maxLen]; omega) (by omega) hGz ?_
          intro v' wy o4 hgr
          have hlt := fun k hk => (o2.lt k hk).1
          refine hK v' _ _ ⟨hZ.keepOnly hgr (fun k hk => by have := hlt k hk; omega), only_own hG hgr hlt (Nat.le_refl _), ⟨fun _ q => (by have q : true = false := q; cases q), fun _ _ => (by simpa [upV] using o4), fun q1 q2 => ?_, fun q1 _ => (by have q3 := hTc q1; rw [hL] at q3; cases q3), fun _ => rfl⟩, hH.step 4 44 _ rfl (by decide) (fun j y h => h) trivial⟩ rfl
          obtain ⟨gn, q3, q4, q5, q6⟩ := hT6 q1 q2
          have q7 := q6 (hd 2 (by simp)) hL
          exact ⟨gn, q3, q4, q5.grown hgr (fun e => q7 e), fun _ q => (by have q : true = false := q; cases q)⟩
        · intro hL hd K hK
          simp only [fillA, fillL]
          simp only [fillA, fillL] at hK
          have y0 := (hXx wz hG).cell 0
          have y1 := (hXx wz hG).cell 1
          have y2 := (hXx wz hG).cell 2
          simp at y0 y1 y2
          go_simp
          exact hK (.agg #[.int .i64 sp, .int .i64 a2, .int .i64 (2 * a3 - 1)]) _ _ ⟨hZ, hG, hT, hH.step 5 45 _ rfl (by decide) (fun j y h => h) rfl⟩ rfl
        · intro hL hd K hK
          have e5 : x 45 = .agg #[.int .i64 sp, .int .i64 a2, .int .i64 (2 * a3 - 1)] := hH 5 (by omega) (hd 5 (by simp))
          simp only [fillA, fillL]
          simp only [e5]
          simp only [fillA, fillL, e5] at hK
          go_simp
          refine hK (.slice (some ⟨wz.heap.size, 0, none⟩) 1 1) _ _ ⟨hZ.new _, only_new hG _, ⟨fun q1 q2 => (hT2 q1 q2).alloc _, fun q1 q2 => (hT4 q1 q2).alloc _, fun _ _ => ⟨wz.heap.size, rfl, hGz, Whole.new _ _ _, fun q1 q2 e => ?_⟩, fun q1 q2 => (hT7 q1 q2).alloc _, hTc⟩, hH.step 6 46 _ rfl (by decide) (fun j y h => h) trivial⟩ rfl
          have q3 := ((hT2 q1 q2).lt _ e).2
          omega
        · intro hL hd K hK
          have k4 := hd 4 (by simp)
          have o4 := hT4 k4 hL
          obtain ⟨gn, q3, q4, q5, -⟩ := hT6 (hd 6 (by simp)) hL
          refine step_append_own rfl (.tmp 44) (.tmp 46) 46 rfl wx.heap.size 59 i0 _ 3 24 Try.underlying46 hi.out hz0'.out hz1'.out hz2'.out rfl (by decide) _ _ _ rfl o4 ⟨gn, 0, none⟩ 1 1 [.int .i64 sp, .int .i64 a2, .int .i64 (2 * a3 - 1)] q3 rfl (news_whole q5) (by simp [Value.oneCell']) (by simp only [maxLen]; omega) (by omega) hGz ?_
          intro v' wy o8 hgr
          have hlt := fun k hk => (o4.lt k hk).1
          refine hK v' _ _ ⟨hZ.keepOnly hgr (fun k hk => by have := hlt k hk; omega), only_own hG hgr hlt (Nat.le_refl _), ⟨fun _ q => (by have q : L 4 = false := q; rw [k4] at q; cases q), fun _ q => (by have q : true = false := q; cases q), fun _ q => (by have q : true = false := q; cases q), fun _ _ => (by simpa [upV] using o8), fun _ => k4⟩, hH.step 7 47 _ rfl (by decide) (fun j y h => h) trivial⟩ rfl
        · intro hL hd K hK
          have k7 := hd 7 (by simp)
          have k4 := hTc k7
          have o8 := hT7 k7 hL
          have e0 : x 40 = .int .i64 pb := hH 0 (by omega) (hd 0 (by simp))
          have e1 : x 41 = .int .i64 pa := hH 1 (by omega) (hd 1 (by simp))
          obtain ⟨A8, c8, e7, hnc8, hcm8⟩ := own_form o8
          have hI : Ints wz wz.heap.size A8 ((n + 1) * 3) (xsOf (zs ++ [sp, a2, 2 * a3 - 1])) := Ints.of_own (e7 ▸ o8) (Nat.le_refl _) (by simp; omega) (cells_of o8).2
          simp only [fillA, fillL]
          simp only [e0, e1, e7]
          simp only [fillA, fillL, e0, e1, e7] at hK
          go_simp
          go_at_call 78
          refine (l18Valid_any pb pa A8 (n + 1) c8 _ _ wz hI (Nat.le_refl _) (by omega)).mono ?_
          rintro e wy ⟨rfl, hb8⟩
          rw [hbb]
          refine hK (.bool b) _ _ ⟨hZ.keepOnly (row := none) (only_below hb8 none) (by simp), only_trans hG (only_below hb8 (some g)), ⟨fun _ q => (by have q : L 4 = false := q; rw [k4] at q; cases q), fun _ q => (by have q : L 7 = false := q; rw [k7] at q; cases q), fun _ q => (by have q : L 7 = false := q; rw [k7] at q; cases q), fun _ q => (by have q : true = false := q; cases q), fun _ => k4⟩, hH.step 8 48 _ rfl (by decide) (fun j y h => h) rfl⟩ rfl
        · intro hL hd K hK
          have e8 : x 48 = .bool b := hH 8 (by omega) (hd 8 (by simp))
          simp only [fillA, fillL]
          simp only [e8]
          simp only [fillA, fillL, e8] at hK
          go_simp
          exact hK (.bool b) _ _ ⟨hZ, hG, hT, hH.step 9 49 _ rfl (by decide) (fun j y h => h) rfl⟩ rfl
        · intro hL hd K hK
          have e9 : x 49 = .bool b := hH 9 (by omega) (hd 9 (by simp))
          simp only [fillA, fillL]
          simp only [e9]
          simp only [fillA, fillL, e9] at hK
          cases b with
          | true =>
            go_simp
            exact hK undef _ _ ⟨hZ, hG, hT, hH.step 10 50 _ rfl (by decide) (fun j y h => h) (fun q => by cases q)⟩ rfl
          | false =>
            go_simp
            exact hK (.pointer (some ⟨g, 0, none⟩)) _ _ ⟨hZ, hG, hT, hH.step 10 50 _ rfl (by decide) (fun j y h => h) (fun _ => rfl)⟩ rfl
        · intro hL hd K hK
          have e9 : x 49 = .bool b := hH 9 (by omega) (hd 9 (by simp))
          have e10 : b = false → x 50 = .pointer (some ⟨g, 0, none⟩) := hH 10 (by omega) (hd 10 (by simp))
          have hZ0 : Src wz B g m bs s6 := by have := hZ; rw [hL] at this; exact this
          cases b with
          | true =>
            simp only [fillA, fillL]
            simp only [e9]
            simp only [fillA, fillL, e9] at hK
            go_simp
            exact hK undef _ _ ⟨hZ0, hG, hT, hH.step 11 51 _ rfl (by decide) (fun j y h => h) (fun q => by cases q)⟩ rfl
          | false =>
            have e10 := e10 rfl
            simp only [fillA, fillL]
            simp only [e9, e10]
            simp only [fillA, fillL, e9, e10] at hK
            go_simp
            go_at_call 53
            refine (next_val _ _ _ _ _ _ _ _ _ hZ0 hr6 hs7 (by omega) (by omega)).mono ?_
            rintro e wy ⟨rfl, -, -, hSy, hgy⟩
            refine hK (.int .i64 r6) _ _ ⟨hSy, only_trans hG hgy, ⟨fun q1 q2 => own_only (hT2 q1 q2) hgy (fun k e => by injection e with e; omega), fun q1 q2 => own_only (hT4 q1 q2) hgy (fun k e => by injection e with e; omega), fun q1 q2 => ?_, fun q1 q2 => own_only (hT7 q1 q2) hgy (fun k e => by injection e with e; omega), hTc⟩, hH.step 11 51 _ rfl (by decide) (fun j y h => h) (fun _ => rfl)⟩ rfl
            obtain ⟨gn, q3, q4, q5, q6⟩ := hT6 q1 q2
            exact ⟨gn, q3, q4, q5.grown hgy (fun e => by injection e with e; omega), q6⟩
        · intro hL hd K hK
          have e9 : x 49 = .bool b := hH 9 (by omega) (hd 9 (by simp))
          have e11 : b = false → x 51 = .int .i64 r6 := hH 11 (by omega) (hd 11 (by simp))
          cases b with
          | true =>
            simp only [fillA, fillL]
            simp only [e9]
            simp only [fillA, fillL, e9] at hK
            go_simp
            exact hK undef _ _ ⟨hZ, hG, hT, hH.step 12 52 _ rfl (by decide) (fun j y h => h) (fun q => by cases q)⟩ rfl
          | false =>
            have e11 := e11 rfl
            simp only [fillA, fillL]
            simp only [e9, e11]
            simp only [fillA, fillL, e9, e11] at hK
            go_simp
            exact hK (.bool (r6 == 0)) _ _ ⟨hZ, hG, hT, hH.step 12 52 _ rfl (by decide) (fun j y h => h) (fun _ => rfl)⟩ rfl
        · intro hL hd K hK
          have e9 : x 49 = .bool b := hH 9 (by omega) (hd 9 (by simp))
          have e12 : b = false → x 52 = .bool (r6 == 0) := hH 12 (by omega) (hd 12 (by simp))
          cases b with
          | true =>
            simp only [fillA, fillL]
            simp only [e9]
            simp only [fillA, fillL, e9] at hK
            go_simp
            exact hK (.bool true) _ _ ⟨hZ, hG, hT, hH.step 13 53 _ rfl (by decide) (fun j y h => h) rfl⟩ rfl
          | false =>
            have e12 := e12 rfl
            simp only [fillA, fillL]
            simp only [e9, e12]
            simp only [fillA, fillL, e9, e12] at hK
            go_simp
            exact hK (.bool (r6 == 0)) _ _ ⟨hZ, hG, hT, hH.step 13 53 _ rfl (by decide) (fun j y h => h) (by simp [suG])⟩ rfl
      rintro x wz ⟨hZ, hG, -, hH⟩
      have e13 : x 53 = .bool (b || (r6 == 0)) := hH 13 (by omega) rfl
      obtain ⟨sE, hsE⟩ : ∃ sE, (if b = true then s6 else s7) = sE := ⟨_, rfl⟩
      have hSz : Src wz B g m bs sE := by
        rw [← hsE]
        exact hZ
      have hXz := hXx wz hG
      have hownz := own_only hown (only_trans hgx hG) (fun k e => by injection e with e; omega)
      have hgwz := only_trans hgwx hG
      have hzz := hgwz.size
      have hl3 : zs.length / 3 = n := by omega
      have hT2 : (b || (r6 == 0)) = true → Hid (drawS pb pa m bs q (zs ++ [sp, a2, 2 * a3 - 1]) sE = T) := by
        intro hb
        have h1 := hTz.out
        simp only [drawS, hD, hl3, hbb, hr6, hs7] at h1
        cases b with
        | true =>
          rw [if_pos rfl] at h1
          rw [if_pos rfl] at hsE
          subst hsE
          exact Lib.hid h1
        | false =>
          rw [if_neg (by simp)] at h1
          rw [if_neg (by simp)] at hsE
          subst hsE
          rw [Bool.false_or, beq_iff_eq] at hb
          rw [if_pos hb] at h1
          exact Lib.hid h1
      have hT3 : (b || (r6 == 0)) = false → Hid (drawS pb pa m bs q zs sE = T) := by
        intro hb
        have h1 := hTz.out
        simp only [drawS, hD, hl3, hbb, hr6, hs7] at h1
        cases b with
        | true => simp at hb
        | false =>
          rw [if_neg (by simp)] at h1
          rw [if_neg (by simp)] at hsE
          subst hsE
          rw [Bool.false_or, beq_eq_false_iff_ne] at hb
          rw [if_neg hb] at h1
          exact Lib.hid h1
      clear hZ hH hTz hXx hownx hgwx hG hsE hbb hr6 hs7 hX hSx hzx
      generalize (b || (r6 == 0)) = t at e13 hT2 hT3
      simp only [fillA, fillL, e13]
      clear hown hgw hgx hD
      cases t with
      | true =>
        have hT4 := hT2 rfl
        clear hT2 hT3
        have y0 := hXz.cell 0
        have y1 := hXz.cell 1
        have y2 := hXz.cell 2
        simp at y0 y1 y2
        have hnew := Whole.new wz 59 #[.int .i64 sp, .int .i64 a2, .int .i64 (2 * a3 - 1)]
        go_wp2_with (at_builtin; refine wpList_append_own_at _ rfl _ _ 46 rfl w.heap.size 59 i0 _ 3 24 Try.underlying46 hi.out hz0'.out hz1'.out hz2'.out rfl (by decide) _ _ _ rfl (hownz.alloc _) ⟨wz.heap.size, 0, none⟩ 1 1 [.int .i64 sp, .int .i64 a2, .int .i64 (2 * a3 - 1)] rfl rfl ?c1 ?c2 ?c3 ?c4 ?c5 ?_)
        case c1 =>
          intro j u hu
          rw [add_zero_off, hnew.cell]
          simpa using hu
        case c2 => simp [Value.oneCell']
        case c3 => simp only [maxLen]; omega
        case c4 => omega
        case c5 => simp; omega
        intro v' w8 hown' hgrow _ hat
        have hgw8 : w.grownBy w8 (some g) := only_own (only_new hgwz _) hgrow (fun k hk => (hownz.lt k hk).1) (Nat.le_refl _)
        have hS8 : Src w8 B g m bs sE := (hSz.new _).keepOnly hgrow (fun k hk => by have := (hownz.lt k hk).1; omega)
        have hown8 : w8.ownsRow w.heap.size 59 3 v' (n + 1) ((zs ++ [sp, a2, 2 * a3 - 1]).map (Value.int .i64)) := by simpa using hown'
        clear hown' hgrow hat hownz hgwz hSz hXz y0 y1 y2 hnew
        obtain ⟨g8, c8, cur8, rfl, -⟩ := own_open hown8 (by omega)
        go_wp2
        go_roundw
        case rel => exact ⟨n + 1, q, zs ++ [sp, a2, 2 * a3 - 1], sE, by go_num, ⟨_, _, rfl⟩, by omega, by simp; omega, hT4, hown8, hS8, hgw8⟩
        case measure => simp [intOf]; try omega
      | false =>
        have hT4 := hT3 rfl
        clear hT2 hT3
        go_wp2
        go_roundw
        case rel => exact ⟨n, q, zs, sE, by go_num, ⟨_, _, rfl⟩, by omega, hzl, hT4, hownz, hSz, hgwz⟩
        case measure => simp [intOf]; try omega
end Go.Proofs.Ytcilgohjeobamaa
