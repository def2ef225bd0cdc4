/- The draw of demands, as a function of the code. -/
import Derived.Test.YtcilgohjeobamaaDF
import Derived.Test.YtcilgohjeobamaaDem3
import Derived.Deep.Onto
import Derived.OneCell
set_option linter.unusedSimpArgs false
set_option linter.unusedVariables false
namespace Go.Proofs.Ytcilgohjeobamaa
open Go.RowKit

/-- The facts of a demand, drawn. -/
def drawFs (m : Nat) (bs : Nat → Int) : Nat → Int → List Int → Nat × Int → List Int × (Nat × Int)
  | 0, _, zs, s => (zs, s)
  | q + 1, f, zs, s => if nextV 3 m bs s = 0 then drawFs m bs q (f + 1) (zs ++ [f * (2 * nextV 2 m bs (nextS 3 m s) - 1)]) (nextS 2 m (nextS 3 m s)) else drawFs m bs q (f + 1) zs (nextS 3 m s)
def drawDs (m : Nat) (bs : Nat → Int) : Nat → List (List Int × Int) → Nat × Int → List (List Int × Int) × (Nat × Int)
  | 0, D, s => (D, s)
  | q + 1, D, s => drawDs m bs q (D ++ [((drawFs m bs 4 1 [] (nextS 4 m s)).1, nextV 4 m bs s)]) (drawFs m bs 4 1 [] (nextS 4 m s)).2
def badD (r : Nat) : List Int × Int := [([], 4), ([0], 0), ([1, -1], 0), ([9], 0)].getD r ([], 0)
def fixDs (m : Nat) (bs : Nat → Int) (n : Nat) (D : List (List Int × Int)) (s : Nat × Int) : List (List Int × Int) × (Nat × Int) :=
  if n = 0 then (D, s) else
  let s1 := nextS 16 m s
  if nextV 16 m bs s ≠ 0 then (D, s1) else
  let s2 := nextS n m s1
  (D.set (nextV n m bs s1).toNat (badD (nextV 4 m bs s2).toNat), nextS 4 m s2)
def drawDm (m : Nat) (bs : Nat → Int) (st : Nat × Int) : List (List Int × Int) × (Nat × Int) :=
  let p := drawDs m bs (nextV 5 m bs st).toNat [] (nextS 5 m st)
  fixDs m bs p.1.length p.1 p.2

/-- The cells of demands. -/
def flatD (E : List (Value × List Int × Int)) : List Value := E.flatMap fun e => [e.1, .int .i64 e.2.2]
theorem flatD_len (E : List (Value × List Int × Int)) : (flatD E).length = E.length * 2 := by
  induction E with
  | nil => rfl
  | cons e E ih => unfold flatD at ih ⊢; simp only [List.flatMap_cons, List.length_append, ih, List.length_cons, List.length_nil]; omega
theorem flatD_get : ∀ (E : List (Value × List Int × Int)) (i : Nat), (flatD E)[i * 2]? = (E[i]?).map (·.1) ∧ (flatD E)[i * 2 + 1]? = (E[i]?).map (fun e => .int .i64 e.2.2)
  | [], i => by simp [flatD]
  | e :: E, 0 => by simp [flatD]
  | e :: E, i + 1 => by
    have := flatD_get E i
    have h1 : flatD (e :: E) = e.1 :: .int .i64 e.2.2 :: flatD E := rfl
    rw [h1, show (i + 1) * 2 = i * 2 + 1 + 1 by omega]
    simpa only [List.getElem?_cons_succ] using this
theorem flatD_append (E : List (Value × List Int × Int)) (e : Value × List Int × Int) : flatD (E ++ [e]) = flatD E ++ [e.1, .int .i64 e.2.2] := by
  unfold flatD; rw [List.flatMap_append]; rfl
theorem flatD_set : ∀ (E : List (Value × List Int × Int)) (i : Nat) (e : Value × List Int × Int), ((flatD E).set (i * 2) e.1).set (i * 2 + 1) (.int .i64 e.2.2) = flatD (E.set i e)
  | [], i, e => by simp [flatD]
  | a :: E, 0, e => by simp [flatD]
  | a :: E, i + 1, e => by
    have := flatD_set E i e
    have h1 : flatD (a :: E) = a.1 :: .int .i64 a.2.2 :: flatD E := rfl
    rw [h1, show (i + 1) * 2 = i * 2 + 1 + 1 by omega, List.set_cons_succ, List.set_cons_succ, List.set_cons_succ, List.set_cons_succ, this, List.set_cons_succ]
    rfl
/-- Rows of two types lie in two blocks. -/
theorem own_types {w : World} {b1 b2 s1 s2 n1 n2 : Nat} {e1 e2 : TypeId} {v1 v2 : Value} {x1 x2 : List Value} (h1 : w.ownsRow b1 e1 s1 v1 n1 x1) (h2 : w.ownsRow b2 e2 s2 v2 n2 x2) (he : e1 ≠ e2) : v1.ownBlock = none ∨ v1.ownBlock ≠ v2.ownBlock := by
  rcases h1.2 with ⟨rfl, _⟩ | ⟨g1, c1, cur1, rfl, _, hW1, _⟩
  · exact .inl rfl
  · right
    rcases h2.2 with ⟨rfl, _⟩ | ⟨g2, c2, cur2, rfl, _, hW2, _⟩
    · intro e; cases e
    · intro e
      injection e with e
      subst e
      have := hW1.symm.trans hW2
      injection this with this
      injection this with _ h _
      exact he h
theorem own_whole {w : World} {b1 s1 n1 g : Nat} {e1 e2 : TypeId} {v1 : Value} {x1 : List Value} {cs : Array Value} (h1 : w.ownsRow b1 e1 s1 v1 n1 x1) (h2 : Whole w g e2 cs) (he : e1 ≠ e2) : v1.ownBlock ≠ some g := by
  rcases h1.2 with ⟨rfl, _⟩ | ⟨g1, c1, cur1, rfl, _, hW1, _⟩
  · intro e; cases e
  · intro e
    injection e with e
    subst e
    have := hW1.symm.trans h2
    injection this with this
    injection this with _ h _
    exact he h
def RowsD (w : World) (base : Nat) (E : List (Value × List Int × Int)) : Prop := ∀ e ∈ E, w.ownsRow base 2 1 e.1 e.2.1.length (e.2.1.map (Value.int .i64))
theorem RowsD.only {w w' : World} {base : Nat} {E : List (Value × List Int × Int)} {row : Option Nat} (h : RowsD w base E) (hg : w.grownBy w' row) (hr : ∀ k, row = some k → k < base) : RowsD w' base E := fun e he => own_only (h e he) hg hr
theorem RowsD.append {w w' : World} {base : Nat} {E : List (Value × List Int × Int)} {v : Value} {n : Nat} {xs : List Value} {b : Nat} (h : RowsD w base E) (ho : w.ownsRow b 33 2 v n xs) (hg : w.grownBy w' v.ownBlock) : RowsD w' base E := fun e he => (h e he).kept hg (own_types (h e he) ho (by decide))
def DrewD (w w' : World) (B g m : Nat) (bs : Nat → Int) (P : List (List Int × Int) × (Nat × Int)) (e : Ending) : Prop :=
  ∃ (v : Value) (E : List (Value × List Int × Int)), e = .returned v ∧ E.map (·.2) = P.1 ∧ E.length ≤ 4 ∧ w'.ownsRow w.heap.size 33 2 v E.length (flatD E) ∧ RowsD w' w.heap.size E ∧ Src w' B g m bs P.2 ∧ w.grownBy w' (some g)
def dgG (g gd : Nat) (fv : Value) (oc f a v : Int) (i : Nat) (y : Value) (_ : World) : Prop :=
  match i with
  | 0 => y = .pointer (some ⟨gd, 1, none⟩)
  | 1 => y = .int .i64 oc
  | 2 => y = .pointer (some ⟨gd, 0, none⟩)
  | 3 => y = fv
  | 4 => y = .int .i64 f
  | 5 => y = .pointer (some ⟨g, 0, none⟩)
  | 6 => y = .int .i64 a
  | 7 => y = .int .i64 (2 * a)
  | 8 => y = .int .i64 (2 * a - 1)
  | 9 => y = .int .i64 v
  | _ => True
def dgT (base gd n : Nat) (fv : Value) (zs : List Int) (oc v : Int) (L : Nat → Bool) (x : Nat → Value) (w : World) : Prop :=
  (L 13 = false → Whole w gd 33 #[fv, .int .i64 oc]) ∧
  (L 11 = false → w.ownsRow base 2 1 fv n (zs.map (Value.int .i64))) ∧
  (L 10 = true → L 11 = false → ∃ gn, x 36 = .slice (some ⟨gn, 0, none⟩) 1 1 ∧ base ≤ gn ∧ Whole w gn 2 #[.int .i64 v] ∧ fv.ownBlock ≠ some gn) ∧
  (L 11 = true → L 13 = false → w.ownsRow base 2 1 (x 37) (n + 1) ((zs ++ [v]).map (Value.int .i64))) ∧
  (L 12 = true → x 38 = .agg #[x 37, .int .i64 oc]) ∧
  (L 13 = true → ∃ fv', Whole w gd 33 #[fv', .int .i64 oc] ∧ w.ownsRow base 2 1 fv' (n + 1) ((zs ++ [v]).map (Value.int .i64))) ∧
  (L 13 = true → L 1 = true ∧ L 3 = true ∧ L 11 = true ∧ L 12 = true) ∧ (L 12 = true → L 11 = true)
def dgDst (j : Nat) : Nat := [26, 27, 28, 29, 30, 31, 32, 33, 34, 35, 36, 37, 38].getD j 0

set_option maxRecDepth 100000 in
set_option maxHeartbeats 8000000 in
theorem l18DrawDemands_any (w : World) (B g m : Nat) (bs : Nat → Int) (st : Nat × Int) (h : Src w B g m bs st) :
    Calls Try.prog 54 #[.pointer (some ⟨g, 0, none⟩)] w fun e w' => DrewD w w' B g m bs (drawDm m bs st) e := by
  have hgl := h.lt
  obtain ⟨i0, hi, hz0', hz1', hz2'⟩ := info_parts infoDemand
  obtain ⟨j0, hj, hy0', hy1', hy2'⟩ := info_parts infoInt64
  replace hi := Lib.hid hi
  replace hz0' := Lib.hid hz0'
  replace hz1' := Lib.hid hz1'
  replace hz2' := Lib.hid hz2'
  replace hj := Lib.hid hj
  replace hy0' := Lib.hid hy0'
  replace hy1' := Lib.hid hy1'
  replace hy2' := Lib.hid hy2'
  obtain ⟨r0, hr0⟩ : ∃ r, nextV 5 m bs st = r := ⟨_, rfl⟩
  obtain ⟨s0, hs0⟩ : ∃ s, nextS 5 m st = s := ⟨_, rfl⟩
  obtain ⟨T, hT⟩ : ∃ T, drawDs m bs r0.toNat [] s0 = T := ⟨_, rfl⟩
  have hP : drawDm m bs st = fixDs m bs T.1.length T.1 T.2 := by
    unfold drawDm
    simp only [hr0, hs0, hT]
  replace hP := Lib.hid hP
  replace hT := Lib.hid hT
  generalize drawDm m bs st = P at hP ⊢
  go_enter Try.func54, Try.ntmps54
  go_wp2_with fail
  refine (next_val _ _ _ _ _ _ _ _ _ (h.new (.cells #[] 33)) hr0 hs0 (by omega) (by omega)).mono ?_
  rintro e w1 ⟨rfl, r00, r01, hS1, hg1⟩
  have hgw0 := only_trans (only_new (only_refl w (some g)) (.cells #[] 33)) hg1
  have hown0 : w1.ownsRow w.heap.size 33 2 (.slice (some ⟨w.heap.size, 0, none⟩) 0 0) 0 (flatD []) := own_empty ((Whole.new w 33 #[]).grown hg1 (fun e => by injection e with e; omega)) (Nat.le_refl _)
  clear hg1 hr0 hs0 h
  obtain ⟨k0, rfl⟩ : ∃ k : Nat, r0 = k := ⟨r0.toNat, by omega⟩
  simp only [Int.toNat_natCast] at hT
  go_wp2_with fail
  go_loopw [3, 4] (fun v3 v4 wr => ∃ (q : Nat) (E : List (Value × List Int × Int)) (s : Nat × Int), v4 = .int .i64 q ∧ E.length + q ≤ 4 ∧ Hid (drawDs m bs q (E.map (·.2)) s = T) ∧
    wr.ownsRow w.heap.size 33 2 v3 E.length (flatD E) ∧ RowsD wr w.heap.size E ∧ Src wr B g m bs s ∧ w.grownBy wr (some g)) (fun v3 v4 _ => (intOf v4).toNat)
  case atStart => exact ⟨k0, [], s0, rfl, by simp; omega, hT, hown0, fun e he => (by cases he), hS1, hgw0⟩
  case round =>
    rename World => wo
    obtain ⟨q, E, s, rfl, hnq, hTz, hown, hrows, hS, hgw⟩ := hrel
    clear hown0 hS1 hgw0 hT
    have hzw := hgw.size
    rcases Nat.eq_zero_or_pos q with hq | hq
    · subst hq
      have hP2 : T = (E.map (·.2), s) := by
        have h1 := hTz.out
        simp only [drawDs] at h1
        exact h1.symm
      subst hP2
      dsimp only at hP
      rw [List.length_map] at hP
      clear hTz
      rcases Nat.eq_zero_or_pos E.length with hn0 | hn0
      · have hPx : P = (E.map (·.2), s) := by rw [hP.out]; unfold fixDs; rw [if_pos hn0]
        subst hPx
        have hE0 : E = [] := List.length_eq_zero_iff.1 hn0
        subst hE0
        obtain ⟨A3, c3, rfl, -, -⟩ := own_form hown
        simp only [List.length_nil] at *
        clear hP
        go_wp2
        go_ret
        exact ⟨_, [], rfl, rfl, by simp, hown, hrows, hS, hgw⟩
      obtain ⟨n, hn⟩ : ∃ n, E.length = n := ⟨_, rfl⟩
      have hn4 : n ≤ 4 := by omega
      obtain ⟨g7, cap7, cur7, rfl, hg7b, hW7, hnc7, hcm7, hcs7, -⟩ := own_open hown hn0
      rw [hn] at hown hP hnc7
      have hn1 : decide (0 < (n : Int)) = true := by simp; omega
      have hn2 : ¬ n = 0 := by omega
      obtain ⟨r16, hr16⟩ : ∃ r, nextV 16 m bs s = r := ⟨_, rfl⟩
      obtain ⟨s16, hs16⟩ : ∃ x, nextS 16 m s = x := ⟨_, rfl⟩
      have hgl7 := hW7.lt
      rw [hn]
      go_wp2_with fail
      refine (next_val _ _ _ _ _ _ _ _ _ hS hr16 hs16 (by omega) (by omega)).mono ?_
      rintro e w4 ⟨rfl, p0, p1, hS4, hg4⟩
      have hown4 := own_only hown hg4 (fun k e => by injection e with e; omega)
      have hrows4 := hrows.only hg4 (fun k e => by injection e with e; omega)
      have hW4 := hW7.grown hg4 (fun e => by injection e with e; omega)
      have hgw4 := only_trans hgw hg4
      have hz4 := hgw4.size
      clear hown hgw hS hg4 hrows hW7
      by_cases h16 : ¬ r16 = 0
      · have n16 : (r16 == 0) = false := by rw [beq_eq_false_iff_ne]; exact h16
        have hPx : P = (E.map (·.2), s16) := by
          rw [hP.out]
          unfold fixDs
          simp only [hr16, hs16]
          rw [if_neg hn2, if_pos h16]
        subst hPx
        clear hP hr16 hs16 hn1
        subst hn
        go_wp2
        go_ret
        exact ⟨_, E, rfl, rfl, by omega, hown4, hrows4, hS4, hgw4⟩
      have h16 : r16 = 0 := Classical.not_not.1 h16
      subst h16
      obtain ⟨kk, hkk⟩ : ∃ r, nextV n m bs s16 = r := ⟨_, rfl⟩
      obtain ⟨s5, hs5⟩ : ∃ x, nextS n m s16 = x := ⟨_, rfl⟩
      obtain ⟨d, hd⟩ : ∃ r, nextV 4 m bs s5 = r := ⟨_, rfl⟩
      obtain ⟨s6, hs6⟩ : ∃ x, nextS 4 m s5 = x := ⟨_, rfl⟩
      have hPx : P = ((E.map (·.2)).set kk.toNat (badD d.toNat), s6) := by
        rw [hP.out]
        unfold fixDs
        simp only [hr16, hs16, hkk, hs5, hd, hs6]
        rw [if_neg hn2, if_neg (by omega)]
      subst hPx
      clear hr16 hs16 hP
      go_wp2_with fail
      refine (next_val _ _ _ _ _ _ _ _ _ hS4 hkk hs5 (by omega) (by omega)).mono ?_
      rintro e w5 ⟨rfl, k0, k1, hS5, hg5⟩
      have hown5 := own_only hown4 hg5 (fun k e => by injection e with e; omega)
      have hrows5 := hrows4.only hg5 (fun k e => by injection e with e; omega)
      have hW5 := hW4.grown hg5 (fun e => by injection e with e; omega)
      have hgw5 := only_trans hgw4 hg5
      have hz5 := hgw5.size
      clear hown4 hgw4 hS4 hg5 hn1 hrows4 hW4
      obtain ⟨k, rfl⟩ : ∃ k : Nat, kk = k := ⟨kk.toNat, by omega⟩
      have hkn : k < n := by omega
      have hgl5 := hW5.lt
      have hS5' := (((hS5.new (.cells #[.int .i64 0] 2)).new (.cells #[.int .i64 1, .int .i64 (-1)] 2)).new (.cells #[.int .i64 9] 2)).new (.cells #[.slice none 0 0, .int .i64 4, .slice (some ⟨w5.heap.size, 0, none⟩) 1 1, .int .i64 0, .slice (some ⟨w5.heap.size + 1, 0, none⟩) 2 2, .int .i64 0, .slice (some ⟨w5.heap.size + 1 + 1, 0, none⟩) 1 1, .int .i64 0] 33)
      go_wp2_with fail
      refine (next_val _ _ _ _ _ _ _ _ _ hS5' hd hs6 (by omega) (by omega)).mono ?_
      rintro e w6 ⟨rfl, d0, d1, hS6, hg6⟩
      have hz6 := hg6.size
      simp only [World.size_alloc] at hz6
      have hge : ∀ k, (some g : Option Nat) = some k → k < w.heap.size := fun k e => by injection e with e; omega
      have hown6 := own_only ((((hown5.alloc (.cells #[.int .i64 0] 2)).alloc (.cells #[.int .i64 1, .int .i64 (-1)] 2)).alloc (.cells #[.int .i64 9] 2)).alloc (.cells #[.slice none 0 0, .int .i64 4, .slice (some ⟨w5.heap.size, 0, none⟩) 1 1, .int .i64 0, .slice (some ⟨w5.heap.size + 1, 0, none⟩) 2 2, .int .i64 0, .slice (some ⟨w5.heap.size + 1 + 1, 0, none⟩) 1 1, .int .i64 0] 33)) hg6 hge
      have hrows6 : RowsD w6 w.heap.size E := fun e he => own_only (((((hrows5 e he).alloc (.cells #[.int .i64 0] 2)).alloc (.cells #[.int .i64 1, .int .i64 (-1)] 2)).alloc (.cells #[.int .i64 9] 2)).alloc (.cells #[.slice none 0 0, .int .i64 4, .slice (some ⟨w5.heap.size, 0, none⟩) 1 1, .int .i64 0, .slice (some ⟨w5.heap.size + 1, 0, none⟩) 2 2, .int .i64 0, .slice (some ⟨w5.heap.size + 1 + 1, 0, none⟩) 1 1, .int .i64 0] 33)) hg6 hge
      have hW6 := ((((hW5.alloc (.cells #[.int .i64 0] 2)).alloc (.cells #[.int .i64 1, .int .i64 (-1)] 2)).alloc (.cells #[.int .i64 9] 2)).alloc (.cells #[.slice none 0 0, .int .i64 4, .slice (some ⟨w5.heap.size, 0, none⟩) 1 1, .int .i64 0, .slice (some ⟨w5.heap.size + 1, 0, none⟩) 2 2, .int .i64 0, .slice (some ⟨w5.heap.size + 1 + 1, 0, none⟩) 1 1, .int .i64 0] 33)).grown hg6 (fun e => by injection e with e; omega)
      have hgw6 := only_trans (only_new (only_new (only_new (only_new hgw5 (.cells #[.int .i64 0] 2)) (.cells #[.int .i64 1, .int .i64 (-1)] 2)) (.cells #[.int .i64 9] 2)) (.cells #[.slice none 0 0, .int .i64 4, .slice (some ⟨w5.heap.size, 0, none⟩) 1 1, .int .i64 0, .slice (some ⟨w5.heap.size + 1, 0, none⟩) 2 2, .int .i64 0, .slice (some ⟨w5.heap.size + 1 + 1, 0, none⟩) 1 1, .int .i64 0] 33)) hg6
      have hB4 := (Whole.new (((w5.alloc (.cells #[.int .i64 0] 2)).alloc (.cells #[.int .i64 1, .int .i64 (-1)] 2)).alloc (.cells #[.int .i64 9] 2)) 33 #[.slice none 0 0, .int .i64 4, .slice (some ⟨w5.heap.size, 0, none⟩) 1 1, .int .i64 0, .slice (some ⟨w5.heap.size + 1, 0, none⟩) 2 2, .int .i64 0, .slice (some ⟨w5.heap.size + 1 + 1, 0, none⟩) 1 1, .int .i64 0]).grown hg6 (fun e => by injection e with e; simp at e; omega)
      have hR0 := ((((Whole.new w5 2 #[.int .i64 0]).alloc (.cells #[.int .i64 1, .int .i64 (-1)] 2)).alloc (.cells #[.int .i64 9] 2)).alloc (.cells #[.slice none 0 0, .int .i64 4, .slice (some ⟨w5.heap.size, 0, none⟩) 1 1, .int .i64 0, .slice (some ⟨w5.heap.size + 1, 0, none⟩) 2 2, .int .i64 0, .slice (some ⟨w5.heap.size + 1 + 1, 0, none⟩) 1 1, .int .i64 0] 33)).grown hg6 (fun e => by injection e with e; omega)
      have hR1 := (((Whole.new (w5.alloc (.cells #[.int .i64 0] 2)) 2 #[.int .i64 1, .int .i64 (-1)]).alloc (.cells #[.int .i64 9] 2)).alloc (.cells #[.slice none 0 0, .int .i64 4, .slice (some ⟨w5.heap.size, 0, none⟩) 1 1, .int .i64 0, .slice (some ⟨w5.heap.size + 1, 0, none⟩) 2 2, .int .i64 0, .slice (some ⟨w5.heap.size + 1 + 1, 0, none⟩) 1 1, .int .i64 0] 33)).grown hg6 (fun e => by injection e with e; simp at e; omega)
      have hR2 := ((Whole.new ((w5.alloc (.cells #[.int .i64 0] 2)).alloc (.cells #[.int .i64 1, .int .i64 (-1)] 2)) 2 #[.int .i64 9]).alloc (.cells #[.slice none 0 0, .int .i64 4, .slice (some ⟨w5.heap.size, 0, none⟩) 1 1, .int .i64 0, .slice (some ⟨w5.heap.size + 1, 0, none⟩) 2 2, .int .i64 0, .slice (some ⟨w5.heap.size + 1 + 1, 0, none⟩) 1 1, .int .i64 0] 33)).grown hg6 (fun e => by injection e with e; simp at e; omega)
      simp only [World.size_alloc] at hB4 hR1 hR2
      clear hown5 hrows5 hW5 hgw5 hS5 hS5' hg6 hkk hs5 hd hs6
      have y0 := hW6.some_ (k * 2) (by omega)
      have y1 := hW6.some_ (k * 2 + 1) (by omega)
      have f0 := hW6.frz (k * 2)
      have f1 := hW6.frz (k * 2 + 1)
      have z6 := hgw6.size
      obtain rfl | rfl | rfl | rfl : d = 0 ∨ d = 1 ∨ d = 2 ∨ d = 3 := by omega
      · have x0 := hB4.cell 0
        have x1 := hB4.cell 1
        simp at x0 x1
        have hoF := own_put (own_put hown6 (k * 2) (.slice none 0 0)) (k * 2 + 1) (.int .i64 4)
        rw [flatD_set E k ((.slice none 0 0), [], 4)] at hoF
        have hrF : RowsD ((w6.setCell ⟨g7, k * 2, none⟩ (.slice none 0 0)).setCell ⟨g7, k * 2 + 1, none⟩ (.int .i64 4)) w.heap.size (E.set k ((.slice none 0 0), [], 4)) := by
          intro e he
          have hr : w6.ownsRow w.heap.size 2 1 e.1 e.2.1.length (e.2.1.map (Value.int .i64)) := by
            rcases List.mem_or_eq_of_mem_set he with he | he
            · exact hrows6 e he
            · subst he
              exact World.ownsRow_nil _ _ _ _
          have hne := own_whole hr hW6 (by decide)
          exact Go.ownsRow_setCell_other (Go.ownsRow_setCell_other hr (a := ⟨g7, k * 2, none⟩) hne _) (a := ⟨g7, k * 2 + 1, none⟩) hne _
        have hSF := hS6.keepOnly (row := some g7) (only_put (only_put (only_refl _ _) (k * 2) (.slice none 0 0)) (k * 2 + 1) (.int .i64 4)) (fun j e => by injection e with e; omega)
        have hgF := only_put_new (only_put_new hgw6 hg7b (k * 2) (.slice none 0 0)) hg7b (k * 2 + 1) (.int .i64 4)
        have hPF : (E.set k ((.slice none 0 0), [], 4)).map (·.2) = (E.map (·.2)).set (Int.toNat (k : Int)) (badD (Int.toNat 0)) := by rw [List.map_set]; rfl
        have hlF : (E.set k ((.slice none 0 0), [], 4)).length = n := by rw [List.length_set]; exact hn
        clear hown6 hrows6 hW6 hS6 hgw6 hR0 hR1 hR2 hB4
        go_wp2
        go_ret
        exact ⟨_, E.set k ((.slice none 0 0), [], 4), rfl, hPF, by omega, by rw [hlF]; exact hoF, hrF, hSF, hgF⟩
      · have x0 := hB4.cell 2
        have x1 := hB4.cell 3
        simp at x0 x1
        have hoF := own_put (own_put hown6 (k * 2) (.slice (some ⟨w5.heap.size, 0, none⟩) 1 1)) (k * 2 + 1) (.int .i64 0)
        rw [flatD_set E k ((.slice (some ⟨w5.heap.size, 0, none⟩) 1 1), [0], 0)] at hoF
        have hrF : RowsD ((w6.setCell ⟨g7, k * 2, none⟩ (.slice (some ⟨w5.heap.size, 0, none⟩) 1 1)).setCell ⟨g7, k * 2 + 1, none⟩ (.int .i64 0)) w.heap.size (E.set k ((.slice (some ⟨w5.heap.size, 0, none⟩) 1 1), [0], 0)) := by
          intro e he
          have hr : w6.ownsRow w.heap.size 2 1 e.1 e.2.1.length (e.2.1.map (Value.int .i64)) := by
            rcases List.mem_or_eq_of_mem_set he with he | he
            · exact hrows6 e he
            · subst he
              exact ⟨by simp, .inr ⟨_, 1, #[.int .i64 0], rfl, by omega, hR0, Nat.le_refl _, by simp [maxLen], by simp, by simp⟩⟩
          have hne := own_whole hr hW6 (by decide)
          exact Go.ownsRow_setCell_other (Go.ownsRow_setCell_other hr (a := ⟨g7, k * 2, none⟩) hne _) (a := ⟨g7, k * 2 + 1, none⟩) hne _
        have hSF := hS6.keepOnly (row := some g7) (only_put (only_put (only_refl _ _) (k * 2) (.slice (some ⟨w5.heap.size, 0, none⟩) 1 1)) (k * 2 + 1) (.int .i64 0)) (fun j e => by injection e with e; omega)
        have hgF := only_put_new (only_put_new hgw6 hg7b (k * 2) (.slice (some ⟨w5.heap.size, 0, none⟩) 1 1)) hg7b (k * 2 + 1) (.int .i64 0)
        have hPF : (E.set k ((.slice (some ⟨w5.heap.size, 0, none⟩) 1 1), [0], 0)).map (·.2) = (E.map (·.2)).set (Int.toNat (k : Int)) (badD (Int.toNat 1)) := by rw [List.map_set]; rfl
        have hlF : (E.set k ((.slice (some ⟨w5.heap.size, 0, none⟩) 1 1), [0], 0)).length = n := by rw [List.length_set]; exact hn
        clear hown6 hrows6 hW6 hS6 hgw6 hR0 hR1 hR2 hB4
        go_wp2
        go_ret
        exact ⟨_, E.set k ((.slice (some ⟨w5.heap.size, 0, none⟩) 1 1), [0], 0), rfl, hPF, by omega, by rw [hlF]; exact hoF, hrF, hSF, hgF⟩
      · have x0 := hB4.cell 4
        have x1 := hB4.cell 5
        simp at x0 x1
        have hoF := own_put (own_put hown6 (k * 2) (.slice (some ⟨w5.heap.size + 1, 0, none⟩) 2 2)) (k * 2 + 1) (.int .i64 0)
        rw [flatD_set E k ((.slice (some ⟨w5.heap.size + 1, 0, none⟩) 2 2), [1, -1], 0)] at hoF
        have hrF : RowsD ((w6.setCell ⟨g7, k * 2, none⟩ (.slice (some ⟨w5.heap.size + 1, 0, none⟩) 2 2)).setCell ⟨g7, k * 2 + 1, none⟩ (.int .i64 0)) w.heap.size (E.set k ((.slice (some ⟨w5.heap.size + 1, 0, none⟩) 2 2), [1, -1], 0)) := by
          intro e he
          have hr : w6.ownsRow w.heap.size 2 1 e.1 e.2.1.length (e.2.1.map (Value.int .i64)) := by
            rcases List.mem_or_eq_of_mem_set he with he | he
            · exact hrows6 e he
            · subst he
              exact ⟨by simp, .inr ⟨_, 2, #[.int .i64 1, .int .i64 (-1)], rfl, by omega, hR1, Nat.le_refl _, by simp [maxLen], by simp, by simp⟩⟩
          have hne := own_whole hr hW6 (by decide)
          exact Go.ownsRow_setCell_other (Go.ownsRow_setCell_other hr (a := ⟨g7, k * 2, none⟩) hne _) (a := ⟨g7, k * 2 + 1, none⟩) hne _
        have hSF := hS6.keepOnly (row := some g7) (only_put (only_put (only_refl _ _) (k * 2) (.slice (some ⟨w5.heap.size + 1, 0, none⟩) 2 2)) (k * 2 + 1) (.int .i64 0)) (fun j e => by injection e with e; omega)
        have hgF := only_put_new (only_put_new hgw6 hg7b (k * 2) (.slice (some ⟨w5.heap.size + 1, 0, none⟩) 2 2)) hg7b (k * 2 + 1) (.int .i64 0)
        have hPF : (E.set k ((.slice (some ⟨w5.heap.size + 1, 0, none⟩) 2 2), [1, -1], 0)).map (·.2) = (E.map (·.2)).set (Int.toNat (k : Int)) (badD (Int.toNat 2)) := by rw [List.map_set]; rfl
        have hlF : (E.set k ((.slice (some ⟨w5.heap.size + 1, 0, none⟩) 2 2), [1, -1], 0)).length = n := by rw [List.length_set]; exact hn
        clear hown6 hrows6 hW6 hS6 hgw6 hR0 hR1 hR2 hB4
        go_wp2
        go_ret
        exact ⟨_, E.set k ((.slice (some ⟨w5.heap.size + 1, 0, none⟩) 2 2), [1, -1], 0), rfl, hPF, by omega, by rw [hlF]; exact hoF, hrF, hSF, hgF⟩
      · have x0 := hB4.cell 6
        have x1 := hB4.cell 7
        simp at x0 x1
        have hoF := own_put (own_put hown6 (k * 2) (.slice (some ⟨w5.heap.size + 1 + 1, 0, none⟩) 1 1)) (k * 2 + 1) (.int .i64 0)
        rw [flatD_set E k ((.slice (some ⟨w5.heap.size + 1 + 1, 0, none⟩) 1 1), [9], 0)] at hoF
        have hrF : RowsD ((w6.setCell ⟨g7, k * 2, none⟩ (.slice (some ⟨w5.heap.size + 1 + 1, 0, none⟩) 1 1)).setCell ⟨g7, k * 2 + 1, none⟩ (.int .i64 0)) w.heap.size (E.set k ((.slice (some ⟨w5.heap.size + 1 + 1, 0, none⟩) 1 1), [9], 0)) := by
          intro e he
          have hr : w6.ownsRow w.heap.size 2 1 e.1 e.2.1.length (e.2.1.map (Value.int .i64)) := by
            rcases List.mem_or_eq_of_mem_set he with he | he
            · exact hrows6 e he
            · subst he
              exact ⟨by simp, .inr ⟨_, 1, #[.int .i64 9], rfl, by omega, hR2, Nat.le_refl _, by simp [maxLen], by simp, by simp⟩⟩
          have hne := own_whole hr hW6 (by decide)
          exact Go.ownsRow_setCell_other (Go.ownsRow_setCell_other hr (a := ⟨g7, k * 2, none⟩) hne _) (a := ⟨g7, k * 2 + 1, none⟩) hne _
        have hSF := hS6.keepOnly (row := some g7) (only_put (only_put (only_refl _ _) (k * 2) (.slice (some ⟨w5.heap.size + 1 + 1, 0, none⟩) 1 1)) (k * 2 + 1) (.int .i64 0)) (fun j e => by injection e with e; omega)
        have hgF := only_put_new (only_put_new hgw6 hg7b (k * 2) (.slice (some ⟨w5.heap.size + 1 + 1, 0, none⟩) 1 1)) hg7b (k * 2 + 1) (.int .i64 0)
        have hPF : (E.set k ((.slice (some ⟨w5.heap.size + 1 + 1, 0, none⟩) 1 1), [9], 0)).map (·.2) = (E.map (·.2)).set (Int.toNat (k : Int)) (badD (Int.toNat 3)) := by rw [List.map_set]; rfl
        have hlF : (E.set k ((.slice (some ⟨w5.heap.size + 1 + 1, 0, none⟩) 1 1), [9], 0)).length = n := by rw [List.length_set]; exact hn
        clear hown6 hrows6 hW6 hS6 hgw6 hR0 hR1 hR2 hB4
        go_wp2
        go_ret
        exact ⟨_, E.set k ((.slice (some ⟨w5.heap.size + 1 + 1, 0, none⟩) 1 1), [9], 0), rfl, hPF, by omega, by rw [hlF]; exact hoF, hrF, hSF, hgF⟩
    · obtain ⟨q, rfl⟩ : ∃ k, q = k + 1 := ⟨q - 1, by omega⟩
      obtain ⟨oc, hoc⟩ : ∃ r, nextV 4 m bs s = r := ⟨_, rfl⟩
      obtain ⟨s1, hs1⟩ : ∃ x, nextS 4 m s = x := ⟨_, rfl⟩
      obtain ⟨FP, hFP⟩ : ∃ x, drawFs m bs 4 1 [] s1 = x := ⟨_, rfl⟩
      have hTn : Hid (drawDs m bs q (E.map (·.2) ++ [(FP.1, oc)]) FP.2 = T) := by
        have h1 := hTz.out
        simp only [drawDs, hoc, hs1, hFP] at h1
        exact Lib.hid h1
      replace hFP := Lib.hid hFP
      clear hTz
      go_wp2_with fail
      refine (next_val _ _ _ _ _ _ _ _ _ hS hoc hs1 (by omega) (by omega)).mono ?_
      rintro e w2 ⟨rfl, oc0, oc1, hS2, hg2⟩
      have hz2 := hg2.size
      clear hS hoc hs1
      have hgr := only_new (only_new hg2 (.cells #[] 2)) (.cells #[.slice (some ⟨w2.heap.size, 0, none⟩) 0 0, .int .i64 oc] 33)
      have hfv0 : ((w2.alloc (.cells #[] 2)).alloc (.cells #[.slice (some ⟨w2.heap.size, 0, none⟩) 0 0, .int .i64 oc] 33)).ownsRow wo.heap.size 2 1 (.slice (some ⟨w2.heap.size, 0, none⟩) 0 0) 0 (([] : List Int).map (Value.int .i64)) := own_empty ((Whole.new w2 2 #[]).alloc _) hz2
      have hd0 := Whole.new (w2.alloc (.cells #[] 2)) 33 #[.slice (some ⟨w2.heap.size, 0, none⟩) 0 0, .int .i64 oc]
      have hS3 := (hS2.new (.cells #[] 2)).new (.cells #[.slice (some ⟨w2.heap.size, 0, none⟩) 0 0, .int .i64 oc] 33)
      simp only [World.size_alloc] at hd0
      clear hS2
      go_wp2_with fail
      go_loopw [6] (fun v6 wi => ∃ (p : Nat) (f : Int) (fv : Value) (zs : List Int) (s : Nat × Int), v6 = .int .i64 f ∧ f + p = 5 ∧ 1 ≤ f ∧ p ≤ 4 ∧ zs.length ≤ 4 - p ∧ Hid (drawFs m bs p f zs s = FP) ∧
        Whole wi (w2.heap.size + 1) 33 #[fv, .int .i64 oc] ∧ wi.ownsRow wo.heap.size 2 1 fv zs.length (zs.map (Value.int .i64)) ∧ Src wi B g m bs s ∧ wo.grownBy wi (some g)) (fun v6 _ => (5 - intOf v6).toNat)
      case atStart => exact ⟨4, 1, _, [], s1, rfl, by omega, by omega, by omega, by simp, hFP, hd0, hfv0, hS3, hgr⟩
      case round =>
        obtain ⟨p, f, fv, zs, s, rfl, hfp, hf1, hp4, hzl, hFz, hD, hfv, hS, hgi⟩ := hrel
        clear hd0 hfv0 hS3 hgr hFP
        have hzi := hgi.size
        rcases Nat.eq_zero_or_pos p with hp | hp
        · subst hp
          have hFPz : FP = (zs, s) := by
            have h1 := hFz.out
            simp only [drawFs] at h1
            exact h1.symm
          subst hFPz
          obtain rfl : f = 5 := by omega
          have hTn' : Hid (drawDs m bs q ((E ++ [(fv, zs, oc)]).map (·.2)) s = T) := by
            have h1 := hTn.out
            rw [List.map_append]
            exact Lib.hid h1
          have hown5 := own_only hown hgi (fun k e => by injection e with e; omega)
          have hrows5 := hrows.only hgi (fun k e => by injection e with e; omega)
          have hgw5 := only_trans hgw hgi
          obtain ⟨Af, cf, rfl, -, -⟩ := own_form hfv
          have y0 := hD.cell 0
          have y1 := hD.cell 1
          simp at y0 y1
          clear hFz hTn hown hrows hgw
          have hnew := Whole.new wr 33 #[.slice Af zs.length cf, .int .i64 oc]
          go_wp2_with (at_builtin; refine wpList_append_own_at _ rfl _ _ 25 rfl w.heap.size 33 i0 _ 2 32 Try.underlying25 hi.out hz0'.out hz1'.out hz2'.out rfl (by decide) _ _ _ rfl (hown5.alloc _) ⟨wr.heap.size, 0, none⟩ 1 1 [.slice Af zs.length cf, .int .i64 oc] rfl rfl ?c1 ?c2 ?c3 ?c4 ?c5 ?_)
          case c1 =>
            intro j u hu
            rw [add_zero_off, hnew.cell]
            simpa using hu
          case c2 => simp [Value.oneCell']
          case c3 => simp only [maxLen]; omega
          case c4 => omega
          case c5 => simp; omega
          intro v' w8 hown' hgrow _ hat
          have hgw8 : w.grownBy w8 (some g) := only_own (only_new hgw5 _) hgrow (fun k hk => (hown5.lt k hk).1) (Nat.le_refl _)
          have hS8 : Src w8 B g m bs s := (hS.new _).keepOnly hgrow (fun k hk => by have := (hown5.lt k hk).1; omega)
          have hown8 : w8.ownsRow w.heap.size 33 2 v' (E ++ [(Value.slice Af zs.length cf, zs, oc)]).length (flatD (E ++ [(Value.slice Af zs.length cf, zs, oc)])) := by
            rw [flatD_append, List.length_append]
            exact hown'
          have hrows8 : RowsD w8 w.heap.size (E ++ [(Value.slice Af zs.length cf, zs, oc)]) := by
            intro e he
            rcases List.mem_append.1 he with he | he
            · exact ((hrows5 e he).alloc _).kept hgrow (own_types (hrows5 e he) hown5 (by decide))
            · rw [List.mem_singleton] at he
              subst he
              exact ((hfv.mono (base' := w.heap.size) (by omega)).alloc _).kept hgrow (own_types hfv hown5 (by decide))
          clear hown' hgrow hat hown5 hgw5 hrows5 hfv hD hS
          go_wp2
          go_roundw
          case rel => exact ⟨q, E ++ [(Value.slice Af zs.length cf, zs, oc)], s, by go_num, by simp; omega, hTn', hown8, hrows8, hS8, hgw8⟩
          case measure => simp [intOf]; try omega
        · obtain ⟨p, rfl⟩ : ∃ k, p = k + 1 := ⟨p - 1, by omega⟩
          obtain ⟨r3, hr3⟩ : ∃ r, nextV 3 m bs s = r := ⟨_, rfl⟩
          obtain ⟨s2, hs2⟩ : ∃ x, nextS 3 m s = x := ⟨_, rfl⟩
          obtain ⟨a, ha⟩ : ∃ r, nextV 2 m bs s2 = r := ⟨_, rfl⟩
          obtain ⟨s3, hs3⟩ : ∃ x, nextS 2 m s2 = x := ⟨_, rfl⟩
          have hab := nextV_bd 2 m bs s2 (by omega)
          rw [ha] at hab
          have hFn : (if r3 = 0 then drawFs m bs p (f + 1) (zs ++ [f * (2 * a - 1)]) s3 else drawFs m bs p (f + 1) zs s2) = FP := by
            have h1 := hFz.out
            simp only [drawFs, hr3, hs2, ha, hs3] at h1
            exact h1
          replace hFn := Lib.hid hFn
          clear hFz
          have hfl : f ≤ 4 := by omega
          go_wp2_with fail
          refine (next_val _ _ _ _ _ _ _ _ _ hS hr3 hs2 (by omega) (by omega)).mono ?_
          rintro e w4 ⟨rfl, r30, r31, hS4, hg4⟩
          have hD4 := hD.grown hg4 (fun e => by injection e with e; omega)
          have hfv4 := own_only hfv hg4 (fun k e => by injection e with e; omega)
          have hgi4 := only_trans hgi hg4
          have hz4 := hgi4.size
          clear hD hfv hgi hS hg4 hr3 hs2
          by_cases h3 : ¬ r3 = 0
          · have hFm := hFn.out
            rw [if_neg h3] at hFm
            have n3 : (r3 == 0) = false := by rw [beq_eq_false_iff_ne]; exact h3
            replace hFm := Lib.hid hFm
            clear hFn
            go_wp2
            go_roundw
            case rel => exact ⟨p, f + 1, fv, zs, s2, by go_num, by omega, by omega, by omega, by omega, hFm, hD4, hfv4, hS4, hgi4⟩
            case measure => simp [intOf]; omega
          have h3 : r3 = 0 := Classical.not_not.1 h3
          subst h3
          have hFm := hFn.out
          rw [if_pos rfl] at hFm
          obtain ⟨v, hv⟩ : ∃ v, f * (2 * a - 1) = v := ⟨_, rfl⟩
          rw [hv] at hFm
          have hvb : -4 ≤ v ∧ v ≤ 4 := by
            have : a = 0 ∨ a = 1 := by omega
            rcases this with rfl | rfl <;> omega
          have hw4 : IntKind.i64.wrap (f * (2 * a - 1)) = v := by rw [hv, IntKind.wrap_i64]; omega
          have hw2 : IntKind.i64.wrap (2 * a) = 2 * a := by rw [IntKind.wrap_i64]; omega
          have hw3 : IntKind.i64.wrap (2 * a - 1) = 2 * a - 1 := by rw [IntKind.wrap_i64]; omega
          replace hFm := Lib.hid hFm
          clear hFn hv
          go_wp2_with fail
          refine wp_region_inv (fun L x wx => Src wx B g m bs (if L 6 = true then s3 else s2) ∧ wo.grownBy wx (some g) ∧ dgT wo.heap.size (w2.heap.size + 1) zs.length fv zs oc v L x wx ∧ Held dgDst (dgG g (w2.heap.size + 1) fv oc f a v) 13 L x wx)
            [26, 27, 28, 29, 30, 31, 32, 33, 34, 35, 36, 37, 38] [[], [0], [], [2], [], [], [5], [6], [7], [4, 8], [9], [3, 10, 6], [1, 11], [12, 11, 0, 1, 2, 3, 4, 5, 6, 7, 8, 9, 10, 11, 12]] (by kernel_rfl) (by kernel_rfl) (by kernel_rfl) ?_ ?_ ?_
          · intro x
            exact ⟨hS4, ⟨hgi4.1, hgi4.2, hgi4.3, hgi4.4, hgi4.5⟩, ⟨fun _ => hD4, fun _ => hfv4, fun e => (by cases e), fun e => (by cases e), fun e => (by cases e), fun e => (by cases e), fun e => (by cases e), fun e => (by cases e)⟩, Held.none⟩
          · rintro L x wx ⟨hZ, hG, hT, hH⟩
            have hGz := hG.size
            obtain ⟨hTD, hTF, hTN, hTA, hTS, hTE, hTc⟩ := id hT
            have hno : ∀ i, (i = 1 ∨ i = 3 ∨ i = 11 ∨ i = 12) → L i = false → L 13 = false := fun i hi h => by
              cases h13 : L 13 with
              | false => rfl
              | true =>
                obtain ⟨c1, c2, c3, c4⟩ := hTc.1 h13
                rcases hi with rfl | rfl | rfl | rfl <;> simp_all
            refine ⟨InvAt.mk rfl (by simp) ?_, InvAt.mk rfl (by simp) ?_, InvAt.mk rfl (by simp) ?_, InvAt.mk rfl (by simp) ?_, InvAt.mk rfl (by simp) ?_, InvAt.mk rfl (by simp) ?_, InvAt.mk rfl (by simp) ?_, InvAt.mk rfl (by simp) ?_, InvAt.mk rfl (by simp) ?_, InvAt.mk rfl (by simp) ?_, InvAt.mk rfl (by simp) ?_, InvAt.mk rfl (by simp) ?_, InvAt.mk rfl (by simp) ?_, InvAt.mk rfl (by simp) ?_, trivial⟩
            · intro hL hd K hK
              simp only [fillA, fillL]
              go_simp
              exact hK (.pointer (some ⟨(w2.heap.size + 1), 1, none⟩)) _ _ ⟨hZ, hG, hT, hH.step 0 26 _ rfl (by decide) (fun j y h => h) rfl⟩ rfl
            · intro hL hd K hK
              have h13 : L 13 = false := hno 1 (by simp) hL
              have hDw := hTD h13
              have y0 := hDw.cell 1
              simp at y0
              have e0 : x 26 = .pointer (some ⟨(w2.heap.size + 1), 1, none⟩) := hH 0 (by omega) (hd 0 (by simp))
              simp only [fillA, fillL]
              simp only [e0]
              simp only [fillA, fillL, e0] at hK
              go_simp
              exact hK (.int .i64 oc) _ _ ⟨hZ, hG, ⟨hTD, hTF, hTN, hTA, hTS, hTE, fun q => (by have q : L 13 = true := q; rw [h13] at q; cases q), hTc.2⟩, hH.step 1 27 _ rfl (by decide) (fun j y h => h) rfl⟩ rfl
            · intro hL hd K hK
              simp only [fillA, fillL]
              go_simp
              exact hK (.pointer (some ⟨(w2.heap.size + 1), 0, none⟩)) _ _ ⟨hZ, hG, hT, hH.step 2 28 _ rfl (by decide) (fun j y h => h) rfl⟩ rfl
            · intro hL hd K hK
              have h13 : L 13 = false := hno 3 (by simp) hL
              have hDw := hTD h13
              have y0 := hDw.cell 0
              simp at y0
              have e2 : x 28 = .pointer (some ⟨(w2.heap.size + 1), 0, none⟩) := hH 2 (by omega) (hd 2 (by simp))
              simp only [fillA, fillL]
              simp only [e2]
              simp only [fillA, fillL, e2] at hK
              go_simp
              exact hK fv _ _ ⟨hZ, hG, ⟨hTD, hTF, hTN, hTA, hTS, hTE, fun q => (by have q : L 13 = true := q; rw [h13] at q; cases q), hTc.2⟩, hH.step 3 29 _ rfl (by decide) (fun j y h => h) rfl⟩ rfl
            · intro hL hd K hK
              simp only [fillA, fillL]
              go_simp
              exact hK (.int .i64 f) _ _ ⟨hZ, hG, hT, hH.step 4 30 _ rfl (by decide) (fun j y h => h) rfl⟩ rfl
            · intro hL hd K hK
              simp only [fillA, fillL]
              go_simp
              exact hK (.pointer (some ⟨g, 0, none⟩)) _ _ ⟨hZ, hG, hT, hH.step 5 31 _ rfl (by decide) (fun j y h => h) rfl⟩ rfl
            · intro hL hd K hK
              have hZ0 : Src wx B g m bs s2 := by have := hZ; rw [hL] at this; exact this
              have e5 : x 31 = .pointer (some ⟨g, 0, none⟩) := hH 5 (by omega) (hd 5 (by simp))
              simp only [fillA, fillL]
              simp only [e5]
              simp only [fillA, fillL, e5] at hK
              go_simp
              go_at_call 53
              refine (next_val _ _ _ _ _ _ _ _ _ hZ0 ha hs3 (by omega) (by omega)).mono ?_
              rintro e wy ⟨rfl, -, -, hSy, hgy⟩
              refine hK (.int .i64 a) _ _ ⟨hSy, only_trans hG hgy, ⟨fun q => (hTD q).grown hgy (fun e => by injection e with e; omega), fun q => own_only (hTF q) hgy (fun k e => by injection e with e; omega), fun q1 q2 => ?_, fun q1 q2 => own_only (hTA q1 q2) hgy (fun k e => by injection e with e; omega), hTS, fun q => ?_, hTc⟩, hH.step 6 32 _ rfl (by decide) (fun j y h => h) rfl⟩ rfl
              · obtain ⟨gn, q3, q4, q5, q6⟩ := hTN q1 q2
                exact ⟨gn, q3, q4, q5.grown hgy (fun e => by injection e with e; omega), q6⟩
              · obtain ⟨fv', q3, q4⟩ := hTE q
                exact ⟨fv', q3.grown hgy (fun e => by injection e with e; omega), own_only q4 hgy (fun k e => by injection e with e; omega)⟩
            · intro hL hd K hK
              have e6 : x 32 = .int .i64 a := hH 6 (by omega) (hd 6 (by simp))
              simp only [fillA, fillL]
              simp only [e6]
              simp only [fillA, fillL, e6] at hK
              go_simp
              exact hK (.int .i64 (2 * a)) _ _ ⟨hZ, hG, hT, hH.step 7 33 _ rfl (by decide) (fun j y h => h) rfl⟩ rfl
            · intro hL hd K hK
              have e7 : x 33 = .int .i64 (2 * a) := hH 7 (by omega) (hd 7 (by simp))
              simp only [fillA, fillL]
              simp only [e7]
              simp only [fillA, fillL, e7] at hK
              go_simp
              exact hK (.int .i64 (2 * a - 1)) _ _ ⟨hZ, hG, hT, hH.step 8 34 _ rfl (by decide) (fun j y h => h) rfl⟩ rfl
            · intro hL hd K hK
              have e4 : x 30 = .int .i64 f := hH 4 (by omega) (hd 4 (by simp))
              have e8 : x 34 = .int .i64 (2 * a - 1) := hH 8 (by omega) (hd 8 (by simp))
              simp only [fillA, fillL]
              simp only [e4, e8]
              simp only [fillA, fillL, e4, e8] at hK
              go_simp
              exact hK (.int .i64 v) _ _ ⟨hZ, hG, hT, hH.step 9 35 _ rfl (by decide) (fun j y h => h) rfl⟩ rfl
            · intro hL hd K hK
              have e9 : x 35 = .int .i64 v := hH 9 (by omega) (hd 9 (by simp))
              simp only [fillA, fillL]
              simp only [e9]
              simp only [fillA, fillL, e9] at hK
              go_simp
              refine hK (.slice (some ⟨wx.heap.size, 0, none⟩) 1 1) _ _ ⟨hZ.new _, only_new hG _, ⟨fun q => (hTD q).alloc _, fun q => (hTF q).alloc _, fun _ q2 => ⟨wx.heap.size, rfl, hGz, Whole.new _ _ _, fun e => ?_⟩, fun q1 q2 => (hTA q1 q2).alloc _, hTS, fun q => ?_, hTc⟩, hH.step 10 36 _ rfl (by decide) (fun j y h => h) trivial⟩ rfl
              · have := ((hTF q2).lt _ e).2
                omega
              · obtain ⟨fv', q3, q4⟩ := hTE q
                exact ⟨fv', q3.alloc _, q4.alloc _⟩
            · intro hL hd K hK
              have e3 : x 29 = fv := hH 3 (by omega) (hd 3 (by simp))
              have h13 : L 13 = false := hno 11 (by simp) hL
              have hDw := hTD h13
              have o3 := hTF hL
              obtain ⟨gn, q3, q4, q5, q6⟩ := hTN (hd 10 (by simp)) hL
              refine step_append_own rfl (.tmp 29) (.tmp 36) 31 rfl wo.heap.size 2 j0 _ 1 8 Try.underlying31 hj.out hy0'.out hy1'.out hy2'.out rfl (by decide) _ _ _ e3 o3 ⟨gn, 0, none⟩ 1 1 [.int .i64 v] q3 rfl (news_whole q5) (by simp [Value.oneCell']) (by simp only [maxLen]; omega) (by omega) hGz ?_
              intro v' wy o8 hgr
              have hlt := fun k hk => (o3.lt k hk).1
              refine hK v' _ _ ⟨hZ.keepOnly hgr (fun k hk => by have := hlt k hk; omega), only_own hG hgr hlt (Nat.le_refl _), ⟨fun q => hDw.grown hgr (fun e => own_whole o3 hDw (by decide) e), fun q => (by have q : true = false := q; cases q), fun _ q => (by have q : true = false := q; cases q), fun _ _ => (by simpa [upV] using o8), fun q => (by have q := hTc.2 q; rw [hL] at q; cases q), fun q => (by have q : L 13 = true := q; rw [h13] at q; cases q), fun q => (by have q : L 13 = true := q; rw [h13] at q; cases q), fun _ => rfl⟩, hH.step 11 37 _ rfl (by decide) (fun j y h => h) trivial⟩ rfl
            · intro hL hd K hK
              have e1 : x 27 = .int .i64 oc := hH 1 (by omega) (hd 1 (by simp))
              have k11 := hd 11 (by simp)
              have h13 : L 13 = false := hno 12 (by simp) hL
              obtain ⟨A37, c37, e37, -⟩ := own_form (hTA k11 h13)
              simp only [fillA, fillL]
              simp only [e1, e37]
              simp only [fillA, fillL, e1, e37] at hK
              go_simp
              exact hK (.agg #[.slice A37 (zs.length + 1) c37, .int .i64 oc]) _ _ ⟨hZ, hG, ⟨hTD, hTF, hTN, hTA, fun _ => (by simp [upV, e37]), fun q => (by have q : L 13 = true := q; rw [h13] at q; cases q), fun q => (by have q : L 13 = true := q; rw [h13] at q; cases q), fun _ => k11⟩, hH.step 12 38 _ rfl (by decide) (fun j y h => h) trivial⟩ rfl
            · intro hL hd K hK
              have k11 := hd 11 (by simp)
              have k12 := hd 12 (by simp)
              have k6 := hd 6 (by simp)
              have hDw := hTD hL
              have oA := hTA k11 hL
              have e12 := hTS k12
              have y0 := hDw.cell 0
              have y1 := hDw.cell 1
              have f0 := hDw.frz 0
              have f1 := hDw.frz 1
              simp at y0 y1
              obtain ⟨gA, cA, cuA, hvA, -⟩ := own_open oA (by omega)
              rw [hvA] at e12 oA
              simp only [fillA, fillL]
              simp only [e12, hvA]
              simp only [fillA, fillL, e12, hvA] at hK
              go_simp
              have hp2 := only_put (only_put (only_refl wx (some (w2.heap.size + 1))) 0 (x 37)) 1 (.int .i64 oc)
              rw [hvA] at hp2
              have hF := (hDw.put 0 (.slice (some ⟨gA, 0, none⟩) (zs.length + 1) cA)).put 1 (.int .i64 oc)
              have hoF := Go.ownsRow_setCell_other (Go.ownsRow_setCell_other oA (a := ⟨w2.heap.size + 1, 0, none⟩) (own_whole oA hDw (by decide)) (.slice (some ⟨gA, 0, none⟩) (zs.length + 1) cA)) (a := ⟨w2.heap.size + 1, 1, none⟩) (own_whole oA hDw (by decide)) (.int .i64 oc)
              refine hK undef _ _ ⟨hZ.keepOnly hp2 (fun j e => by injection e with e; omega), only_put_new (only_put_new hG (by omega) 0 (.slice (some ⟨gA, 0, none⟩) (zs.length + 1) cA)) (by omega) 1 (.int .i64 oc), ⟨fun q => (by have q : true = false := q; cases q), fun q => (by have q : L 11 = false := q; rw [k11] at q; cases q), fun _ q => (by have q : L 11 = false := q; rw [k11] at q; cases q), fun _ q => (by have q : true = false := q; cases q), fun _ => hTS k12, fun _ => ⟨_, by simpa using hF, hoF⟩, fun _ => ⟨hd 1 (by simp), hd 3 (by simp), k11, k12⟩, fun _ => k11⟩, fun j hj hLj => ?_⟩ rfl
              have hjL : L j = true := by
                unfold upB at hLj
                rw [if_neg (by omega)] at hLj
                exact hLj
              exact hH j hj hjL
          rintro x wx ⟨hZ, hG, hT, -⟩
          obtain ⟨-, -, -, -, -, hTE, -⟩ := hT
          obtain ⟨fv', hD', ho'⟩ := hTE rfl
          have hSx : Src wx B g m bs s3 := hZ
          have hoz : wx.ownsRow wo.heap.size 2 1 fv' (zs ++ [v]).length ((zs ++ [v]).map (Value.int .i64)) := by simpa using ho'
          clear hZ hTE ho' hD4 hfv4 hS4 hgi4 ha hs3 hw2 hw3 hw4
          simp only [fillA, fillL]
          go_wp2
          go_roundw
          case rel => exact ⟨p, f + 1, fv', zs ++ [v], s3, by go_num, by omega, by omega, by omega, by simp; omega, hFm, hD', hoz, hSx, hG⟩
          case measure => simp [intOf]; omega
end Go.Proofs.Ytcilgohjeobamaa
