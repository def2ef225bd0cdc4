/- AddRuling: the program's and the reference's. -/
import Derived.Test.YteacjoemlobmoaaDoorApp4
import Derived.Test.YteacjoemlobmoaaDoorSAppealRuling
import Derived.Deep.RegionLaw
import Derived.Deep.CutRange
set_option linter.unusedSimpArgs false
set_option linter.unusedVariables false
namespace Go.Proofs.YteacjoemlobmoaaDoor
open Go.RowKit

/-- append onto a row of the call's own, as a step of a region that draws its order. -/
theorem step_append_own {P : Program} {w : World} {ops : Array Oper} {o : Oper} {a : Act} {K : Act → World → Prop} {Q : Exit → Act → World → Prop} {E : Prop} (hgd : o.guard = none) (s x : Operand) (t : TypeId)
    (ho : o.op = .call { callee := .builtin .append, args := #[s, x], argTypes := #[t, t] })
    (base : Nat) (e : TypeId) (i : TypeInfo) (z : Value) (size bytes : Nat) (ht : P.underlying t = some (.slice e)) (hi : P.info? e = some i) (hz : i.zero = some z)
    (hsize : i.size = size) (hby : i.bytes = bytes) (hzs : z.cells.size = size) (hsz : 0 < size)
    (v : Value) (n : Nat) (xs : List Value) (hs : a.eval s = v) (hown : w.ownsRow base e size v n xs)
    (ad : Addr) (m c : Nat) (news : List Value) (hx : a.eval x = .slice (some ad) m c) (hl : news.length = m * size) (hnews : ∀ j u, news[j]? = some u → w.cell? (ad.add j) = some u) (h1 : ∀ u ∈ news, u.oneCell' = true)
    (h63 : n + m ≤ maxLen) (hbytes : (n + m) * bytes ≤ 140737488355328) (hbase : base ≤ w.heap.size)
    (h : ∀ v' w', w'.ownsRow base e size v' (n + m) (xs ++ news) → w.grownBy w' v.ownBlock → K (a.put o.dst v') w') :
    if Region.wanted o (yielded ops a.tmps) = true then Oper.wp P o a w K Q else E := by
  have hw : Region.wanted o (yielded ops a.tmps) = true := by simp [Region.wanted, hgd]
  rw [if_pos hw]
  exact wp_append_own w s x t ho base e i z size bytes ht hi hz hsize hby hzs hsz v n xs hs hown ad m c news hx hl hnews h1 h63 hbytes hbase fun v' w' h2 h3 h4 => h v' w' h2 h3

theorem news_ints {w : World} {B N : Nat} {b o : Nat} {xs : Nat → Int} (h : Ints w B (some ⟨b, o, none⟩) N xs) : ∀ j u, ((List.range N).map (fun j => Value.int .i64 (xs j)))[j]? = some u → w.cell? ((⟨b, o, none⟩ : Addr).add j) = some u := by
  intro j u hu
  have hj : j < N := by
    have := (List.getElem?_eq_some_iff.1 hu).1
    simpa using this
  obtain ⟨b', o', e, hb, hc⟩ := h (by omega)
  injection e with e
  injection e with e1 e2 _
  subst e1; subst e2
  have hadd : (⟨b, o, none⟩ : Addr).add j = ⟨b, o + j, none⟩ := by unfold Addr.add; split <;> simp_all
  rw [hadd, hc j hj]
  simpa [hj] using hu
theorem news_whole {W : World} {g : Nat} {t : TypeId} {cs : Array Value} (h : Whole W g t cs) : ∀ j u, cs.toList[j]? = some u → W.cell? ((⟨g, 0, none⟩ : Addr).add j) = some u := by
  intro j u hu
  rw [add_zero_off, h.cell j]
  simpa using hu
theorem one_ints (N : Nat) (xs : Nat → Int) : ∀ u ∈ (List.range N).map (fun j => Value.int .i64 (xs j)), u.oneCell' = true := by
  intro u hu
  obtain ⟨j, _, rfl⟩ := List.mem_map.1 hu
  rfl

/-- The rulings with one more. -/
def addX (n : Nat) (xs : Nat → Int) (t k u : Int) : List Int := (List.range (n * 3)).map xs ++ [t, k, u]
def addC (n : Nat) (xs : Nat → Int) (t k u : Int) : Int :=
  if hisB n xs = true then (if n = 20 then 3 else if hisB (n + 1) (fun j => (addX n xs t k u).getD j 0) = true then 0 else 5) else 1
def addL (n : Nat) (xs : Nat → Int) (t k u : Int) : List Int := if addC n xs t k u = 0 then addX n xs t k u else []
def addK (n : Nat) (xs : Nat → Int) (t k u : Int) : Nat := if addC n xs t k u = 0 then n + 1 else 0

set_option maxHeartbeats 2000000 in
theorem clone_any (b o n c B : Nat) (xs : Nat → Int) (w : World) (hx : Ints w B (some ⟨b, o, none⟩) (n * 3) xs) (hB : B ≤ w.heap.size) (hn : n ≤ 20) :
    Calls Tryd.prog 28 #[.slice (some ⟨b, o, none⟩) n c] w fun e w' => ∃ v, e = .returned v ∧ w'.ownsRow w.heap.size 25 3 v n ((List.range (n * 3)).map (fun j => Value.int .i64 (xs j))) ∧ Below w.heap.size w w' := by
  obtain ⟨i0, hi, hz0', hz1', hz2'⟩ := info_parts infoAppealRuling
  replace hi := Lib.hid hi
  replace hz0' := Lib.hid hz0'
  replace hz1' := Lib.hid hz1'
  replace hz2' := Lib.hid hz2'
  replace hx := Lib.hid hx
  have hq := fun (w : World) (a : Option Addr) (n c : Nat) => Lib.run_eql_slice_nil (P := Tryd.prog) w 30 25 a n c 0 0 Tryd.underlying30
  go_enter Tryd.func28, Tryd.ntmps28
  go_wp2_with (at_builtin; refine wpList_append_own _ rfl _ _ 30 rfl w.heap.size 25 i0 _ 3 24 Tryd.underlying30 hi.out hz0'.out hz1'.out hz2'.out rfl (by decide) _ _ _ rfl (own_empty (Whole.new w 25 #[]) (Nat.le_refl _)) ⟨b, o, none⟩ n c ((List.range (n * 3)).map (fun j => Value.int .i64 (xs j))) rfl (by simp) ?c1 (one_ints _ _) ?c3 ?c4 ?c5 ?_)
  case c1 => exact news_ints ((hx.out.more hB).below ((Below.refl _ _).alloc (Nat.le_refl _) _))
  case c3 => simp only [maxLen]; omega
  case c4 => omega
  case c5 => simp
  intro v' w1 hown hgrow _
  have hb : Below w.heap.size w w1 := ((Below.refl _ _).alloc (Nat.le_refl _) _).trans (below_only hgrow (by simp) (fun k hk => by simp [Value.ownBlock] at hk; omega))
  obtain ⟨A', c', rfl, _, _⟩ := own_form hown
  go_wp2
  go_ret
  exact ⟨_, rfl, hown, hb⟩
theorem isHistory_v (A : Option Addr) (n c B : Nat) (xs : Nat → Int) (w : World) (v : Bool) (hv : Hid (hisB n xs = v)) (hx : Ints w B A (n * 3) xs) (hB : B ≤ w.heap.size) (hn : n ≤ 9223372036854775807) :
    Calls Tryd.prog 13 #[.slice A n c] w fun e w' => e = .returned (.bool v) ∧ Below w.heap.size w w' := by
  rw [← hv.out]; exact isHistory_any A n c B xs w hx hB hn
set_option maxRecDepth 100000 in
set_option maxHeartbeats 8000000 in
theorem addRuling_any (b o n c B : Nat) (xs : Nat → Int) (t k u : Int) (w : World) (hx : Ints w B (some ⟨b, o, none⟩) (n * 3) xs) (hB : B ≤ w.heap.size) (hn : n ≤ 9223372036854775807) :
    Calls Tryd.prog 10 #[.slice (some ⟨b, o, none⟩) n c, .agg #[.int .i64 t, .int .i64 k, .int .i64 u]] w fun e w' => Gave 25 3 (addK n xs t k u) w w' e (addL n xs t k u) (addC n xs t k u) := by
  generalize hC : addC n xs t k u = co
  have hL : addL n xs t k u = if co = 0 then addX n xs t k u else [] := by rw [← hC]; rfl
  have hK : addK n xs t k u = if co = 0 then n + 1 else 0 := by rw [← hC]; rfl
  generalize addL n xs t k u = L0 at hL ⊢
  generalize addK n xs t k u = K0 at hK ⊢
  unfold addC at hC
  have hxa := (hx.more hB).below ((Below.refl w.heap.size w).alloc (Nat.le_refl _) (.cells #[.int .i64 t, .int .i64 k, .int .i64 u] 25))
  replace hx := Lib.hid hx
  replace hxa := Lib.hid hxa
  cases h1 : hisB n xs with
  | false =>
    rw [h1, if_neg (by simp)] at hC
    subst hC
    rw [if_neg (by omega)] at hL hK
    subst hL
    subst hK
    replace h1 := Lib.hid h1
    go_enter Tryd.func10, Tryd.ntmps10
    go_wp2_with fail
    refine (isHistory_v _ _ _ _ _ _ false h1 hxa.out (by simp) hn).mono ?_
    rintro e w1 ⟨rfl, hb1⟩
    go_wp2
    go_ret2
    exact gave_nil (((Below.refl _ _).alloc (Nat.le_refl _) _).trans (hb1.mono (by simp)))
  | true =>
  have hn20 := hisB_le h1
  rw [h1, if_pos rfl] at hC
  replace h1 := Lib.hid h1
  by_cases h2 : n = 20
  · subst h2
    rw [if_pos rfl] at hC
    subst hC
    rw [if_neg (by omega)] at hL hK
    subst hL
    subst hK
    go_enter Tryd.func10, Tryd.ntmps10
    go_wp2_with fail
    refine (isHistory_v _ _ _ _ _ _ true h1 hxa.out (by simp) hn).mono ?_
    rintro e w1 ⟨rfl, hb1⟩
    go_wp2
    go_ret2
    exact gave_nil (((Below.refl _ _).alloc (Nat.le_refl _) _).trans (hb1.mono (by simp)))
  rw [if_neg h2] at hC
  have h2' : ((n : Int) == 20) = false := by simp; omega
  obtain ⟨i0, hi, hz0', hz1', hz2'⟩ := info_parts infoAppealRuling
  replace hi := Lib.hid hi
  replace hz0' := Lib.hid hz0'
  replace hz1' := Lib.hid hz1'
  replace hz2' := Lib.hid hz2'
  generalize h3 : hisB (n + 1) (fun j => (addX n xs t k u).getD j 0) = v at hC
  have hX : addX n xs t k u = (List.range (n * 3)).map xs ++ [t, k, u] := rfl
  have hXl : (addX n xs t k u).length = (n + 1) * 3 := by rw [hX]; simp; omega
  generalize addX n xs t k u = X at h3 hL hX hXl
  replace h3 := Lib.hid h3
  replace hL := Lib.hid hL
  replace hK := Lib.hid hK
  replace hC := Lib.hid hC
  replace hX := Lib.hid hX
  replace hXl := Lib.hid hXl
  clear h2
  go_enter Tryd.func10, Tryd.ntmps10
  go_wp2_with fail
  refine (isHistory_v _ _ _ _ _ _ true h1 hxa.out (by simp) hn).mono ?_
  rintro e w1 ⟨rfl, hb1⟩
  have hz1 := hb1.size
  simp only [World.size_alloc] at hz1
  have hsl : w.heap.size < w1.heap.size := by omega
  have hb : Below w.heap.size w w1 := ((Below.refl _ _).alloc (Nat.le_refl _) _).trans (hb1.mono (by simp))
  have hW := (Whole.new w 25 #[.int .i64 t, .int .i64 k, .int .i64 u]).below hb1 (by simp)
  have hx1 := (hx.out.more hB).below hb
  replace hx1 := Lib.hid hx1
  replace hW := Lib.hid hW
  have y0 := hW.out.cell 0
  have y1 := hW.out.cell 1
  have y2 := hW.out.cell 2
  simp at y0 y1 y2
  go_upto_region 5 with fail
  go_cut [6] from 7 to 21 (fun v6 wx => wx.ownsRow w1.heap.size 25 3 v6 (n + 1) (X.map (Value.int .i64)) ∧ Below w1.heap.size w1 wx)
  case first =>
    have hxA : ∀ ob, Ints (w1.alloc ob) w.heap.size (some ⟨b, o, none⟩) (n * 3) xs := fun ob => hx1.out.below ((Below.refl w.heap.size w1).alloc (by omega) ob)
    have hWA : Whole (w1.alloc (.cells #[.int .i64 t, .int .i64 k, .int .i64 u] 25)) w1.heap.size 25 #[.int .i64 t, .int .i64 k, .int .i64 u] := Whole.new _ _ _
    have hlA : w1.heap.size < (w1.alloc (.cells #[.int .i64 t, .int .i64 k, .int .i64 u] 25)).heap.size := by simp
    replace hxA := Lib.hid hxA
    replace hWA := Lib.hid hWA
    replace hlA := Lib.hid hlA
    go_region_law (first
      | (refine step_append_own rfl (.tmp 14) (.tmp 16) 30 rfl w1.heap.size 25 i0 _ 3 24 Tryd.underlying30 hi.out hz0'.out hz1'.out hz2'.out rfl (by decide) _ n _ (by rfl) (by first | exact hown | exact hown.alloc _) _ 1 1 [.int .i64 t, .int .i64 k, .int .i64 u] (by rfl) rfl (by first | exact news_whole ((hb3.block w1.heap.size hlA.out).trans hWA.out) | exact news_whole (Whole.new w3 25 #[.int .i64 t, .int .i64 k, .int .i64 u])) (by simp [Value.oneCell']) (by simp only [maxLen]; omega) (by omega) (by first | exact hz3 | (simp; omega)) ?_; intro v' w4 hown4 hg4)
      | (go_simp; go_at_call 28; refine (clone_any _ _ _ _ w.heap.size _ _ (by first | exact hx1.out | exact hxA.out _) (by first | exact Nat.le_of_lt hsl | exact Nat.le_trans (Nat.le_of_lt hsl) (Nat.le_of_lt hlA.out)) hn20).mono ?_; rintro e w3 ⟨v, rfl, hownC, hb3⟩; have hown := own_base (b := w1.heap.size) hownC (by first | exact Nat.le_refl _ | exact Nat.le_of_lt hlA.out); have hbW : Below w1.heap.size w1 w3 := (by first | exact hb3 | exact (Below.refl _ _).drew.trans hb3 | exact ((Below.refl _ w1).alloc (Nat.le_refl _) _).trans (hb3.mono (Nat.le_of_lt hlA.out)) | exact ((Below.refl _ w1).alloc (Nat.le_refl _) _).drew.trans (hb3.mono (Nat.le_of_lt hlA.out)) | exact ((Below.refl _ w1).drew.alloc (Nat.le_refl _) _).trans (hb3.mono (Nat.le_of_lt hlA.out))); have hz3 : w1.heap.size ≤ w3.heap.size := (by first | exact hb3.size | exact Nat.le_trans (Nat.le_of_lt hlA.out) hb3.size); have y0' : w3.cell? ⟨w.heap.size, 0, none⟩ = some (.int .i64 t) := (by first | exact (hb3.cell (p := ⟨w.heap.size, 0, none⟩) hsl).trans y0 | exact (hb3.cell (p := ⟨w.heap.size, 0, none⟩) (Nat.lt_trans hsl hlA.out)).trans ((World.cell?_alloc_lt _ _ _ hsl).trans y0)); have y1' : w3.cell? ⟨w.heap.size, 1, none⟩ = some (.int .i64 k) := (by first | exact (hb3.cell (p := ⟨w.heap.size, 1, none⟩) hsl).trans y1 | exact (hb3.cell (p := ⟨w.heap.size, 1, none⟩) (Nat.lt_trans hsl hlA.out)).trans ((World.cell?_alloc_lt _ _ _ hsl).trans y1)); have y2' : w3.cell? ⟨w.heap.size, 2, none⟩ = some (.int .i64 u) := (by first | exact (hb3.cell (p := ⟨w.heap.size, 2, none⟩) hsl).trans y2 | exact (hb3.cell (p := ⟨w.heap.size, 2, none⟩) (Nat.lt_trans hsl hlA.out)).trans ((World.cell?_alloc_lt _ _ _ hsl).trans y2))))
    all_goals (go_wp2_with fail; go_meet)
    all_goals
      refine ⟨?_, ?_⟩
      · rw [hX.out]
        simp only [List.map_append, List.map_map]
        exact hown4
      · first
          | exact hbW.trans (below_only hg4 hz3 (fun k hk => (hown.lt k hk).1))
          | exact (hbW.alloc hz3 _).trans (below_only hg4 (by simp; omega) (fun k hk => (hown.lt k hk).1))
          | exact hbW.drew.trans (below_only hg4 hz3 (fun k hk => (hown.lt k hk).1))
          | exact (hbW.drew.alloc hz3 _).trans (below_only hg4 (by simp; omega) (fun k hk => (hown.lt k hk).1))
          | exact (hbW.alloc hz3 _).drew.trans (below_only hg4 (by simp; omega) (fun k hk => (hown.lt k hk).1))
  case rest =>
    obtain ⟨hown, hbx⟩ := hcut
    obtain ⟨A', c', rfl, _, _⟩ := own_form hown
    have hI := (Row.of_own hown (N := (n + 1) * 3) rfl)
    obtain ⟨gg, _, _, hRow⟩ := hI
    have hIn := hRow.ints
    replace hIn := Lib.hid hIn
    have hzx := hbx.size
    clear y0 y1 y2
    cases v with
    | false =>
      have hco : co = 5 := by rw [← hC.out]; simp
      subst hco
      have hL2 := hL.out
      have hK2 := hK.out
      rw [if_neg (by omega)] at hL2 hK2
      subst hL2
      subst hK2
      go_wp2_with fail
      refine (isHistory_v _ _ _ _ _ _ false h3 hIn.out (Nat.le_refl _) (by omega)).mono ?_
      rintro e w4 ⟨rfl, hb4⟩
      go_wp2
      go_ret2
      exact gave_nil (hb.trans ((hbx.mono (by omega)).trans (hb4.mono (by omega))))
    | true =>
      have hco : co = 0 := by rw [← hC.out]; simp
      subst hco
      have hL2 := hL.out
      have hK2 := hK.out
      rw [if_pos rfl] at hL2 hK2
      subst hL2
      subst hK2
      go_wp2_with fail
      refine (isHistory_v _ _ _ _ _ _ true h3 hIn.out (Nat.le_refl _) (by omega)).mono ?_
      rintro e w4 ⟨rfl, hb4⟩
      have ho4 := own_below hown hb4
      go_wp2
      go_ret2
      exact ⟨_, _, rfl, by omega, own_base ho4 (by omega), hb.trans ((hbx.mono (by omega)).trans (hb4.mono (by omega)))⟩

theorem sIsHistory_v (A : Option Addr) (n c B : Nat) (xs : Nat → Int) (w : World) (v : Bool) (hv : Hid (hisB n xs = v)) (hx : Ints w B A (n * 3) xs) (hB : B ≤ w.heap.size) (hn : n ≤ 9223372036854775807) :
    Calls Tryd.prog 14 #[.slice A n c] w fun e w' => e = .returned (.bool v) ∧ Below w.heap.size w w' := by
  rw [← hv.out]; exact sIsHistory_any A n c B xs w hx hB hn
set_option maxRecDepth 100000 in
set_option maxHeartbeats 8000000 in
theorem sAddRuling_any (b o n c B : Nat) (xs : Nat → Int) (t k u : Int) (w : World) (hx : Ints w B (some ⟨b, o, none⟩) (n * 3) xs) (hB : B ≤ w.heap.size) (hn : n ≤ 9223372036854775807) :
    Calls Tryd.prog 11 #[.slice (some ⟨b, o, none⟩) n c, .agg #[.int .i64 t, .int .i64 k, .int .i64 u]] w fun e w' => Gave 25 3 (addK n xs t k u) w w' e (addL n xs t k u) (addC n xs t k u) := by
  generalize hC : addC n xs t k u = co
  have hL : addL n xs t k u = if co = 0 then addX n xs t k u else [] := by rw [← hC]; rfl
  have hK : addK n xs t k u = if co = 0 then n + 1 else 0 := by rw [← hC]; rfl
  generalize addL n xs t k u = L0 at hL ⊢
  generalize addK n xs t k u = K0 at hK ⊢
  unfold addC at hC
  have hxa := (hx.more hB).below ((Below.refl w.heap.size w).alloc (Nat.le_refl _) (.cells #[.int .i64 t, .int .i64 k, .int .i64 u] 25))
  replace hx := Lib.hid hx
  replace hxa := Lib.hid hxa
  cases h1 : hisB n xs with
  | false =>
    rw [h1, if_neg (by simp)] at hC
    subst hC
    rw [if_neg (by omega)] at hL hK
    subst hL
    subst hK
    replace h1 := Lib.hid h1
    go_enter Tryd.func11, Tryd.ntmps11
    go_wp2_with fail
    refine (sIsHistory_v _ _ _ _ _ _ false h1 hxa.out (by simp) hn).mono ?_
    rintro e w1 ⟨rfl, hb1⟩
    go_wp2
    go_ret2
    exact gave_nil (((Below.refl _ _).alloc (Nat.le_refl _) _).trans (hb1.mono (by simp)))
  | true =>
  have hn20 := hisB_le h1
  rw [h1, if_pos rfl] at hC
  replace h1 := Lib.hid h1
  by_cases h2 : n = 20
  · subst h2
    rw [if_pos rfl] at hC
    subst hC
    rw [if_neg (by omega)] at hL hK
    subst hL
    subst hK
    go_enter Tryd.func11, Tryd.ntmps11
    go_wp2_with fail
    refine (sIsHistory_v _ _ _ _ _ _ true h1 hxa.out (by simp) hn).mono ?_
    rintro e w1 ⟨rfl, hb1⟩
    go_wp2
    go_ret2
    exact gave_nil (((Below.refl _ _).alloc (Nat.le_refl _) _).trans (hb1.mono (by simp)))
  rw [if_neg h2] at hC
  have h2' : ((n : Int) == 20) = false := by simp; omega
  obtain ⟨i0, hi, hz0', hz1', hz2'⟩ := info_parts infoAppealRuling
  replace hi := Lib.hid hi
  replace hz0' := Lib.hid hz0'
  replace hz1' := Lib.hid hz1'
  replace hz2' := Lib.hid hz2'
  generalize h3 : hisB (n + 1) (fun j => (addX n xs t k u).getD j 0) = v at hC
  have hX : addX n xs t k u = (List.range (n * 3)).map xs ++ [t, k, u] := rfl
  have hXl : (addX n xs t k u).length = (n + 1) * 3 := by rw [hX]; simp; omega
  generalize addX n xs t k u = X at h3 hL hX hXl
  replace h3 := Lib.hid h3
  replace hL := Lib.hid hL
  replace hK := Lib.hid hK
  replace hC := Lib.hid hC
  replace hX := Lib.hid hX
  replace hXl := Lib.hid hXl
  clear h2
  go_enter Tryd.func11, Tryd.ntmps11
  go_wp2_with fail
  refine (sIsHistory_v _ _ _ _ _ _ true h1 hxa.out (by simp) hn).mono ?_
  rintro e w1 ⟨rfl, hb1⟩
  have hz1 := hb1.size
  simp only [World.size_alloc] at hz1
  have hsl : w.heap.size < w1.heap.size := by omega
  have hb : Below w.heap.size w w1 := ((Below.refl _ _).alloc (Nat.le_refl _) _).trans (hb1.mono (by simp))
  have hW := (Whole.new w 25 #[.int .i64 t, .int .i64 k, .int .i64 u]).below hb1 (by simp)
  have hx1 := (hx.out.more hB).below hb
  replace hx1 := Lib.hid hx1
  replace hW := Lib.hid hW
  have y0 := hW.out.cell 0
  have y1 := hW.out.cell 1
  have y2 := hW.out.cell 2
  simp at y0 y1 y2
  go_upto_region 5 with fail
  go_cut [6] from 7 to 22 (fun v6 wx => wx.ownsRow w1.heap.size 25 3 v6 (n + 1) (X.map (Value.int .i64)) ∧ Below w1.heap.size w1 wx)
  case first =>
    have bA : Below w1.heap.size w1 (w1.alloc (.cells #[] 25)) := (Below.refl _ w1).alloc (Nat.le_refl _) _
    have bB : Below w1.heap.size w1 (((w1.alloc (.cells #[] 25))).alloc (.cells #[.int .i64 t, .int .i64 k, .int .i64 u] 25)) := bA.alloc bA.size _
    have bC : Below w1.heap.size w1 ((w1.alloc (.cells #[.int .i64 t, .int .i64 k, .int .i64 u] 25)).alloc (.cells #[] 25)) := ((Below.refl _ w1).alloc (Nat.le_refl _) _).alloc (by simp) _
    have oA : ((w1.alloc (.cells #[] 25))).ownsRow w1.heap.size 25 3 (.slice (some ⟨w1.heap.size, 0, none⟩) 0 0) 0 [] := own_empty (Whole.new w1 25 #[]) (Nat.le_refl _)
    have oB : ((((w1.alloc (.cells #[] 25))).alloc (.cells #[.int .i64 t, .int .i64 k, .int .i64 u] 25))).ownsRow w1.heap.size 25 3 (.slice (some ⟨w1.heap.size, 0, none⟩) 0 0) 0 [] := oA.alloc _
    have eC := Whole.new (w1.alloc (.cells #[.int .i64 t, .int .i64 k, .int .i64 u] 25)) 25 #[]
    simp only [World.size_alloc] at eC
    have oC : (((w1.alloc (.cells #[.int .i64 t, .int .i64 k, .int .i64 u] 25)).alloc (.cells #[] 25))).ownsRow w1.heap.size 25 3 (.slice (some ⟨w1.heap.size + 1, 0, none⟩) 0 0) 0 [] := own_empty eC (Nat.le_succ _)
    have XB := Whole.new (w1.alloc (.cells #[] 25)) 25 #[.int .i64 t, .int .i64 k, .int .i64 u]
    simp only [World.size_alloc] at XB
    have XC : Whole ((w1.alloc (.cells #[.int .i64 t, .int .i64 k, .int .i64 u] 25)).alloc (.cells #[] 25)) w1.heap.size 25 #[.int .i64 t, .int .i64 k, .int .i64 u] := (Whole.new w1 25 #[.int .i64 t, .int .i64 k, .int .i64 u]).alloc _
    have sA : w1.heap.size < ((w1.alloc (.cells #[] 25))).heap.size := by simp
    have sB : w1.heap.size + 1 < ((((w1.alloc (.cells #[] 25))).alloc (.cells #[.int .i64 t, .int .i64 k, .int .i64 u] 25))).heap.size := by simp
    have sC : w1.heap.size + 1 < (((w1.alloc (.cells #[.int .i64 t, .int .i64 k, .int .i64 u] 25)).alloc (.cells #[] 25))).heap.size := by simp
    have hxN : ∀ W, Below w1.heap.size w1 W → Ints W w.heap.size (some ⟨b, o, none⟩) (n * 3) xs := fun W hW => hx1.out.below (hW.mono (Nat.le_of_lt hsl))
    have iA := news_ints (hxN _ bA)
    have iB := news_ints (hxN _ bB)
    have iC := news_ints (hxN _ bC)
    replace bA := Lib.hid bA
    replace bB := Lib.hid bB
    replace bC := Lib.hid bC
    replace oA := Lib.hid oA
    replace oB := Lib.hid oB
    replace oC := Lib.hid oC
    replace XB := Lib.hid XB
    replace XC := Lib.hid XC
    replace sA := Lib.hid sA
    replace sB := Lib.hid sB
    replace sC := Lib.hid sC
    replace iA := Lib.hid iA
    replace iB := Lib.hid iB
    replace iC := Lib.hid iC
    clear hxN eC
    go_region_law (first
      | (refine step_append_own rfl (.tmp 13) (.tmp 14) 30 rfl w1.heap.size 25 i0 _ 3 24 Tryd.underlying30 hi.out hz0'.out hz1'.out hz2'.out rfl (by decide) _ 0 [] (by rfl) (by first | exact oA.out | exact oB.out | exact oC.out) ⟨b, o, none⟩ n c ((List.range (n * 3)).map (fun j => Value.int .i64 (xs j))) (by rfl) (by simp) (by first | exact iA.out | exact iB.out | exact iC.out) (one_ints _ _) (by simp only [maxLen]; omega) (by omega) (by first | exact Nat.le_of_lt sA.out | exact Nat.le_of_lt (Nat.lt_trans (Nat.lt_succ_self _) sB.out) | exact Nat.le_of_lt (Nat.lt_trans (Nat.lt_succ_self _) sC.out)) ?_; intro v' w4 hown4 hg4; (first | (have hg5 : World.grownBy _ w4 (some w1.heap.size) := hg4) | (have hg5 : World.grownBy _ w4 (some (w1.heap.size + 1)) := hg4)); have hbW : Below w1.heap.size w1 w4 := (by first | exact bA.out.trans (below_only hg5 (Nat.le_of_lt (by first | exact sA.out | exact Nat.lt_trans (Nat.lt_succ_self _) sA.out)) (fun k hk => by injection hk with hk; omega)) | exact bA.out.drew.trans (below_only hg5 (Nat.le_of_lt (by first | exact sA.out | exact Nat.lt_trans (Nat.lt_succ_self _) sA.out)) (fun k hk => by injection hk with hk; omega)) | exact bB.out.trans (below_only hg5 (Nat.le_of_lt (by first | exact sB.out | exact Nat.lt_trans (Nat.lt_succ_self _) sB.out)) (fun k hk => by injection hk with hk; omega)) | exact bB.out.drew.trans (below_only hg5 (Nat.le_of_lt (by first | exact sB.out | exact Nat.lt_trans (Nat.lt_succ_self _) sB.out)) (fun k hk => by injection hk with hk; omega)) | exact bC.out.trans (below_only hg5 (Nat.le_of_lt (by first | exact sC.out | exact Nat.lt_trans (Nat.lt_succ_self _) sC.out)) (fun k hk => by injection hk with hk; omega)) | exact bC.out.drew.trans (below_only hg5 (Nat.le_of_lt (by first | exact sC.out | exact Nat.lt_trans (Nat.lt_succ_self _) sC.out)) (fun k hk => by injection hk with hk; omega))); have hown : w4.ownsRow w1.heap.size 25 3 v' n ((List.range (n * 3)).map (fun j => Value.int .i64 (xs j))) := (by simpa using hown4); have y0' : w4.cell? ⟨w.heap.size, 0, none⟩ = some (.int .i64 t) := (hbW.cell (p := ⟨w.heap.size, 0, none⟩) hsl).trans y0; have y1' : w4.cell? ⟨w.heap.size, 1, none⟩ = some (.int .i64 k) := (hbW.cell (p := ⟨w.heap.size, 1, none⟩) hsl).trans y1; have y2' : w4.cell? ⟨w.heap.size, 2, none⟩ = some (.int .i64 u) := (hbW.cell (p := ⟨w.heap.size, 2, none⟩) hsl).trans y2; have hz4 : w1.heap.size ≤ w4.heap.size := hbW.size; first | (have hX4 : Whole w4 (w1.heap.size + 1) 25 #[.int .i64 t, .int .i64 k, .int .i64 u] := (hg5.block (w1.heap.size + 1) sB.out (fun e => by injection e with e; omega)).trans XB.out) | (have hX4 : Whole w4 w1.heap.size 25 #[.int .i64 t, .int .i64 k, .int .i64 u] := (hg5.block w1.heap.size (Nat.lt_trans (Nat.lt_succ_self _) sC.out) (fun e => by injection e with e; omega)).trans XC.out) | skip)
      | (refine step_append_own rfl (.tmp 15) (.tmp 17) 30 rfl w1.heap.size 25 i0 _ 3 24 Tryd.underlying30 hi.out hz0'.out hz1'.out hz2'.out rfl (by decide) _ n _ (by rfl) (by first | exact hown | exact hown.alloc _) _ 1 1 [.int .i64 t, .int .i64 k, .int .i64 u] (by rfl) rfl (by first | exact news_whole hX4 | exact news_whole (Whole.new w4 25 #[.int .i64 t, .int .i64 k, .int .i64 u])) (by simp [Value.oneCell']) (by simp only [maxLen]; omega) (by omega) (by first | exact hz4 | (simp; omega)) ?_; intro v2 w5 hown6 hg6))
    all_goals (go_wp2_with fail; go_meet)
    all_goals
      refine ⟨?_, ?_⟩
      · rw [hX.out]
        simp only [List.map_append, List.map_map]
        exact hown6
      · first
          | exact hbW.trans (below_only hg6 hz4 (fun k hk => (hown.lt k hk).1))
          | exact (hbW.alloc hz4 _).trans (below_only hg6 (by simp; omega) (fun k hk => (hown.lt k hk).1))
          | exact hbW.drew.trans (below_only hg6 hz4 (fun k hk => (hown.lt k hk).1))
          | exact (hbW.drew.alloc hz4 _).trans (below_only hg6 (by simp; omega) (fun k hk => (hown.lt k hk).1))
          | exact (hbW.alloc hz4 _).drew.trans (below_only hg6 (by simp; omega) (fun k hk => (hown.lt k hk).1))
  case rest =>
    obtain ⟨hown, hbx⟩ := hcut
    obtain ⟨A', c', rfl, _, _⟩ := own_form hown
    have hI := (Row.of_own hown (N := (n + 1) * 3) rfl)
    obtain ⟨gg, _, _, hRow⟩ := hI
    have hIn := hRow.ints
    replace hIn := Lib.hid hIn
    have hzx := hbx.size
    clear y0 y1 y2
    cases v with
    | false =>
      have hco : co = 5 := by rw [← hC.out]; simp
      subst hco
      have hL2 := hL.out
      have hK2 := hK.out
      rw [if_neg (by omega)] at hL2 hK2
      subst hL2
      subst hK2
      go_wp2_with fail
      refine (sIsHistory_v _ _ _ _ _ _ false h3 hIn.out (Nat.le_refl _) (by omega)).mono ?_
      rintro e w4 ⟨rfl, hb4⟩
      go_wp2
      go_ret2
      exact gave_nil (hb.trans ((hbx.mono (by omega)).trans (hb4.mono (by omega))))
    | true =>
      have hco : co = 0 := by rw [← hC.out]; simp
      subst hco
      have hL2 := hL.out
      have hK2 := hK.out
      rw [if_pos rfl] at hL2 hK2
      subst hL2
      subst hK2
      go_wp2_with fail
      refine (sIsHistory_v _ _ _ _ _ _ true h3 hIn.out (Nat.le_refl _) (by omega)).mono ?_
      rintro e w4 ⟨rfl, hb4⟩
      have ho4 := own_below hown hb4
      go_wp2
      go_ret2
      exact ⟨_, _, rfl, by omega, own_base ho4 (by omega), hb.trans ((hbx.mono (by omega)).trans (hb4.mono (by omega)))⟩

theorem addRuling_val (b o n c B : Nat) (xs : Nat → Int) (t k u : Int) (w : World) (K : Nat) (L : List Int) (co : Int) (hL : Hid (addL n xs t k u = L)) (hc : Hid (addC n xs t k u = co)) (hK : Hid (addK n xs t k u = K)) (hx : Ints w B (some ⟨b, o, none⟩) (n * 3) xs) (hB : B ≤ w.heap.size) (hn : n ≤ 9223372036854775807) :
    Calls Tryd.prog 10 #[.slice (some ⟨b, o, none⟩) n c, .agg #[.int .i64 t, .int .i64 k, .int .i64 u]] w fun e w' => Gave 25 3 K w w' e L co := by
  rw [← hL.out, ← hc.out, ← hK.out]
  exact addRuling_any b o n c B xs t k u w hx hB hn
theorem sAddRuling_val (b o n c B : Nat) (xs : Nat → Int) (t k u : Int) (w : World) (K : Nat) (L : List Int) (co : Int) (hL : Hid (addL n xs t k u = L)) (hc : Hid (addC n xs t k u = co)) (hK : Hid (addK n xs t k u = K)) (hx : Ints w B (some ⟨b, o, none⟩) (n * 3) xs) (hB : B ≤ w.heap.size) (hn : n ≤ 9223372036854775807) :
    Calls Tryd.prog 11 #[.slice (some ⟨b, o, none⟩) n c, .agg #[.int .i64 t, .int .i64 k, .int .i64 u]] w fun e w' => Gave 25 3 K w w' e L co := by
  rw [← hL.out, ← hc.out, ← hK.out]
  exact sAddRuling_any b o n c B xs t k u w hx hB hn
end Go.Proofs.YteacjoemlobmoaaDoor
