/- The order by corrected times: the program's. -/
import Derived.Test.YtbmclcajgplpnaaOrd2
import Derived.Test.YtbmclcajgplpnaaMInt64
set_option linter.unusedSimpArgs false
set_option linter.unusedVariables false
namespace Go.Proofs.Ytbmclcajgplpnaa
open Go.RowKit Go.Shelf

set_option maxRecDepth 100000 in
set_option maxHeartbeats 8000000 in
theorem sortedIndices_any (w : World) (n : Nat) (v : Int → Int) (q : Nat) (hn1 : 1 ≤ n) (hn : n ≤ 16) (hv : ∀ x : Int, 0 ≤ x → x < n → 0 ≤ v x ∧ v x ≤ 3000000000000) (h : Fn2OK w n v q) :
    Calls Try.prog 76 #[.int .i64 n, .func (.func 77) #[] #[.pointer (some ⟨q, 0, none⟩)]] w fun e w' => ∃ g c zs, e = .returned (.slice (some ⟨g, 0, none⟩) n c) ∧ n ≤ c ∧ c ≤ maxLen ∧ Ordd v n zs ∧ w'.ownsRow w.heap.size 2 1 (.slice (some ⟨g, 0, none⟩) n c) n (zs.map (Value.int .i64)) ∧ Below w.heap.size w w' := by
  obtain ⟨i0, hi, hz0', hz1', hz2'⟩ := info_parts infoInt64
  replace hi := Lib.hid hi
  replace hz0' := Lib.hid hz0'
  replace hz1' := Lib.hid hz1'
  replace hz2' := Lib.hid hz2'
  have hC := cmp_any w n v q hv h
  replace hC := Lib.hid hC
  have hbA : Below w.heap.size w (w.alloc (.cells #[.func (.func 77) #[] #[.pointer (some ⟨q, 0, none⟩)]] 67)) := (Below.refl _ _).alloc (Nat.le_refl _) _
  obtain ⟨w0, hw0⟩ : ∃ W, w.alloc (.cells #[.func (.func 77) #[] #[.pointer (some ⟨q, 0, none⟩)]] 67) = W := ⟨_, rfl⟩
  have hz0 : w0.heap.size = w.heap.size + 1 := by rw [← hw0]; simp
  rw [hw0] at hbA
  have hC2 : Hid (CmpOK w0.heap.size w0 n v w.heap.size) := Lib.hid (by rw [hz0, ← hw0]; exact hC.out)
  have hown0 : (w0.alloc (.cells #[] 2)).ownsRow w0.heap.size 2 1 (.slice (some ⟨w0.heap.size, 0, none⟩) 0 0) 0 ((rngL 0).map (Value.int .i64)) := own_empty (Whole.new _ _ _) (Nat.le_refl _)
  have hb0 : Below w0.heap.size w0 (w0.alloc (.cells #[] 2)) := (Below.refl _ _).alloc (Nat.le_refl _) _
  rw [← hw0] at hown0 hb0
  replace hown0 := Lib.hid hown0
  replace hb0 := Lib.hid hb0
  replace hw0 := Lib.hid hw0
  clear hC h hv
  go_enter Try.func76, Try.ntmps76
  go_wp2_with fail
  go_loopw [5, 6, 9] (fun v5 _ v9 wr => ∃ k : Nat, k ≤ n ∧ v9 = .int .i64 k ∧ wr.ownsRow w0.heap.size 2 1 v5 k ((rngL k).map (Value.int .i64)) ∧ Below w0.heap.size w0 wr) (fun _ _ v9 _ => (n - intOf v9).toNat)
  case atStart =>
    have h1 := hown0.out
    have h2 := hb0.out
    have h3 := hw0.out
    refine ⟨0, by omega, rfl, ?_, ?_⟩
    · rw [← h3]; simpa using h1
    · rw [← h3]; simpa using h2
  case round =>
    obtain ⟨k, hk, rfl, hown, hbel⟩ := hrel
    clear hown0 hb0
    have hsz := hbel.size
    obtain ⟨A5, c5, rfl, hnc, hcm⟩ := own_form hown
    by_cases hlt : k < n
    · have hlt' : (k : Int) < n := by omega
      have hnew := Whole.new wr 2 #[.int .i64 k]
      go_wp2_with (at_builtin; refine wpList_append_own_at _ rfl _ _ 39 rfl w0.heap.size 2 i0 _ 1 8 Try.underlying39 hi.out hz0'.out hz1'.out hz2'.out rfl (by decide) _ _ _ rfl (hown.alloc _) ⟨wr.heap.size, 0, none⟩ 1 1 [.int .i64 k] rfl rfl ?c1 ?c2 ?c3 ?c4 ?c5 ?_)
      case c1 =>
        intro j u hu
        rw [add_zero_off, hnew.cell]
        simpa using hu
      case c2 => simp [Value.oneCell']
      case c3 => simp only [maxLen]; omega
      case c4 => omega
      case c5 => simp; omega
      intro v' wy hown' hgrow _ hat
      have hb5 : Below w0.heap.size w0 (wr.alloc (.cells #[.int .i64 k] 2)) := hbel.alloc hsz _
      have hby : Below w0.heap.size w0 wy := hb5.trans (below_only hgrow hb5.size (fun q hq => (hown.lt q hq).1))
      have hoy : wy.ownsRow w0.heap.size 2 1 v' (k + 1) ((rngL (k + 1)).map (Value.int .i64)) := by rw [hz0]; simpa [rngL] using hown'
      clear hown' hgrow hat hown hbel hb5 hnew
      go_wp2
      go_roundw
      case rel => exact ⟨k + 1, by omega, by go_num, hoy, hby⟩
      case measure => simp [intOf]; omega
    · obtain rfl : k = n := by omega
      have hnlt : ¬ ((k : Int) < k) := by omega
      obtain ⟨g, cap, cur, hv, -⟩ := own_open hown (by omega)
      injection hv with hv1 _ hv3
      subst hv1
      subst hv3
      go_wp2_with fail
      refine (sortStable_any v w0.heap.size w0 w.heap.size g k c5 wr hn hC2.out hbel (Nat.le_refl _) hown).mono ?_
      rintro e w3 ⟨rfl, zs, hord, hown3, hb3⟩
      clear hown hbel
      go_wp2
      go_ret
      exact ⟨g, c5, zs, rfl, hnc, hcm, hord, own_base hown3 (by omega), hbA.trans (hb3.mono (by omega))⟩
set_option maxRecDepth 100000 in
set_option maxHeartbeats 8000000 in
theorem finishedBoats_any (w : World) (A : Option Addr) (n c B : Nat) (xs : Nat → Int) (v : Int → Int) (pl pr : Nat) (hn1 : 1 ≤ n) (hn : n ≤ 16) (hx : Ints w B A (n * 3) xs) (hB : B ≤ w.heap.size) (hv : ∀ x : Int, 0 ≤ x → x < n → 0 ≤ v x ∧ v x ≤ 3000000000000) (h : Fn1OK w n v pl pr) (K : Nat) (L : List Int) (hL : Hid (ordF v (fun k => xs (k.toNat * 3 + 1) == 0) n = L)) (hK : Hid (L.length = K)) :
    Calls Try.prog 66 #[.slice A n c, .func (.func 67) #[] #[.pointer (some ⟨pl, 0, none⟩), .pointer (some ⟨pr, 0, none⟩)]] w fun e w' => ∃ A' c', e = .returned (.slice A' K c') ∧ K ≤ 100000 ∧ w'.ownsRow w.heap.size 2 1 (.slice A' K c') K (L.map (Value.int .i64)) ∧ Below w.heap.size w w' := by
  obtain ⟨i0, hi, hz0', hz1', hz2'⟩ := info_parts infoInt64
  replace hi := Lib.hid hi
  replace hz0' := Lib.hid hz0'
  replace hz1' := Lib.hid hz1'
  replace hz2' := Lib.hid hz2'
  obtain ⟨b, off, rfl, hadB, hcode⟩ := hx (by omega)
  replace hcode := Lib.hid hcode
  have hF := fn2_any w n v pl pr hv h
  have hbA : Below w.heap.size w (w.alloc (.cells #[.func (.func 67) #[] #[.pointer (some ⟨pl, 0, none⟩), .pointer (some ⟨pr, 0, none⟩)]] 81)) := (Below.refl _ _).alloc (Nat.le_refl _) _
  have hbA2 := hbA.alloc (by simp) (.cells #[] 2)
  have hown0 : ((w.alloc (.cells #[.func (.func 67) #[] #[.pointer (some ⟨pl, 0, none⟩), .pointer (some ⟨pr, 0, none⟩)]] 81)).alloc (.cells #[] 2)).ownsRow w.heap.size 2 1 (.slice (some ⟨w.heap.size + 1, 0, none⟩) 0 0) 0 (([] : List Int).map (Value.int .i64)) := by
    have := own_empty (base := w.heap.size) (size := 1) (Whole.new (w.alloc (.cells #[.func (.func 67) #[] #[.pointer (some ⟨pl, 0, none⟩), .pointer (some ⟨pr, 0, none⟩)]] 81)) 2 #[]) (by simp)
    simpa using this
  have hF2 : Fn2OK ((w.alloc (.cells #[.func (.func 67) #[] #[.pointer (some ⟨pl, 0, none⟩), .pointer (some ⟨pr, 0, none⟩)]] 81)).alloc (.cells #[] 2)) n v w.heap.size := by
    intro x y x0 x1 y0 y1 W hb
    refine hF x y x0 x1 y0 y1 W ?_
    exact ((Below.refl _ _).alloc (Nat.le_refl _) _).trans (hb.mono (by simp))
  replace hF2 := Lib.hid hF2
  replace hown0 := Lib.hid hown0
  replace hbA2 := Lib.hid hbA2
  clear hF hbA h hx
  go_enter Try.func66, Try.ntmps66
  go_wp2_with fail
  have hF2 := hF2.out
  have hown0 := hown0.out
  have hbA2 := hbA2.out
  obtain ⟨w1, hw1⟩ : ∃ W, (w.alloc (.cells #[.func (.func 67) #[] #[.pointer (some ⟨pl, 0, none⟩), .pointer (some ⟨pr, 0, none⟩)]] 81)).alloc (.cells #[] 2) = W := ⟨_, rfl⟩
  have hs1 : w1.heap.size = w.heap.size + 2 := by rw [← hw1]; simp
  rw [hw1] at hF2 hown0 hbA2 ⊢
  clear hw1
  refine (sortedIndices_any w1 n v w.heap.size hn1 hn hv hF2).mono ?_
  rintro e w2 ⟨g, cs, zs, rfl, hgc, hgm, hord, hgo, hb2⟩
  have hbb := hbA2.trans (hb2.mono hbA2.size)
  have hzz := hbb.size
  have hzw1 := hbA2.size
  have hz12 := hb2.size
  have hown2 := own_below hown0 hb2
  have hfil := Lib.hid (ord_law (p := fun k : Int => xs (k.toNat * 3 + 1) == 0) hord)
  obtain ⟨g', cap, cur, hv', hgb, hW, -, -, -, hcur⟩ := own_open hgo (by omega)
  injection hv' with hv1 _ hv3
  injection hv1 with hv1
  injection hv1 with hv1
  subst hv1
  subst hv3
  obtain ⟨hzl, hcs⟩ := cells_of hgo
  have hcell : Hid (∀ i, i < n → w2.cell? ⟨g, i, none⟩ = some (.int .i64 (zs.getD i 0))) := Lib.hid (fun i hi => (hW.cell i).trans (hcur _ _ (hcs _ (by omega))))
  have hmem : Hid (∀ i, i < n → 0 ≤ zs.getD i 0 ∧ zs.getD i 0 < n) := Lib.hid (fun i hi => by
    have hl : i < zs.length := by omega
    have := (hord.2.2 (zs.getD i 0)).1 (by rw [List.getD_eq_getElem?_getD, List.getElem?_eq_getElem hl]; exact List.getElem_mem _)
    exact this)
  have htk : Hid (∀ i, i < n → (zs.take (i + 1)).filter (fun k : Int => xs (k.toNat * 3 + 1) == 0) = if xs ((zs.getD i 0).toNat * 3 + 1) = 0 then (zs.take i).filter (fun k : Int => xs (k.toNat * 3 + 1) == 0) ++ [zs.getD i 0] else (zs.take i).filter (fun k : Int => xs (k.toNat * 3 + 1) == 0)) := Lib.hid (fun i hi => by
    have hl : i < zs.length := by omega
    rw [List.take_add_one, List.getElem?_eq_getElem hl, List.filter_append]
    have e : zs.getD i 0 = zs[i] := by rw [List.getD_eq_getElem?_getD, List.getElem?_eq_getElem hl]; rfl
    rw [e]
    by_cases h : xs (zs[i].toNat * 3 + 1) = 0
    · rw [if_pos h]; simp [h]
    · rw [if_neg h]; simp [h])
  have hgl := hW.lt
  have htn : Hid (zs.take n = zs) := Lib.hid (List.take_of_length_le (by omega))
  obtain ⟨P, hP⟩ : ∃ P : Int → Bool, (fun k : Int => xs (k.toNat * 3 + 1) == 0) = P := ⟨_, rfl⟩
  rw [hP] at hL hfil htk
  clear hP
  clear hgo hown0 hb2 hbA2 hF2 hW hcur hcs hord
  go_wp2_with fail
  go_loopw [5, 7, 14] (fun v5 _ v14 wr => ∃ (i nz : Nat) (ys : List Int), i ≤ n ∧ v14 = .int .i64 i ∧ Hid (ys = (zs.take i).filter P) ∧ nz ≤ i ∧ wr.ownsRow w.heap.size 2 1 v5 nz (ys.map (Value.int .i64)) ∧ wr.heap.size ≥ w2.heap.size ∧ (∀ j, j < n → wr.cell? ⟨g, j, none⟩ = some (.int .i64 (zs.getD j 0))) ∧ Below w.heap.size w wr ∧ (∀ k, v5.ownBlock = some k → k ≠ g)) (fun _ _ v14 _ => (n - intOf v14).toNat)
  case atStart => exact ⟨0, 0, [], by omega, rfl, Lib.hid (by simp), Nat.le_refl _, hown2, Nat.le_refl _, hcell.out, hbb, fun k hk => by simp [Value.ownBlock] at hk; omega⟩
  case round =>
    obtain ⟨i, nz, ys, hin, rfl, hys, hnz, hown, hsz, hcr, hbel, hne⟩ := hrel
    clear hown2 hbb hcell
    obtain ⟨A5, c5, rfl, hnc, hcm⟩ := own_form hown
    have hbz := hbel.size
    by_cases hlt : i < n
    · have hlt' : (i : Int) < n := by omega
      have ci := hcr i hlt
      obtain ⟨z0, z1⟩ := hmem.out i hlt
      have hstep := htk.out i hlt
      rw [← hys.out] at hstep
      obtain ⟨z, hz⟩ : ∃ z, zs.getD i 0 = z := ⟨_, rfl⟩
      rw [hz] at ci z0 z1 hstep
      obtain ⟨κ, rfl⟩ : ∃ κ : Nat, z = κ := ⟨z.toNat, by omega⟩
      rw [Int.toNat_natCast] at hstep
      have hκ : (κ : Int) < n := z1
      have g1 : wr.cell? ⟨b, off + κ * 3 + 1, none⟩ = some (.int .i64 (xs (κ * 3 + 1))) := by rw [hbel.cell (by simp; omega)]; exact hcode.out (κ * 3 + 1) (by omega)
      replace hcr := Lib.hid hcr
      replace hne := Lib.hid hne
      by_cases h0 : xs (κ * 3 + 1) = 0
      · rw [if_pos h0] at hstep
        rw [h0] at g1
        replace hstep := Lib.hid hstep.symm
        have hnew := Whole.new wr 2 #[.int .i64 κ]
        go_wp2_with (at_builtin; refine wpList_append_own_at _ rfl _ _ 39 rfl w.heap.size 2 i0 _ 1 8 Try.underlying39 hi.out hz0'.out hz1'.out hz2'.out rfl (by decide) _ _ _ rfl (hown.alloc _) ⟨wr.heap.size, 0, none⟩ 1 1 [.int .i64 κ] rfl rfl ?c1 ?c2 ?c3 ?c4 ?c5 ?_)
        case c1 =>
          intro j u hu
          rw [add_zero_off, hnew.cell]
          simpa using hu
        case c2 => simp [Value.oneCell']
        case c3 => simp only [maxLen]; omega
        case c4 => omega
        case c5 => simp; omega
        intro v' wy hown' hgrow _ hat
        have hb5 : Below w.heap.size w (wr.alloc (.cells #[.int .i64 κ] 2)) := hbel.alloc hbz _
        have hby : Below w.heap.size w wy := hb5.trans (below_only hgrow hb5.size (fun q hq => (hown.lt q hq).1))
        have hoy : wy.ownsRow w.heap.size 2 1 v' (nz + 1) ((ys ++ [(κ : Int)]).map (Value.int .i64)) := by simpa using hown'
        have hsy : wy.heap.size ≥ w2.heap.size := by have := hgrow.size; simp at this; omega
        have hcy : ∀ j, j < n → wy.cell? ⟨g, j, none⟩ = some (.int .i64 (zs.getD j 0)) := fun j hj => by
          rw [World.cell?_of_block (hgrow.block g (by simp; omega) (fun e => hne.out g e.symm rfl)), World.cell?_alloc_lt _ _ _ (by show g < _; omega)]
          exact hcr.out j hj
        have hney : ∀ k, v'.ownBlock = some k → k ≠ g := fun k hk => by
          rcases hat with h | h
          · exact hne.out k (h ▸ hk)
          · rw [h] at hk
            injection hk with hk
            first | omega | (simp at hk; omega)
        replace hcy := Lib.hid hcy
        replace hney := Lib.hid hney
        clear hown' hgrow hat hown hbel hb5 hnew hcr hne
        go_wp2
        go_roundw
        case rel => exact ⟨i + 1, nz + 1, _, by omega, by go_num, hstep, by omega, hoy, hsy, hcy.out, hby, hney.out⟩
        case measure => simp [intOf]; omega
      · rw [if_neg h0] at hstep
        have hstep2 := Lib.hid hstep.symm
        clear hstep
        have hb0 : (xs (κ * 3 + 1) == 0) = false := by rw [beq_eq_false_iff_ne]; exact h0
        generalize xs (κ * 3 + 1) = cz at g1 hb0
        clear h0
        go_wp2
        go_roundw
        case rel => exact ⟨i + 1, nz, ys, by omega, by go_num, hstep2, by omega, hown, hsz, hcr.out, hbel, hne.out⟩
        case measure => simp [intOf]; omega
    · obtain rfl : i = n := by omega
      have hnlt : ¬ ((i : Int) < i) := by omega
      have hyL : ys = L := by rw [hys.out, htn.out, hfil.out, hL.out]
      subst hyL
      have hKn : K = nz := by rw [← hK.out]; have := (cells_of hown).1; omega
      subst hKn
      go_wp2
      go_ret
      exact ⟨A5, c5, rfl, by omega, hown, hbel⟩
/-- The corrected time, unscaled. -/
def vF (xs ys : Nat → Int) (k : Int) : Int := xs (k.toNat * 3 + 2) * ys (k.toNat * 2 + 1)
def coL (m : Int) (n : Nat) (xs : Nat → Int) (n2 : Nat) (ys : Nat → Int) : List Int := if codF m n xs n2 ys = 0 then ordF (vF xs ys) (fun k => xs (k.toNat * 3 + 1) == 0) n else []
theorem vF_bd {m : Int} {n : Nat} {xs : Nat → Int} {n2 : Nat} {ys : Nat → Int} (h : codF m n xs n2 ys = 0) : ∀ x : Int, 0 ≤ x → x < n → 0 ≤ vF xs ys x ∧ vF xs ys x ≤ 3000000000000 := by
  intro x h0 h1
  obtain ⟨e, hn, hf, hr⟩ := codF_0 h
  have ht : 0 ≤ xs (x.toNat * 3 + 2) ∧ xs (x.toNat * 3 + 2) ≤ 1000000000 := by
    have := hf x.toNat (by omega)
    unfold finB at this
    simp only [Bool.and_eq_true] at this
    have h2 := this.2
    split at h2
    · have := inB_t h2; omega
    · have := beq_iff_eq.1 h2; omega
  have hy := hr x.toNat (by omega)
  unfold vF
  generalize xs (x.toNat * 3 + 2) = a at ht
  generalize ys (x.toNat * 2 + 1) = b at hy
  refine ⟨Int.mul_nonneg ht.1 (by omega), ?_⟩
  have := Int.mul_le_mul ht.2 hy.2 (by omega) (by omega)
  omega
set_option maxRecDepth 100000 in
set_option maxHeartbeats 8000000 in
theorem fn1_any (w : World) (n n2 c c2 B : Nat) (A A2 : Option Addr) (xs ys : Nat → Int) (hn : n ≤ 16) (e2 : n2 = n) (hx : Ints w B A (n * 3) xs) (hy : Ints w B A2 (n2 * 2) ys) (hB : B ≤ w.heap.size) (pl pr : Nat) (hpl : pl < w.heap.size) (hpr : pr < w.heap.size) (cl : w.cell? ⟨pl, 0, none⟩ = some (.slice A n c)) (cr : w.cell? ⟨pr, 0, none⟩ = some (.slice A2 n2 c2)) (hv : ∀ x : Int, 0 ≤ x → x < n → 0 ≤ vF xs ys x ∧ vF xs ys x ≤ 3000000000000) : Fn1OK w n (vF xs ys) pl pr := by
  intro x h0 h1 W hb
  subst e2
  obtain ⟨κ, rfl⟩ : ∃ κ : Nat, x = κ := ⟨x.toNat, by omega⟩
  obtain ⟨b, o, rfl, hbB, hcx⟩ := hx (by omega)
  obtain ⟨b2, o2, rfl, hbB2, hcy⟩ := hy (by omega)
  have g1 : W.cell? ⟨pl, 0, none⟩ = some (.slice (some ⟨b, o, none⟩) n2 c) := (hb.cell hpl).trans cl
  have g2 : W.cell? ⟨pr, 0, none⟩ = some (.slice (some ⟨b2, o2, none⟩) n2 c2) := (hb.cell hpr).trans cr
  have g3 : W.cell? ⟨b, o + κ * 3 + 2, none⟩ = some (.int .i64 (xs (κ * 3 + 2))) := by rw [hb.cell (by simp; omega)]; exact hcx (κ * 3 + 2) (by omega)
  have g4 : W.cell? ⟨b2, o2 + κ * 2 + 1, none⟩ = some (.int .i64 (ys (κ * 2 + 1))) := by rw [hb.cell (by simp; omega)]; exact hcy (κ * 2 + 1) (by omega)
  have hvk := hv κ h0 h1
  have hve : vF xs ys κ = xs (κ * 3 + 2) * ys (κ * 2 + 1) := by unfold vF; rw [Int.toNat_natCast]
  rw [hve] at hvk ⊢
  generalize xs (κ * 3 + 2) = a at *
  generalize ys (κ * 2 + 1) = d at *
  have hwr : IntKind.i64.wrap (a * d) = a * d := by rw [IntKind.wrap_i64]; omega
  have C1 : ∀ u : Over W, u.w.cell? ⟨pl, 0, none⟩ = some (.slice (some ⟨b, o, none⟩) n2 c) := fun u => u.cell (Nat.lt_of_lt_of_le hpl hb.size) g1
  have C2 : ∀ u : Over W, u.w.cell? ⟨pr, 0, none⟩ = some (.slice (some ⟨b2, o2, none⟩) n2 c2) := fun u => u.cell (Nat.lt_of_lt_of_le hpr hb.size) g2
  have C3 : ∀ u : Over W, u.w.cell? ⟨b, o + κ * 3 + 2, none⟩ = some (.int .i64 a) := fun u => u.cell (by have := hb.size; simp; omega) g3
  have C4 : ∀ u : Over W, u.w.cell? ⟨b2, o2 + κ * 2 + 1, none⟩ = some (.int .i64 d) := fun u => u.cell (by have := hb.size; simp; omega) g4
  clear hcx hcy hx hy hv hve cl cr hb g1 g2 g3 g4
  go_enter Try.func67, Try.ntmps67
  go_wp2_with fail
  refine wp_region_over (by kernel_rfl) (by kernel_rfl) ?_
  repeat (go_big_quiet_step (fail))
  refine wpQuiet_nil ?_
  rintro _ ⟨u, rfl⟩
  go_wp2
  go_ret
  exact ⟨rfl, u.ok⟩
set_option maxRecDepth 100000 in
set_option maxHeartbeats 8000000 in
theorem correctedOrder_val (m : Int) (A : Option Addr) (n c B : Nat) (xs : Nat → Int) (A2 : Option Addr) (n2 c2 B2 : Nat) (ys : Nat → Int) (w : World) (K : Nat) (L : List Int) (co : Int) (hL : Hid (coL m n xs n2 ys = L)) (hc : Hid (codF m n xs n2 ys = co)) (hK : Hid (L.length = K)) (hx : Ints w B A (n * 3) xs) (hB : B ≤ w.heap.size) (hn : n ≤ 9223372036854775807) (hy : Ints w B2 A2 (n2 * 2) ys) (hB2 : B2 ≤ w.heap.size) (hn2 : n2 ≤ 9223372036854775807) :
    Calls Try.prog 32 #[.int .i64 m, .slice A n c, .slice A2 n2 c2] w fun e w' => Gave 2 1 K w w' e L co := by
  have hcode := fun (W : World) (hb : Below w.heap.size w W) => ratingsCode_val m A n c B xs A2 n2 c2 B2 ys W co hc (hx.below (hb.mono hB)) (Nat.le_trans hB hb.size) hn (hy.below (hb.mono hB2)) (Nat.le_trans hB2 hb.size) hn2
  have hbA : Below w.heap.size w ((w.alloc (.cells #[.slice A n c] 31)).alloc (.cells #[.slice A2 n2 c2] 25)) := ((Below.refl _ _).alloc (Nat.le_refl _) _).alloc (by simp) _
  have hW1 := (Whole.new w 31 #[.slice A n c]).alloc (.cells #[.slice A2 n2 c2] 25)
  have hW2 := Whole.new (w.alloc (.cells #[.slice A n c] 31)) 25 #[.slice A2 n2 c2]
  simp only [World.size_alloc] at hW2
  obtain ⟨w1, hw1⟩ : ∃ W, (w.alloc (.cells #[.slice A n c] 31)).alloc (.cells #[.slice A2 n2 c2] 25) = W := ⟨_, rfl⟩
  rw [hw1] at hbA hW1 hW2
  have c1 : w1.cell? ⟨w.heap.size, 0, none⟩ = some (.slice A n c) := by simpa using hW1.cell 0
  have c2' : w1.cell? ⟨w.heap.size + 1, 0, none⟩ = some (.slice A2 n2 c2) := by simpa using hW2.cell 0
  have hl1 := hW1.lt
  have hl2 := hW2.lt
  have hz1 := hbA.size
  have hcode1 := hcode w1 hbA
  replace hcode1 := Lib.hid hcode1
  clear hcode hW1 hW2
  by_cases h0 : co = 0
  · subst h0
    have hcd := codF_0 hc.out
    obtain ⟨e2, hn16, hf, hr⟩ := hcd
    have hm1 : 1 ≤ n := by
      have h := hc.out
      unfold codF at h
      split at h
      · rename_i hr'
        have := racB_t hr'
        omega
      · cases h
    have hvb := vF_bd hc.out
    have hLL : Hid (ordF (vF xs ys) (fun k => xs (k.toNat * 3 + 1) == 0) n = L) := Lib.hid (by rw [← hL.out]; unfold coL; rw [if_pos hc.out])
    replace hvb := Lib.hid hvb
    replace e2 := Lib.hid e2
    clear hf hr
    go_enter Try.func32, Try.ntmps32
    go_wp2_with fail
    try rw [hw1]
    refine hcode1.out.mono ?_
    rintro e w2 ⟨rfl, hb2⟩
    have hz2 := hb2.size
    have hbb := hbA.trans (hb2.mono hz1)
    have d1 : w2.cell? ⟨w.heap.size, 0, none⟩ = some (.slice A n c) := (hb2.cell hl1).trans c1
    have d2 : w2.cell? ⟨w.heap.size + 1, 0, none⟩ = some (.slice A2 n2 c2) := (hb2.cell hl2).trans c2'
    have hF1 : Fn1OK w2 n (vF xs ys) w.heap.size (w.heap.size + 1) := fn1_any w2 n n2 c c2 (max B B2) A A2 xs ys hn16 e2.out ((hx.below (hbb.mono hB)).more (by omega)) ((hy.below (hbb.mono hB2)).more (by omega)) (by omega) _ _ (by omega) (by omega) d1 d2 hvb.out
    replace hF1 := Lib.hid hF1
    clear hcode1 c1 c2' hb2 hbA
    go_wp2_with fail
    refine (finishedBoats_any w2 A n c B xs (vF xs ys) w.heap.size (w.heap.size + 1) hm1 hn16 (hx.below (hbb.mono hB)) (by omega) hvb.out hF1.out K L hLL hK).mono ?_
    rintro e w3 ⟨A3, c3, rfl, hK3, hown, hb3⟩
    clear hF1
    go_wp2
    go_ret2
    exact ⟨A3, c3, rfl, hK3, own_base hown (by omega), hbb.trans (hb3.mono (by omega))⟩
  · have hL0 : L = [] := by rw [← hL.out]; unfold coL; rw [if_neg (by rw [hc.out]; exact h0)]
    subst hL0
    have hK0 : K = 0 := hK.out.symm
    subst hK0
    have hne : (co != 0) = true := by rw [bne, beq_eq_false_iff_ne.2 h0]; rfl
    go_enter Try.func32, Try.ntmps32
    go_wp2_with fail
    try rw [hw1]
    refine hcode1.out.mono ?_
    rintro e w2 ⟨rfl, hb2⟩
    go_wp2
    go_ret2
    exact gave_nil (hbA.trans (hb2.mono hz1))
end Go.Proofs.Ytbmclcajgplpnaa
