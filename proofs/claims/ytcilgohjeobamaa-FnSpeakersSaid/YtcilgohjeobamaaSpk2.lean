/- Decisive speakers: the program's and the reference's answer. -/
import Derived.Test.YtcilgohjeobamaaSpk
set_option linter.unusedSimpArgs false
set_option linter.unusedVariables false
namespace Go.Proofs.Ytcilgohjeobamaa
open Go.RowKit Go.Shelf

def disL (pb pa : Int) (n : Nat) (xs : Nat → Int) (nd : Nat) (fl : Nat → Nat) (fx : Nat → Nat → Int) (o : Nat → Int) : List Int := if codD pb pa n xs nd fl fx o = 0 then ascL (outW n xs nd fl fx o) 200 else []
theorem codD_p {pb pa : Int} {n : Nat} {xs : Nat → Int} {nd : Nat} {fl : Nat → Nat} {fx : Nat → Nat → Int} {o : Nat → Int} (h : codD pb pa n xs nd fl fx o = 0) : ptB pb pa = true := by
  unfold codD at h
  split at h
  · assumption
  · omega
theorem mergeSort_len (zs : List Int) : (zs.mergeSort fun x y => decide (x ≤ y)).length = zs.length := by simp
set_option maxRecDepth 100000 in
set_option maxHeartbeats 8000000 in
theorem decisive_val (pb pa : Int) (A AD : Option Addr) (n c nd cd B BD : Nat) (xs : Nat → Int) (fa : Nat → Option Addr) (fl fc : Nat → Nat) (fx : Nat → Nat → Int) (o : Nat → Int) (w : World) (hx : Ints w B A (n * 3) xs) (hB : B ≤ w.heap.size) (hn : n ≤ 9223372036854775807) (hnc : n ≤ c) (hd : Dems w BD AD nd fa fl fc fx o) (hBD : BD ≤ w.heap.size) (hnd : nd ≤ maxLen) (K : Nat) (L : List Int) (co : Int) (hL : Hid (disL pb pa n xs nd fl fx o = L)) (hco : Hid (codD pb pa n xs nd fl fx o = co)) (hK : Hid (L.length = K)) :
    Calls Try.prog 42 #[.int .i64 pb, .int .i64 pa, .slice A n c, .slice AD nd cd] w fun e w' => Gave 2 1 K w w' e L co := by
  have hcall := hearingCodeD_any pb pa A AD n c nd cd B BD xs fa fl fc fx o w hx hB hn hnc hd hBD hnd co hco.out
  by_cases h0 : ¬ co = 0
  · have hLn : L = [] := by rw [← hL.out]; unfold disL; rw [hco.out, if_neg h0]
    subst hLn
    have hK0 : K = 0 := by rw [← hK.out]; rfl
    subst hK0
    have h0' : (co == 0) = false := by rw [beq_eq_false_iff_ne]; exact h0
    have h0'' : (co != 0) = true := by rw [bne, h0']; rfl
    clear hL hco hK hx hd
    go_enter Try.func42, Try.ntmps42
    go_wp2_with fail
    refine hcall.mono ?_
    rintro e w1 ⟨rfl, hb1⟩
    go_wp2
    go_ret2
    exact gave_nil hb1
  have h0 : co = 0 := Classical.not_not.1 h0
  subst h0
  obtain ⟨hst, hdm⟩ := codD_0 hco.out
  have hpt := codD_p hco.out
  obtain ⟨n60, hok⟩ := stB_t hst
  obtain ⟨nd12, hokd⟩ := dmsB_t hdm
  obtain ⟨W, hW⟩ : ∃ W, outW n xs nd fl fx o = W := ⟨_, rfl⟩
  have hLn : ascL W 200 = L := by rw [← hL.out]; unfold disL; rw [hco.out, if_pos rfl, hW]
  have hlaw := spk_law (nd := nd) (fl := fl) (fx := fx) (o := o) hpt hst
  rw [hW, hLn] at hlaw
  have hfacts := fun (wo : Int) (w1 : World) (hb : Below w.heap.size w w1) => findFacts_any A n c B xs wo w1 (hx.below (hb.mono hB)) (Nat.le_trans hB hb.size) n60 (fun i hi => okT_t (hok i hi))
  have hdec := fun (wo : Int) (AF : Option Addr) (cF : Nat) (w1 w2 : World) (hb : Below w.heap.size w w1) (h : Below w1.heap.size w1 w2) (hF : Ints w2 w2.heap.size AF 8 (factV xs wo n)) (va : Int) (hv : decV (factV xs wo n) nd fl fx o = (W wo, va)) => decide_any AF AD cF nd cd w2.heap.size BD (factV xs wo n) fa fl fc fx o w2 hF (Nat.le_refl _) ((hd.below (hb.mono hBD)).below (h.mono (Nat.le_trans hBD hb.size))) (Nat.le_trans hBD (Nat.le_trans hb.size h.size)) (fun i hi => dmB_f (hokd i hi)) nd12 (W wo) va hv
  have hval := fun wo : Int => (show ∃ va, decV (factV xs wo n) nd fl fx o = (W wo, va) from ⟨_, by rw [← hW]; rfl⟩)
  replace hfacts := Lib.hid hfacts
  replace hdec := Lib.hid hdec
  obtain ⟨wb, hwb⟩ : ∃ z, W (-1) = z := ⟨_, rfl⟩
  replace hval := Lib.hid hval
  replace hwb := Lib.hid hwb
  replace hlaw := Lib.hid hlaw
  replace hLn := Lib.hid hLn
  replace hx := Lib.hid hx
  clear hL hco hst hdm hpt hok hokd hd hW
  go_enter Try.func42, Try.ntmps42
  go_wp2_with fail
  refine hcall.mono ?_
  rintro e w1 ⟨rfl, hb1⟩
  have hz1 := hb1.size
  clear hcall
  go_wp2_with fail
  refine (hfacts.out (-1) w1 hb1).mono ?_
  rintro e w2 ⟨rfl, hS2, hb2⟩
  have hz2 := hb2.size
  obtain ⟨va0, hva0⟩ := hval.out (-1)
  have hd0 := hdec.out (-1) _ 8 w1 w2 hb1 hb2 hS2.ints va0 hva0
  rw [hwb.out] at hd0
  replace hd0 := Lib.hid hd0
  go_wp2_with fail
  refine hd0.out.mono ?_
  rintro e w3 ⟨rfl, hb3⟩
  have hz3 := hb3.size
  have hbw3 : Below w.heap.size w w3 := hb1.trans ((hb2.mono hz1).trans (hb3.mono (by omega)))
  have hbw3' := hbw3.alloc hbw3.size (.cells #[] 2)
  have hzz := hbw3.size
  have ho3 : (w3.alloc (.cells #[] 2)).ownsRow w.heap.size 2 1 (.slice (some ⟨w3.heap.size, 0, none⟩) 0 0) 0 (([] : List Int).map (Value.int .i64)) := own_empty (Whole.new _ _ _) hzz
  obtain ⟨j0, hj, hy0', hy1', hy2'⟩ := info_parts infoInt64
  replace hj := Lib.hid hj
  replace hy0' := Lib.hid hy0'
  replace hy1' := Lib.hid hy1'
  replace hy2' := Lib.hid hy2'
  clear hb1 hb2 hb3 hS2 hbw3 hva0 hd0
  go_wp2_with fail
  go_loopw [13, 36] (fun v13 vk wr => ∃ (k nz : Nat) (zs : List Int), k ≤ n ∧ vk = .int .i64 k ∧ Hid (cndL W xs k = zs) ∧ Hid (zs.length = nz) ∧ nz ≤ k ∧ wr.ownsRow w.heap.size 2 1 v13 nz (zs.map (Value.int .i64)) ∧ Below w.heap.size w wr) (fun _ vk _ => (n - intOf vk).toNat)
  case atStart => exact ⟨0, 0, [], by omega, rfl, Lib.hid rfl, Lib.hid rfl, by omega, ho3, hbw3'⟩
  case round =>
    obtain ⟨k, nz, zs, hk, rfl, hzs, hnz, hzl, hown, hbel⟩ := hrel
    clear ho3 hbw3'
    have hsz := hbel.size
    by_cases hlt : k < n
    · obtain ⟨b, off, rfl, hadB, hcode⟩ := hx.out (by omega)
      have g0 : wr.cell? ⟨b, off + k * 3, none⟩ = some (.int .i64 (xs (k * 3))) := by rw [hbel.cell (by simp; omega)]; exact hcode (k * 3) (by omega)
      have g1 : wr.cell? ⟨b, off + k * 3 + 1, none⟩ = some (.int .i64 (xs (k * 3 + 1))) := by rw [hbel.cell (by simp; omega)]; exact hcode (k * 3 + 1) (by omega)
      have g2 : wr.cell? ⟨b, off + k * 3 + 2, none⟩ = some (.int .i64 (xs (k * 3 + 2))) := by rw [hbel.cell (by simp; omega)]; exact hcode (k * 3 + 2) (by omega)
      have hstep : cndL W xs (k + 1) = if W (xs (k * 3)) ≠ W (-1) then zs ++ [xs (k * 3)] else zs := by
        rw [← hzs.out]; rfl
      rw [hwb.out] at hstep
      clear hcode
      generalize xs (k * 3) = sp at g0 hstep
      generalize xs (k * 3 + 1) = f at g1
      generalize xs (k * 3 + 2) = sy at g2
      obtain ⟨ws, hws⟩ : ∃ z, W sp = z := ⟨_, rfl⟩
      rw [hws] at hstep
      replace hstep := Lib.hid hstep
      have hbA := hbel.alloc hsz (.cells #[.int .i64 sp, .int .i64 f, .int .i64 sy] 59)
      have hX := Whole.new wr 59 #[.int .i64 sp, .int .i64 f, .int .i64 sy]
      have hownA := hown.alloc (.cells #[.int .i64 sp, .int .i64 f, .int .i64 sy] 59)
      obtain ⟨va, hva⟩ := hval.out sp
      have hf1 := hfacts.out sp _ hbA
      have hd1 := fun AF cF w2 h hF => hdec.out sp AF cF _ w2 hbA h hF va hva
      rw [hws] at hd1
      clear hws
      replace hf1 := Lib.hid hf1
      replace hd1 := Lib.hid hd1
      replace hva := Lib.hid hva
      clear hown
      go_wp2_with fail
      refine hf1.out.mono ?_
      rintro e w4 ⟨rfl, hS4, hb4⟩
      have hX4 := hX.below hb4 (by simp)
      have hown4 := own_below hownA hb4
      have hz4 := hb4.size
      have hd2 := hd1.out _ 8 w4 hb4 hS4.ints
      simp only [World.size_alloc] at hd2
      replace hd2 := Lib.hid hd2
      clear hX hownA hS4 hf1 hd1
      go_wp2_with fail
      refine hd2.out.mono ?_
      rintro e w5 ⟨rfl, hb5⟩
      have hz5 := hb5.size
      simp only [World.size_alloc] at hz4
      have hX5 := hX4.below hb5 (by omega)
      have hown5 := own_below hown4 hb5
      have hbw5 : Below w.heap.size w w5 := hbA.trans ((hb4.mono (by simp; omega)).trans (hb5.mono (by omega)))
      clear hX4 hown4 hb4 hb5 hbA hd2
      have x0 := hX5.cell 0
      simp at x0
      by_cases hne : ws = wb
      · have hne1 : (ws != wb) = false := by simpa using hne
        have hst := hstep.out
        rw [if_neg (by simpa using hne)] at hst
        replace hst := Lib.hid hst
        clear hstep
        go_wp2
        go_roundw
        case rel => exact ⟨k + 1, nz, zs, by omega, by go_num, hst, hnz, by omega, hown5, hbw5⟩
        case measure => simp [intOf]; omega
      · have hne1 : (ws != wb) = true := by simpa using hne
        have hst := hstep.out
        rw [if_pos hne] at hst
        replace hst := Lib.hid hst
        clear hstep
        have hnew := Whole.new w5 2 #[.int .i64 sp]
        go_wp2_with (at_builtin; refine wpList_append_own_at _ rfl _ _ 31 rfl w.heap.size 2 j0 _ 1 8 Try.underlying31 hj.out hy0'.out hy1'.out hy2'.out rfl (by decide) _ _ _ rfl (hown5.alloc _) ⟨w5.heap.size, 0, none⟩ 1 1 [.int .i64 sp] rfl rfl ?c1 ?c2 ?c3 ?c4 ?c5 ?_)
        case c1 =>
          intro j u hu
          rw [add_zero_off, hnew.cell]
          simpa using hu
        case c2 => simp [Value.oneCell']
        case c3 => simp only [maxLen]; omega
        case c4 => omega
        case c5 => simp; omega
        intro v' w8 hown' hgrow _ hat
        have hbw8 : Below w.heap.size w w8 := (hbw5.alloc hbw5.size (.cells #[.int .i64 sp] 2)).trans (below_only hgrow (by have := hbw5.size; simp; omega) (fun q hq => (hown5.lt q hq).1))
        have hown8 : w8.ownsRow w.heap.size 2 1 v' (nz + 1) ((zs ++ [sp]).map (Value.int .i64)) := by simpa using hown'
        clear hown' hgrow hat hown5 hbw5
        go_wp2
        go_roundw
        case rel => exact ⟨k + 1, nz + 1, zs ++ [sp], by omega, by go_num, hst, Lib.hid (by rw [List.length_append, hnz.out]; rfl), by omega, hown8, hbw8⟩
        case measure => simp [intOf]; omega
    · obtain rfl : k = n := by omega
      obtain ⟨A8, c8, rfl, hnc8, hcm8⟩ := own_form hown
      have hlw := hlaw.out
      rw [hzs.out] at hlw
      have hsl := mergeSort_len zs
      have hs := sortI_own hown (by omega)
      generalize (zs.mergeSort fun x y => decide (x ≤ y)) = ms at hs hlw hsl
      clear hzs hlaw hLn
      replace hs := Lib.hid hs
      go_wp2_with fail
      refine hs.out.mono ?_
      rintro e w6 ⟨rfl, ho6, hg6⟩
      have hbw6 : Below w.heap.size w w6 := hbel.trans (below_only hg6 hsz (fun q hq => (hown.lt q hq).1))
      have hs2 := compactI_own ho6 (by omega)
      have hml : ms.length ≤ 60 := by have := hnz.out; omega
      rw [hlw, hK.out] at hs2
      replace hs2 := Lib.hid hs2
      go_wp2_with fail
      refine hs2.out.mono ?_
      rintro e w7 ⟨rfl, ho7, hg7⟩
      have hbw7 : Below w.heap.size w w7 := hbw6.trans (below_only hg7 hbw6.size (fun q hq => (ho6.lt q hq).1))
      have hKb : K ≤ 100000 := by
        rw [← hK.out, ← hlw]
        have h1 : (Go.Lib.compact ms).length ≤ ms.length := by
          unfold Go.Lib.compact Go.Lib.compactUpTo
          rw [List.length_map]
          exact Nat.le_trans (List.length_filter_le _ _) (by simp)
        omega
      clear hs2 hlw hsl
      go_wp2
      go_ret2
      exact ⟨A8, c8, rfl, hKb, ho7, hbw7⟩
set_option maxRecDepth 100000 in
set_option maxHeartbeats 8000000 in
theorem sDecisive_val (pb pa : Int) (A AD : Option Addr) (n c nd cd B BD : Nat) (xs : Nat → Int) (fa : Nat → Option Addr) (fl fc : Nat → Nat) (fx : Nat → Nat → Int) (o : Nat → Int) (w : World) (hx : Ints w B A (n * 3) xs) (hB : B ≤ w.heap.size) (hn : n ≤ 9223372036854775807) (hd : Dems w BD AD nd fa fl fc fx o) (hBD : BD ≤ w.heap.size) (hnd : nd ≤ maxLen) (K : Nat) (L : List Int) (co : Int) (hL : Hid (disL pb pa n xs nd fl fx o = L)) (hco : Hid (codD pb pa n xs nd fl fx o = co)) (hK : Hid (L.length = K)) :
    Calls Try.prog 43 #[.int .i64 pb, .int .i64 pa, .slice A n c, .slice AD nd cd] w fun e w' => Gave 2 1 K w w' e L co := by
  have hcall := l18CodeD_any pb pa A AD n c nd cd B BD xs fa fl fc fx o w hx hB hn hd hBD hnd co hco.out
  by_cases h0 : ¬ co = 0
  · have hLn : L = [] := by rw [← hL.out]; unfold disL; rw [hco.out, if_neg h0]
    subst hLn
    have hK0 : K = 0 := by rw [← hK.out]; rfl
    subst hK0
    have h0' : (co == 0) = false := by rw [beq_eq_false_iff_ne]; exact h0
    have h0'' : (co != 0) = true := by rw [bne, h0']; rfl
    clear hL hco hK hx hd
    go_enter Try.func43, Try.ntmps43
    go_wp2_with fail
    refine hcall.mono ?_
    rintro e w1 ⟨rfl, hb1⟩
    go_wp2
    go_ret2
    exact gave_nil hb1
  have h0 : co = 0 := Classical.not_not.1 h0
  subst h0
  obtain ⟨hst, hdm⟩ := codD_0 hco.out
  have hpt := codD_p hco.out
  obtain ⟨n60, hok⟩ := stB_t hst
  obtain ⟨nd12, hokd⟩ := dmsB_t hdm
  obtain ⟨W, hW⟩ : ∃ W, outW n xs nd fl fx o = W := ⟨_, rfl⟩
  have hLn : ascL W 200 = L := by rw [← hL.out]; unfold disL; rw [hco.out, if_pos rfl, hW]
  have hlaw := spk_law (nd := nd) (fl := fl) (fx := fx) (o := o) hpt hst
  rw [hW, hLn] at hlaw
  have hfacts := fun (wo : Int) (w1 : World) (hb : Below w.heap.size w w1) => l18Facts_any A n c B xs wo w1 (hx.below (hb.mono hB)) (Nat.le_trans hB hb.size) n60 (fun i hi => okT_t (hok i hi))
  have hdec := fun (wo : Int) (AF : Option Addr) (cF : Nat) (w1 w2 : World) (hb : Below w.heap.size w w1) (h : Below w1.heap.size w1 w2) (hF : Ints w2 w2.heap.size AF 8 (factV xs wo n)) (va : Int) (hv : decV (factV xs wo n) nd fl fx o = (W wo, va)) => l18Decide_any AF AD cF nd cd w2.heap.size BD (factV xs wo n) fa fl fc fx o w2 hF (Nat.le_refl _) ((hd.below (hb.mono hBD)).below (h.mono (Nat.le_trans hBD hb.size))) (Nat.le_trans hBD (Nat.le_trans hb.size h.size)) (fun i hi => dmB_f (hokd i hi)) nd12 (W wo) va hv
  have hval := fun wo : Int => (show ∃ va, decV (factV xs wo n) nd fl fx o = (W wo, va) from ⟨_, by rw [← hW]; rfl⟩)
  replace hfacts := Lib.hid hfacts
  replace hdec := Lib.hid hdec
  obtain ⟨wb, hwb⟩ : ∃ z, W (-1) = z := ⟨_, rfl⟩
  replace hval := Lib.hid hval
  replace hwb := Lib.hid hwb
  replace hlaw := Lib.hid hlaw
  replace hLn := Lib.hid hLn
  replace hx := Lib.hid hx
  clear hL hco hst hdm hpt hok hokd hd hW
  go_enter Try.func43, Try.ntmps43
  go_wp2_with fail
  refine hcall.mono ?_
  rintro e w1 ⟨rfl, hb1⟩
  have hz1 := hb1.size
  clear hcall
  go_wp2_with fail
  refine (hfacts.out (-1) w1 hb1).mono ?_
  rintro e w2 ⟨rfl, hS2, hb2⟩
  have hz2 := hb2.size
  obtain ⟨va0, hva0⟩ := hval.out (-1)
  have hd0 := hdec.out (-1) _ 8 w1 w2 hb1 hb2 hS2.ints va0 hva0
  rw [hwb.out] at hd0
  replace hd0 := Lib.hid hd0
  go_wp2_with fail
  refine hd0.out.mono ?_
  rintro e w3 ⟨rfl, hb3⟩
  have hz3 := hb3.size
  have hbw3 : Below w.heap.size w w3 := hb1.trans ((hb2.mono hz1).trans (hb3.mono (by omega)))
  have hbw3' := hbw3.alloc hbw3.size (.cells #[] 2)
  have hzz := hbw3.size
  have ho3 : (w3.alloc (.cells #[] 2)).ownsRow w.heap.size 2 1 (.slice (some ⟨w3.heap.size, 0, none⟩) 0 0) 0 (([] : List Int).map (Value.int .i64)) := own_empty (Whole.new _ _ _) hzz
  obtain ⟨j0, hj, hy0', hy1', hy2'⟩ := info_parts infoInt64
  replace hj := Lib.hid hj
  replace hy0' := Lib.hid hy0'
  replace hy1' := Lib.hid hy1'
  replace hy2' := Lib.hid hy2'
  clear hb1 hb2 hb3 hS2 hbw3 hva0 hd0
  go_wp2_with fail
  go_loopw [13, 14] (fun v13 vk wr => ∃ (k nz : Nat) (zs : List Int), k ≤ 200 ∧ vk = .int .i64 k ∧ Hid (ascL W k = zs) ∧ Hid (zs.length = nz) ∧ nz ≤ k ∧ wr.ownsRow w.heap.size 2 1 v13 nz (zs.map (Value.int .i64)) ∧ Below w.heap.size w wr) (fun _ vk _ => (200 - intOf vk).toNat)
  case atStart => exact ⟨0, 0, [], by omega, rfl, Lib.hid rfl, Lib.hid rfl, by omega, ho3, hbw3'⟩
  case round =>
    obtain ⟨k, nz, zs, hk, rfl, hzs, hnz, hzl, hown, hbel⟩ := hrel
    clear ho3 hbw3'
    have hsz := hbel.size
    by_cases hlt : k < 200
    · have hstep : ascL W (k + 1) = if W k ≠ W (-1) then zs ++ [(k : Int)] else zs := by
        rw [← hzs.out]; rfl
      obtain ⟨ws, hws⟩ : ∃ z, W (k : Int) = z := ⟨_, rfl⟩
      rw [hwb.out, hws] at hstep
      replace hstep := Lib.hid hstep
      obtain ⟨va, hva⟩ := hval.out (k : Int)
      have hf1 := hfacts.out (k : Int) wr hbel
      have hd1 := fun AF cF w2 h hF => hdec.out (k : Int) AF cF wr w2 hbel h hF va hva
      rw [hws] at hd1
      clear hws
      replace hf1 := Lib.hid hf1
      replace hd1 := Lib.hid hd1
      replace hva := Lib.hid hva
      go_wp2_with fail
      refine hf1.out.mono ?_
      rintro e w4 ⟨rfl, hS4, hb4⟩
      have hown4 := own_below hown hb4
      have hz4 := hb4.size
      have hd2 := hd1.out _ 8 w4 hb4 hS4.ints
      replace hd2 := Lib.hid hd2
      clear hown hS4 hf1 hd1
      go_wp2_with fail
      refine hd2.out.mono ?_
      rintro e w5 ⟨rfl, hb5⟩
      have hz5 := hb5.size
      have hown5 := own_below hown4 hb5
      have hbw5 : Below w.heap.size w w5 := hbel.trans ((hb4.mono hsz).trans (hb5.mono (by omega)))
      clear hown4 hb4 hb5 hbel hd2
      by_cases hne : ws = wb
      · have hne1 : (ws != wb) = false := by simpa using hne
        have hst := hstep.out
        rw [if_neg (by simpa using hne)] at hst
        replace hst := Lib.hid hst
        clear hstep
        go_wp2
        go_roundw
        case rel => exact ⟨k + 1, nz, zs, by omega, by go_num, hst, hnz, by omega, hown5, hbw5⟩
        case measure => simp [intOf]; omega
      · have hne1 : (ws != wb) = true := by simpa using hne
        have hst := hstep.out
        rw [if_pos hne] at hst
        replace hst := Lib.hid hst
        clear hstep
        have hnew := Whole.new w5 2 #[.int .i64 (k : Int)]
        go_wp2_with (at_builtin; refine wpList_append_own_at _ rfl _ _ 31 rfl w.heap.size 2 j0 _ 1 8 Try.underlying31 hj.out hy0'.out hy1'.out hy2'.out rfl (by decide) _ _ _ rfl (hown5.alloc _) ⟨w5.heap.size, 0, none⟩ 1 1 [.int .i64 (k : Int)] rfl rfl ?c1 ?c2 ?c3 ?c4 ?c5 ?_)
        case c1 =>
          intro j u hu
          rw [add_zero_off, hnew.cell]
          simpa using hu
        case c2 => simp [Value.oneCell']
        case c3 => simp only [maxLen]; omega
        case c4 => omega
        case c5 => simp; omega
        intro v' w8 hown' hgrow _ hat
        have hbw8 : Below w.heap.size w w8 := (hbw5.alloc hbw5.size (.cells #[.int .i64 (k : Int)] 2)).trans (below_only hgrow (by have := hbw5.size; simp; omega) (fun q hq => (hown5.lt q hq).1))
        have hown8 : w8.ownsRow w.heap.size 2 1 v' (nz + 1) ((zs ++ [(k : Int)]).map (Value.int .i64)) := by simpa using hown'
        clear hown' hgrow hat hown5 hbw5
        go_wp2
        go_roundw
        case rel => exact ⟨k + 1, nz + 1, zs ++ [(k : Int)], by omega, by go_num, hst, Lib.hid (by rw [List.length_append, hnz.out]; rfl), by omega, hown8, hbw8⟩
        case measure => simp [intOf]; omega
    · obtain rfl : k = 200 := by omega
      obtain ⟨A8, c8, rfl, hnc8, hcm8⟩ := own_form hown
      have hzL : zs = L := by rw [← hzs.out]; exact hLn.out
      subst hzL
      have hKz : K = nz := by rw [← hK.out, hnz.out]
      subst hKz
      go_wp2
      go_ret2
      exact ⟨A8, c8, rfl, by omega, hown, hbel⟩
end Go.Proofs.Ytcilgohjeobamaa
