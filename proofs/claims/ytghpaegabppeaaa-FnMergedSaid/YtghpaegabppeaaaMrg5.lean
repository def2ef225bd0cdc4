/- The draw of windows to merge, off a code. -/
import Derived.Test.YtghpaegabppeaaaMrg4
import Derived.Test.YtghpaegabppeaaaDW
import Derived.Test.YtghpaegabppeaaaFrom
set_option linter.unusedSimpArgs false
set_option linter.unusedVariables false
namespace Go.Proofs.Ytghpaegabppeaaa
open Go.RowKit Go.Shelf

def gM (m : Nat) (bs : Nat → Int) : Nat → Nat × Int → List Int × (Nat × Int)
  | 0, st => ([], st)
  | k + 1, st => ((gM m bs k st).1 ++ [nextV 40 m bs (gM m bs k st).2, nextV 40 m bs (gM m bs k st).2 + 1 + nextV 15 m bs (nextS 40 m (gM m bs k st).2)], nextS 15 m (nextS 40 m (gM m bs k st).2))
theorem gM_len (m : Nat) (bs : Nat → Int) (st : Nat × Int) : ∀ k, (gM m bs k st).1.length = k * 2
  | 0 => rfl
  | k + 1 => by rw [gM, List.length_append, gM_len m bs st k]; simp; omega
def padM (n0 : Nat) : Nat → List Int
  | 0 => []
  | q + 1 => padM n0 q ++ [(n0 : Int) + q, 50]
theorem padM_len (n0 : Nat) : ∀ q, (padM n0 q).length = q * 2
  | 0 => rfl
  | q + 1 => by rw [padM, List.length_append, padM_len n0 q]; simp; omega
def lenM : Value → Nat
  | .slice _ n _ => n
  | _ => 0
def DrewM (n : Nat) (xs : Nat → Int) (w w' : World) (e : Ending) : Prop :=
  ∃ b c : Nat, e = .returned (.slice (some ⟨b, 0, none⟩) n c) ∧ Ints w' w'.heap.size (some ⟨b, 0, none⟩) (n * 2) xs ∧ Below w.heap.size w w'
set_option maxRecDepth 100000 in
set_option maxHeartbeats 16000000 in
theorem drawMergeWindows_ex (m : Nat) (bs : Nat → Int) (hm : m ≤ 100000) (hb : ∀ j, 0 ≤ bs j ∧ bs j ≤ 255) : ∃ (n : Nat) (xs : Nat → Int), n ≤ 31 ∧
    ∀ (A : Option Addr) (c : Nat) (w : World), Nums .u8 w w.heap.size A m bs → Calls Try.prog 37 #[.slice A m c] w fun e w' => DrewM n xs w w' e := by
  obtain ⟨k0i, hk0⟩ : ∃ r, nextV 7 m bs (0, fromV bs (min m 64)) = r := ⟨_, rfl⟩
  have hk0b := nextV_bd 7 m bs (0, fromV bs (min m 64)) (by omega)
  rw [hk0] at hk0b
  obtain ⟨k0, rfl⟩ : ∃ k : Nat, k0i = k := ⟨k0i.toNat, by omega⟩
  obtain ⟨st1, hs1⟩ : ∃ s, nextS 7 m (0, fromV bs (min m 64)) = s := ⟨_, rfl⟩
  obtain ⟨zs, hzs⟩ : ∃ z, (gM m bs k0 st1).1 = z := ⟨_, rfl⟩
  obtain ⟨st2, hs2⟩ : ∃ z, (gM m bs k0 st1).2 = z := ⟨_, rfl⟩
  have hzl : zs.length = k0 * 2 := by rw [← hzs]; exact gM_len m bs st1 k0
  obtain ⟨r24, hr24⟩ : ∃ r, nextV 24 m bs st2 = r := ⟨_, rfl⟩
  obtain ⟨st3', hs3'⟩ : ∃ r, nextS 24 m st2 = r := ⟨_, rfl⟩
  obtain ⟨zs2, st3, hA0, hA1, hA2⟩ : ∃ (zs2 : List Int) (st3 : Nat × Int), (k0 = 0 → zs2 = zs ∧ st3 = st2) ∧ (0 < k0 → r24 = 0 → zs2 = zs.set 1 (zs.getD 0 0) ∧ st3 = st3') ∧ (0 < k0 → r24 ≠ 0 → zs2 = zs ∧ st3 = st3') := by
    by_cases h : k0 = 0
    · exact ⟨zs, st2, fun _ => ⟨rfl, rfl⟩, fun h' => by omega, fun h' => by omega⟩
    · by_cases h2 : r24 = 0
      · exact ⟨_, _, fun h' => absurd h' h, fun _ _ => ⟨rfl, rfl⟩, fun _ h' => absurd h2 h'⟩
      · exact ⟨_, _, fun h' => absurd h' h, fun _ h' => absurd h' h2, fun _ _ => ⟨rfl, rfl⟩⟩
  have hz2l : zs2.length = k0 * 2 := by
    by_cases h : k0 = 0
    · rw [(hA0 h).1]; exact hzl
    · by_cases h2 : r24 = 0
      · rw [(hA1 (by omega) h2).1, List.length_set]; exact hzl
      · rw [(hA2 (by omega) h2).1]; exact hzl
  obtain ⟨d, hd⟩ : ∃ r, nextV 24 m bs st3 = r := ⟨_, rfl⟩
  obtain ⟨st4, hs4⟩ : ∃ r, nextS 24 m st3 = r := ⟨_, rfl⟩
  obtain ⟨ρi, hρ⟩ : ∃ r, nextV 2 m bs st4 = r := ⟨_, rfl⟩
  have hρb := nextV_bd 2 m bs st4 (by omega)
  rw [hρ] at hρb
  obtain ⟨ρ, rfl⟩ : ∃ k : Nat, ρi = k := ⟨ρi.toNat, by omega⟩
  obtain ⟨st5, hs5⟩ : ∃ r, nextS 2 m st4 = r := ⟨_, rfl⟩
  obtain ⟨n, xs, hn31, hF0, hF1⟩ : ∃ (n : Nat) (xs : Nat → Int), n ≤ 31 ∧ (d = 0 → n = 30 + ρ ∧ xs = fun j => (zs2 ++ padM k0 (31 - k0)).getD j 0) ∧ (d ≠ 0 → n = k0 ∧ xs = fun j => zs2.getD j 0) := by
    by_cases h : d = 0
    · exact ⟨30 + ρ, _, by omega, fun _ => ⟨rfl, rfl⟩, fun h' => absurd h h'⟩
    · exact ⟨k0, _, by omega, fun h' => absurd h' h, fun _ => ⟨rfl, rfl⟩⟩
  refine ⟨n, xs, hn31, ?_⟩
  replace hk0 := Lib.hid hk0
  replace hs1 := Lib.hid hs1
  replace hzs := Lib.hid hzs
  replace hs2 := Lib.hid hs2
  replace hr24 := Lib.hid hr24
  replace hs3' := Lib.hid hs3'
  replace hA0 := Lib.hid hA0
  replace hA1 := Lib.hid hA1
  replace hA2 := Lib.hid hA2
  replace hz2l := Lib.hid hz2l
  replace hd := Lib.hid hd
  replace hs4 := Lib.hid hs4
  replace hρ := Lib.hid hρ
  replace hs5 := Lib.hid hs5
  replace hF0 := Lib.hid hF0
  replace hF1 := Lib.hid hF1
  obtain ⟨i0, hi, hz0', hz1', hz2'⟩ := info_parts infoWindow
  replace hi := Lib.hid hi
  replace hz0' := Lib.hid hz0'
  replace hz1' := Lib.hid hz1'
  replace hz2' := Lib.hid hz2'
  intro A cA w hc
  go_enter Try.func37, Try.ntmps37
  go_wp2_with fail
  refine (from_any _ _ _ _ _ _ hc (Nat.le_refl _) hm hb).mono ?_
  rintro e w1 ⟨rfl, hS1, hb1⟩
  have hgl := hS1.lt
  have hz1 := hb1.size
  obtain ⟨g, hg⟩ : ∃ g, w.heap.size = g := ⟨_, rfl⟩
  obtain ⟨B, hS1⟩ : ∃ B, Src w1 B g m bs (0, fromV bs (min m 64)) := ⟨_, by rw [← hg]; exact hS1⟩
  rw [hg] at hgl ⊢
  have hwg : w.heap.size ≤ g := by omega
  have hown0 : (w1.alloc (.cells #[] 51)).ownsRow w1.heap.size 51 2 (.slice (some ⟨w1.heap.size, 0, none⟩) 0 0) 0 ((gM m bs 0 st1).1.map (Value.int .i64)) := own_empty (Whole.new _ _ _) (Nat.le_refl _)
  have hb10 := hb1.alloc hz1 (.cells #[] 51)
  have hS10 := hS1.new (.cells #[] 51)
  clear hc hb1 hS1
  go_wp2_with fail
  refine (next_val _ _ _ _ _ _ _ _ _ hS10 hk0.out hs1.out (by omega) (by omega)).mono ?_
  rintro e w2 ⟨rfl, q0, q1, hS2, hg2⟩
  have hown2 := own_only hown0 hg2 (fun k e => by injection e with e; omega)
  have hb2 := hb10.trans (below_only hg2 hb10.size (fun k e => by injection e with e; omega))
  clear hown0 hb10 hS10 hg2
  go_wp2_with fail
  go_loopw [4, 5, 6] (fun v4 v5 _ wr => ∃ j q g4 c4 : Nat, j + q = k0 ∧ v5 = .int .i64 q ∧ v4 = .slice (some ⟨g4, 0, none⟩) j c4 ∧ wr.ownsRow w1.heap.size 51 2 v4 j ((gM m bs j st1).1.map (Value.int .i64)) ∧ Src wr B g m bs (gM m bs j st1).2 ∧ Below w.heap.size w wr) (fun _ v5 _ _ => (intOf v5).toNat)
  case atStart => exact ⟨0, k0, _, _, by omega, rfl, rfl, hown2, hS2, hb2⟩
  case round =>
    obtain ⟨j, q, g4, c4, hjq, rfl, rfl, hown, hS, hbel⟩ := hrel
    clear hown2 hS2 hb2
    have hbz := hbel.size
    by_cases hq0 : 0 < q
    · have hq0' : (0 : Int) < q := by omega
      have hgs : gM m bs (j + 1) st1 = ((gM m bs j st1).1 ++ [nextV 40 m bs (gM m bs j st1).2, nextV 40 m bs (gM m bs j st1).2 + 1 + nextV 15 m bs (nextS 40 m (gM m bs j st1).2)], nextS 15 m (nextS 40 m (gM m bs j st1).2)) := rfl
      obtain ⟨G, hG⟩ : ∃ G, gM m bs j st1 = G := ⟨_, rfl⟩
      rw [hG] at hgs hown hS
      obtain ⟨zj, sj⟩ := G
      dsimp only at hgs hown hS
      obtain ⟨a, ha⟩ : ∃ r, nextV 40 m bs sj = r := ⟨_, rfl⟩
      obtain ⟨sa, hsa⟩ : ∃ r, nextS 40 m sj = r := ⟨_, rfl⟩
      rw [ha, hsa] at hgs
      obtain ⟨b, hbv⟩ : ∃ r, nextV 15 m bs sa = r := ⟨_, rfl⟩
      obtain ⟨sb, hsb⟩ : ∃ r, nextS 15 m sa = r := ⟨_, rfl⟩
      rw [hbv, hsb] at hgs
      replace hgs := Lib.hid hgs
      replace ha := Lib.hid ha
      replace hsa := Lib.hid hsa
      replace hbv := Lib.hid hbv
      replace hsb := Lib.hid hsb
      clear hG
      go_wp2_with fail
      refine (next_val _ _ _ _ _ _ _ _ _ hS ha.out hsa.out (by omega) (by omega)).mono ?_
      rintro e w3 ⟨rfl, a0, a1, hS3, hg3⟩
      have hown3 := own_only hown hg3 (fun k e => by injection e with e; omega)
      have hb3 := hbel.trans (below_only hg3 hbel.size (fun k e => by injection e with e; omega))
      clear hown hS hbel hg3
      go_wp2_with fail
      refine (next_val _ _ _ _ _ _ _ _ _ hS3 hbv.out hsb.out (by omega) (by omega)).mono ?_
      rintro e w4 ⟨rfl, b0, b1, hS4, hg4⟩
      have hown4 := own_only hown3 hg4 (fun k e => by injection e with e; omega)
      have hb4 := hb3.trans (below_only hg4 hb3.size (fun k e => by injection e with e; omega))
      have hz4 := hb4.size
      clear hown3 hS3 hb3 hg4
      have hlw1 : w1.heap.size ≤ w4.heap.size := by
        have := hown4.lt g4 rfl
        omega
      have hwa : IntKind.i64.wrap (a + 1) = a + 1 := by rw [IntKind.wrap_i64]; omega
      have hwb : IntKind.i64.wrap (a + 1 + b) = a + 1 + b := by rw [IntKind.wrap_i64]; omega
      have hnew := Whole.new w4 51 #[.int .i64 a, .int .i64 (a + 1 + b)]
      have hOqb := hown4.alloc (.cells #[.int .i64 a, .int .i64 (a + 1 + b)] 51)
      go_wp2_with (at_builtin; refine wpList_append_own_at _ rfl _ _ 25 rfl w1.heap.size 51 i0 _ 2 16 Try.underlying25 hi.out hz0'.out hz1'.out hz2'.out rfl (by decide) _ _ _ rfl hOqb ⟨w4.heap.size, 0, none⟩ 1 1 [.int .i64 a, .int .i64 (a + 1 + b)] rfl rfl ?c1 ?c2 ?c3 ?c4 ?c5 ?_)
      case c1 =>
        intro j u hu
        rw [add_zero_off, hnew.cell]
        simpa using hu
      case c2 => simp [Value.oneCell']
      case c3 => simp only [maxLen]; omega
      case c4 => omega
      case c5 => simp; omega
      intro v' wy hown' hgrow _ hat
      have hby := (hb4.alloc hz4 (.cells #[.int .i64 a, .int .i64 (a + 1 + b)] 51)).trans (below_only hgrow (by simp; omega) (fun k hk => by have := (hOqb.lt k hk).1; omega))
      have hSy := (hS4.new (.cells #[.int .i64 a, .int .i64 (a + 1 + b)] 51)).keepOnly hgrow (fun k hk => by have := (hOqb.lt k hk).1; omega)
      have hoy : wy.ownsRow w1.heap.size 51 2 v' (j + 1) ((gM m bs (j + 1) st1).1.map (Value.int .i64)) := by rw [hgs.out]; simpa using hown'
      have hSy2 : Src wy B g m bs (gM m bs (j + 1) st1).2 := by rw [hgs.out]; exact hSy
      obtain ⟨g5, c5, cur5, rfl, -⟩ := own_open hoy (by omega)
      clear hown' hgrow hat hown4 hS4 hb4 hOqb hnew hSy hgs
      obtain ⟨q', rfl⟩ : ∃ q', q = q' + 1 := ⟨q - 1, by omega⟩
      go_wp2
      go_roundw
      case rel => exact ⟨j + 1, q', g5, c5, by omega, by go_num, rfl, hoy, hSy2, hby⟩
      case measure => first | (simp [intOf]; done) | (simp [intOf]; omega)
    · obtain rfl : q = 0 := by omega
      obtain rfl : k0 = j := by omega
      rw [hzs.out] at hown
      rw [hs2.out] at hS
      have hlw1 : w1.heap.size ≤ wr.heap.size := by
        have := hown.lt g4 rfl
        omega
      rcases Nat.eq_zero_or_pos k0 with hk | hk
      · obtain ⟨e3, e4⟩ := hA0.out hk
        subst e3
        subst e4
        have hO := hown
        have hbb := hbel
        have hk00 : ¬ ((0 : Int) < k0) := by omega
        replace hk := Lib.hid hk
        clear hown hbel hA0 hA1 hA2 hzs hs2
        go_wp2_with fail
        refine (next_val _ _ _ _ _ _ _ _ _ hS hd.out hs4.out (by omega) (by omega)).mono ?_
        rintro e wd ⟨rfl, d0, d1, hSd, hgd⟩
        have hOd := own_only hO hgd (fun k e => by injection e with e; omega)
        have hbd := hbb.trans (below_only hgd hbb.size (fun k e => by injection e with e; omega))
        clear hS hO hbb hgd
        by_cases h24 : d = 0
        · subst h24
          obtain ⟨e1, e2⟩ := hF0.out (by trivial)
          subst e2
          go_wp2_with fail
          go_loopw [4] (fun v4 wr => ∃ q g4 c4 : Nat, q ≤ 31 - k0 ∧ v4 = .slice (some ⟨g4, 0, none⟩) (k0 + q) c4 ∧ wr.ownsRow w1.heap.size 51 2 v4 (k0 + q) ((zs2 ++ padM k0 q).map (Value.int .i64)) ∧ Src wr B g m bs st4 ∧ Below w.heap.size w wr) (fun v4 _ => 31 - lenM v4)
          case atStart => exact ⟨0, _, _, by omega, rfl, by simpa [padM] using hOd, hSd, hbd⟩
          case round =>
            obtain ⟨q, g4, c4, hq, rfl, hOq, hSq, hbq⟩ := hrel
            clear hOd hSd hbd
            have hbqz := hbq.size
            by_cases hlt : q < 31 - k0
            · have hlt' : (k0 : Int) + q < 31 := by omega
              have hnew := Whole.new wr 51 #[.int .i64 ((k0 : Int) + q), .int .i64 50]
              have hOqb := (hOq.alloc (.cells #[.int .i64 ((k0 : Int) + q), .int .i64 50] 51))
              have hlw1 : w1.heap.size ≤ wr.heap.size := by
                have := hOq.lt g4 rfl
                omega
              go_wp2_with (at_builtin; refine wpList_append_own_at _ rfl _ _ 25 rfl w1.heap.size 51 i0 _ 2 16 Try.underlying25 hi.out hz0'.out hz1'.out hz2'.out rfl (by decide) _ _ _ rfl hOqb ⟨wr.heap.size, 0, none⟩ 1 1 [.int .i64 ((k0 : Int) + q), .int .i64 50] rfl rfl ?c1 ?c2 ?c3 ?c4 ?c5 ?_)
              case c1 =>
                intro j u hu
                rw [add_zero_off, hnew.cell]
                simpa using hu
              case c2 => simp [Value.oneCell']
              case c3 => simp only [maxLen]; omega
              case c4 => omega
              case c5 => simp; omega
              intro v' wy hown' hgrow _ hat
              have hby := (hbq.alloc hbqz (.cells #[.int .i64 ((k0 : Int) + q), .int .i64 50] 51)).trans (below_only hgrow (by simp; omega) (fun k hk => by have := (hOqb.lt k hk).1; omega))
              have hSy := (hSq.new (.cells #[.int .i64 ((k0 : Int) + q), .int .i64 50] 51)).keepOnly hgrow (fun k hk => by have := (hOqb.lt k hk).1; omega)
              have hoy : wy.ownsRow w1.heap.size 51 2 v' (k0 + (q + 1)) ((zs2 ++ padM k0 (q + 1)).map (Value.int .i64)) := by
                have e : k0 + (q + 1) = k0 + q + 1 := by omega
                rw [e]
                simpa [padM, List.map_append, List.append_assoc] using hown'
              obtain ⟨g5, c5, cur5, rfl, -⟩ := own_open hoy (by omega)
              clear hown' hgrow hat hOq hSq hbq hOqb hnew
              go_wp2
              go_roundw
              case rel => exact ⟨q + 1, g5, c5, by omega, by first | rfl | (congr 1 <;> omega), hoy, hSy, hby⟩
              case measure => simp [lenM]; omega
            · have hq31 : k0 + q = 31 := by omega
              have hq31' : ¬ ((k0 : Int) + q < 31) := by omega
              have hnc6 : k0 + q ≤ c4 := by
                obtain ⟨A6, c6, hv6, h1, -⟩ := own_form hOq
                injection hv6 with _ _ hv6
                omega
              go_wp2_with fail
              refine (next_val _ _ _ _ _ _ _ _ _ hSq hρ.out hs5.out (by omega) (by omega)).mono ?_
              rintro e wf ⟨rfl, f0, f1, hSf, hgf⟩
              have hOf := own_only hOq hgf (fun k e => by injection e with e; omega)
              have hbf := hbq.trans (below_only hgf hbq.size (fun k e => by injection e with e; omega))
              have hl : ((zs2 ++ padM k0 q).map (Value.int .i64)).length = 31 * 2 := by rw [List.length_map, List.length_append, padM_len, hz2l.out]; omega
              have hIf : Ints wf wf.heap.size (some ⟨g4, 0, none⟩) (n * 2) (fun j => (zs2 ++ padM k0 (31 - k0)).getD j 0) := by
                rw [show 31 - k0 = q by omega]
                exact Ints.of_own hOf (Nat.le_refl _) (by rw [hl]; omega) (fun j hj => (cells_of hOf).2 j (by omega))
              have hw30 : IntKind.i64.wrap (30 + (ρ : Int)) = n := by rw [IntKind.wrap_i64]; omega
              have hnc : (n : Int) ≤ c4 := by omega
              have hnc2 : n ≤ c4 := by omega
              replace hIf := Lib.hid hIf
              clear hOq hSq hbq hOf hSf hgf
              go_wp2
              go_ret
              exact ⟨g4, c4, by rw [e1]; rfl, hIf.out, hbf⟩
        · have h24' : (d == 0) = false := by rw [beq_eq_false_iff_ne]; exact h24
          obtain ⟨e1, e2⟩ := hF1.out h24
          subst e2
          subst e1
          have hIf : Ints wd wd.heap.size (some ⟨g4, 0, none⟩) (n * 2) (fun j => zs2.getD j 0) := Ints.of_own hOd (Nat.le_refl _) (by rw [List.length_map, hz2l.out]; omega) (fun j hj => (cells_of hOd).2 j (by omega))
          replace hIf := Lib.hid hIf
          clear hOd hSd
          go_wp2
          go_ret
          exact ⟨g4, _, rfl, hIf.out, hbd⟩
      · have hk0p : (0 : Int) < k0 := by omega
        obtain ⟨g4', cap4, cur4, hv4, -, hW4, hnc4, -, hcs4, hcur4⟩ := own_open hown hk
        injection hv4 with hv4 _ hv5
        injection hv4 with hv4
        injection hv4 with hv4
        subst hv4
        subst hv5
        have hc0 := hcur4 _ _ ((cells_of hown).2 0 (by omega))
        have hsz1 : 1 < cur4.size := by omega
        go_wp2_with fail
        refine (next_val _ _ _ _ _ _ _ _ _ hS hr24.out hs3'.out (by omega) (by omega)).mono ?_
        rintro e w5 ⟨rfl, r0, r1, hS5, hg5⟩
        have hown5 := own_only hown hg5 (fun k e => by injection e with e; omega)
        have hb5 := hbel.trans (below_only hg5 hbel.size (fun k e => by injection e with e; omega))
        have hg4g : g4 ≠ g := by have := (hown.lt g4 rfl).1; omega
        have hW5 := hW4.grown hg5 (fun e => by injection e with e; omega)
        clear hown hS hbel hg5 hW4
        by_cases hr : r24 = 0
        · subst hr
          obtain ⟨e3, e4⟩ := hA1.out hk (by trivial)
          subst e4
          have y0 : w5.cell? ⟨g4, 0, none⟩ = some (.int .i64 (zs.getD 0 0)) := (hW5.cell 0).trans hc0
          obtain ⟨y1v, y1⟩ : ∃ u, w5.cell? ⟨g4, 1, none⟩ = some u := ⟨_, (hW5.cell 1).trans (Array.getElem?_eq_getElem hsz1)⟩
          have f1 := hW5.frz 1
          have h4l := (hown5.lt g4 rfl).1
          have hO := own_setI hown5 1 (zs.getD 0 0)
          rw [← e3] at hO
          clear e3
          have hS : Src (w5.setCell ⟨g4, 1, none⟩ (.int .i64 (zs.getD 0 0))) B g m bs st3 := hS5.keepOnly (row := some g4) ⟨rfl, rfl, rfl, by simp, fun k _ hk => Below.heap_setCell _ _ _ _ (fun e => hk (by rw [e]))⟩ (fun k hk => by injection hk with hk; omega)
          have hbb := hb5.setCell (p := ⟨g4, 1, none⟩) (by show w.heap.size ≤ g4; have := (hown5.lt g4 rfl).1; omega) (.int .i64 (zs.getD 0 0))
          have hlw2 : w1.heap.size ≤ (w5.setCell ⟨g4, 1, none⟩ (.int .i64 (zs.getD 0 0))).heap.size := by have := hO.lt g4 rfl; omega
          generalize zs.getD 0 0 = x0 at *
          clear hown5 hS5 hb5 hW5 hc0 hcur4 hA0 hA1 hA2 hzs hs2
          go_wp2_with fail
          refine (next_val _ _ _ _ _ _ _ _ _ hS hd.out hs4.out (by omega) (by omega)).mono ?_
          rintro e wd ⟨rfl, d0, d1, hSd, hgd⟩
          have hOd := own_only hO hgd (fun k e => by injection e with e; omega)
          have hbd := hbb.trans (below_only hgd hbb.size (fun k e => by injection e with e; omega))
          clear hS hO hbb hgd
          by_cases h24 : d = 0
          · subst h24
            obtain ⟨e1, e2⟩ := hF0.out (by trivial)
            subst e2
            go_wp2_with fail
            go_loopw [4] (fun v4 wr => ∃ q g4 c4 : Nat, q ≤ 31 - k0 ∧ v4 = .slice (some ⟨g4, 0, none⟩) (k0 + q) c4 ∧ wr.ownsRow w1.heap.size 51 2 v4 (k0 + q) ((zs2 ++ padM k0 q).map (Value.int .i64)) ∧ Src wr B g m bs st4 ∧ Below w.heap.size w wr) (fun v4 _ => 31 - lenM v4)
            case atStart => exact ⟨0, _, _, by omega, rfl, by simpa [padM] using hOd, hSd, hbd⟩
            case round =>
              obtain ⟨q, g4, c4, hq, rfl, hOq, hSq, hbq⟩ := hrel
              clear hOd hSd hbd
              have hbqz := hbq.size
              by_cases hlt : q < 31 - k0
              · have hlt' : (k0 : Int) + q < 31 := by omega
                have hnew := Whole.new wr 51 #[.int .i64 ((k0 : Int) + q), .int .i64 50]
                have hOqb := (hOq.alloc (.cells #[.int .i64 ((k0 : Int) + q), .int .i64 50] 51))
                have hlw1 : w1.heap.size ≤ wr.heap.size := by
                  have := hOq.lt g4 rfl
                  omega
                go_wp2_with (at_builtin; refine wpList_append_own_at _ rfl _ _ 25 rfl w1.heap.size 51 i0 _ 2 16 Try.underlying25 hi.out hz0'.out hz1'.out hz2'.out rfl (by decide) _ _ _ rfl hOqb ⟨wr.heap.size, 0, none⟩ 1 1 [.int .i64 ((k0 : Int) + q), .int .i64 50] rfl rfl ?c1 ?c2 ?c3 ?c4 ?c5 ?_)
                case c1 =>
                  intro j u hu
                  rw [add_zero_off, hnew.cell]
                  simpa using hu
                case c2 => simp [Value.oneCell']
                case c3 => simp only [maxLen]; omega
                case c4 => omega
                case c5 => simp; omega
                intro v' wy hown' hgrow _ hat
                have hby := (hbq.alloc hbqz (.cells #[.int .i64 ((k0 : Int) + q), .int .i64 50] 51)).trans (below_only hgrow (by simp; omega) (fun k hk => by have := (hOqb.lt k hk).1; omega))
                have hSy := (hSq.new (.cells #[.int .i64 ((k0 : Int) + q), .int .i64 50] 51)).keepOnly hgrow (fun k hk => by have := (hOqb.lt k hk).1; omega)
                have hoy : wy.ownsRow w1.heap.size 51 2 v' (k0 + (q + 1)) ((zs2 ++ padM k0 (q + 1)).map (Value.int .i64)) := by
                  have e : k0 + (q + 1) = k0 + q + 1 := by omega
                  rw [e]
                  simpa [padM, List.map_append, List.append_assoc] using hown'
                obtain ⟨g5, c5, cur5, rfl, -⟩ := own_open hoy (by omega)
                clear hown' hgrow hat hOq hSq hbq hOqb hnew
                go_wp2
                go_roundw
                case rel => exact ⟨q + 1, g5, c5, by omega, by first | rfl | (congr 1 <;> omega), hoy, hSy, hby⟩
                case measure => simp [lenM]; omega
              · have hq31 : k0 + q = 31 := by omega
                have hq31' : ¬ ((k0 : Int) + q < 31) := by omega
                have hnc6 : k0 + q ≤ c4 := by
                  obtain ⟨A6, c6, hv6, h1, -⟩ := own_form hOq
                  injection hv6 with _ _ hv6
                  omega
                go_wp2_with fail
                refine (next_val _ _ _ _ _ _ _ _ _ hSq hρ.out hs5.out (by omega) (by omega)).mono ?_
                rintro e wf ⟨rfl, f0, f1, hSf, hgf⟩
                have hOf := own_only hOq hgf (fun k e => by injection e with e; omega)
                have hbf := hbq.trans (below_only hgf hbq.size (fun k e => by injection e with e; omega))
                have hl : ((zs2 ++ padM k0 q).map (Value.int .i64)).length = 31 * 2 := by rw [List.length_map, List.length_append, padM_len, hz2l.out]; omega
                have hIf : Ints wf wf.heap.size (some ⟨g4, 0, none⟩) (n * 2) (fun j => (zs2 ++ padM k0 (31 - k0)).getD j 0) := by
                  rw [show 31 - k0 = q by omega]
                  exact Ints.of_own hOf (Nat.le_refl _) (by rw [hl]; omega) (fun j hj => (cells_of hOf).2 j (by omega))
                have hw30 : IntKind.i64.wrap (30 + (ρ : Int)) = n := by rw [IntKind.wrap_i64]; omega
                have hnc : (n : Int) ≤ c4 := by omega
                have hnc2 : n ≤ c4 := by omega
                replace hIf := Lib.hid hIf
                clear hOq hSq hbq hOf hSf hgf
                go_wp2
                go_ret
                exact ⟨g4, c4, by rw [e1]; rfl, hIf.out, hbf⟩
          · have h24' : (d == 0) = false := by rw [beq_eq_false_iff_ne]; exact h24
            obtain ⟨e1, e2⟩ := hF1.out h24
            subst e2
            subst e1
            have hIf : Ints wd wd.heap.size (some ⟨g4, 0, none⟩) (n * 2) (fun j => zs2.getD j 0) := Ints.of_own hOd (Nat.le_refl _) (by rw [List.length_map, hz2l.out]; omega) (fun j hj => (cells_of hOd).2 j (by omega))
            replace hIf := Lib.hid hIf
            clear hOd hSd
            go_wp2
            go_ret
            exact ⟨g4, _, rfl, hIf.out, hbd⟩
        · obtain ⟨e3, e4⟩ := hA2.out hk hr
          subst e3
          subst e4
          have hr0 : (r24 == 0) = false := by rw [beq_eq_false_iff_ne]; exact hr
          have hO := hown5
          have hS := hS5
          have hbb := hb5
          clear hown5 hS5 hb5 hW5 hc0 hcur4 hA0 hA1 hA2 hzs hs2
          go_wp2_with fail
          refine (next_val _ _ _ _ _ _ _ _ _ hS hd.out hs4.out (by omega) (by omega)).mono ?_
          rintro e wd ⟨rfl, d0, d1, hSd, hgd⟩
          have hOd := own_only hO hgd (fun k e => by injection e with e; omega)
          have hbd := hbb.trans (below_only hgd hbb.size (fun k e => by injection e with e; omega))
          clear hS hO hbb hgd
          by_cases h24 : d = 0
          · subst h24
            obtain ⟨e1, e2⟩ := hF0.out (by trivial)
            subst e2
            go_wp2_with fail
            go_loopw [4] (fun v4 wr => ∃ q g4 c4 : Nat, q ≤ 31 - k0 ∧ v4 = .slice (some ⟨g4, 0, none⟩) (k0 + q) c4 ∧ wr.ownsRow w1.heap.size 51 2 v4 (k0 + q) ((zs2 ++ padM k0 q).map (Value.int .i64)) ∧ Src wr B g m bs st4 ∧ Below w.heap.size w wr) (fun v4 _ => 31 - lenM v4)
            case atStart => exact ⟨0, _, _, by omega, rfl, by simpa [padM] using hOd, hSd, hbd⟩
            case round =>
              obtain ⟨q, g4, c4, hq, rfl, hOq, hSq, hbq⟩ := hrel
              clear hOd hSd hbd
              have hbqz := hbq.size
              by_cases hlt : q < 31 - k0
              · have hlt' : (k0 : Int) + q < 31 := by omega
                have hnew := Whole.new wr 51 #[.int .i64 ((k0 : Int) + q), .int .i64 50]
                have hOqb := (hOq.alloc (.cells #[.int .i64 ((k0 : Int) + q), .int .i64 50] 51))
                have hlw1 : w1.heap.size ≤ wr.heap.size := by
                  have := hOq.lt g4 rfl
                  omega
                go_wp2_with (at_builtin; refine wpList_append_own_at _ rfl _ _ 25 rfl w1.heap.size 51 i0 _ 2 16 Try.underlying25 hi.out hz0'.out hz1'.out hz2'.out rfl (by decide) _ _ _ rfl hOqb ⟨wr.heap.size, 0, none⟩ 1 1 [.int .i64 ((k0 : Int) + q), .int .i64 50] rfl rfl ?c1 ?c2 ?c3 ?c4 ?c5 ?_)
                case c1 =>
                  intro j u hu
                  rw [add_zero_off, hnew.cell]
                  simpa using hu
                case c2 => simp [Value.oneCell']
                case c3 => simp only [maxLen]; omega
                case c4 => omega
                case c5 => simp; omega
                intro v' wy hown' hgrow _ hat
                have hby := (hbq.alloc hbqz (.cells #[.int .i64 ((k0 : Int) + q), .int .i64 50] 51)).trans (below_only hgrow (by simp; omega) (fun k hk => by have := (hOqb.lt k hk).1; omega))
                have hSy := (hSq.new (.cells #[.int .i64 ((k0 : Int) + q), .int .i64 50] 51)).keepOnly hgrow (fun k hk => by have := (hOqb.lt k hk).1; omega)
                have hoy : wy.ownsRow w1.heap.size 51 2 v' (k0 + (q + 1)) ((zs2 ++ padM k0 (q + 1)).map (Value.int .i64)) := by
                  have e : k0 + (q + 1) = k0 + q + 1 := by omega
                  rw [e]
                  simpa [padM, List.map_append, List.append_assoc] using hown'
                obtain ⟨g5, c5, cur5, rfl, -⟩ := own_open hoy (by omega)
                clear hown' hgrow hat hOq hSq hbq hOqb hnew
                go_wp2
                go_roundw
                case rel => exact ⟨q + 1, g5, c5, by omega, by first | rfl | (congr 1 <;> omega), hoy, hSy, hby⟩
                case measure => simp [lenM]; omega
              · have hq31 : k0 + q = 31 := by omega
                have hq31' : ¬ ((k0 : Int) + q < 31) := by omega
                have hnc6 : k0 + q ≤ c4 := by
                  obtain ⟨A6, c6, hv6, h1, -⟩ := own_form hOq
                  injection hv6 with _ _ hv6
                  omega
                go_wp2_with fail
                refine (next_val _ _ _ _ _ _ _ _ _ hSq hρ.out hs5.out (by omega) (by omega)).mono ?_
                rintro e wf ⟨rfl, f0, f1, hSf, hgf⟩
                have hOf := own_only hOq hgf (fun k e => by injection e with e; omega)
                have hbf := hbq.trans (below_only hgf hbq.size (fun k e => by injection e with e; omega))
                have hl : ((zs2 ++ padM k0 q).map (Value.int .i64)).length = 31 * 2 := by rw [List.length_map, List.length_append, padM_len, hz2l.out]; omega
                have hIf : Ints wf wf.heap.size (some ⟨g4, 0, none⟩) (n * 2) (fun j => (zs2 ++ padM k0 (31 - k0)).getD j 0) := by
                  rw [show 31 - k0 = q by omega]
                  exact Ints.of_own hOf (Nat.le_refl _) (by rw [hl]; omega) (fun j hj => (cells_of hOf).2 j (by omega))
                have hw30 : IntKind.i64.wrap (30 + (ρ : Int)) = n := by rw [IntKind.wrap_i64]; omega
                have hnc : (n : Int) ≤ c4 := by omega
                have hnc2 : n ≤ c4 := by omega
                replace hIf := Lib.hid hIf
                clear hOq hSq hbq hOf hSf hgf
                go_wp2
                go_ret
                exact ⟨g4, c4, by rw [e1]; rfl, hIf.out, hbf⟩
          · have h24' : (d == 0) = false := by rw [beq_eq_false_iff_ne]; exact h24
            obtain ⟨e1, e2⟩ := hF1.out h24
            subst e2
            subst e1
            have hIf : Ints wd wd.heap.size (some ⟨g4, 0, none⟩) (n * 2) (fun j => zs2.getD j 0) := Ints.of_own hOd (Nat.le_refl _) (by rw [List.length_map, hz2l.out]; omega) (fun j hj => (cells_of hOd).2 j (by omega))
            replace hIf := Lib.hid hIf
            clear hOd hSd
            go_wp2
            go_ret
            exact ⟨g4, _, rfl, hIf.out, hbd⟩
end Go.Proofs.Ytghpaegabppeaaa
