/- The order by corrected times: the reference's. -/
import Derived.Test.YtbmclcajgplpnaaOrd3
set_option linter.unusedSimpArgs false
set_option linter.unusedVariables false
namespace Go.Proofs.Ytbmclcajgplpnaa
open Go.RowKit Go.Shelf

def SInv (v : Int → Int) (P : Int → Bool) (i : Nat) (zs : List Int) : Prop := zs.Pairwise (lexL v) ∧ ∀ x : Int, x ∈ zs ↔ (0 ≤ x ∧ x < i) ∧ P x = true
theorem SInv.skip {v : Int → Int} {P : Int → Bool} {i : Nat} {zs : List Int} (h : SInv v P i zs) (hp : P i = false) : SInv v P (i + 1) zs :=
  ⟨h.1, fun x => by
    rw [h.2]
    constructor
    · rintro ⟨⟨a, b⟩, c⟩; exact ⟨⟨a, by omega⟩, c⟩
    · rintro ⟨⟨a, b⟩, c⟩
      refine ⟨⟨a, ?_⟩, c⟩
      by_cases e : x = i
      · subst e; rw [hp] at c; cases c
      · omega⟩
theorem SInv.ins {v : Int → Int} {P : Int → Bool} {i j : Nat} {zs : List Int} (h : SInv v P i zs) (hp : P i = true) (hj : j ≤ zs.length) (h1 : j = 0 ∨ v (zs.getD (j - 1) 0) ≤ v i) (h2 : ∀ k, j ≤ k → k < zs.length → v i < v (zs.getD k 0)) : SInv v P (i + 1) (zs.take j ++ (i : Int) :: zs.drop j) := by
  have hs := h.1
  have hs' := hs
  rw [← List.take_append_drop j zs, List.pairwise_append] at hs'
  refine ⟨?_, fun x => ?_⟩
  · rw [List.pairwise_append, List.pairwise_cons]
    have hd : ∀ y ∈ zs.drop j, v i < v y := by
      intro y hy
      obtain ⟨k, hk, rfl⟩ := List.getElem_of_mem hy
      rw [List.length_drop] at hk
      have := h2 (j + k) (by omega) (by omega)
      rw [List.getD_eq_getElem?_getD, List.getElem?_eq_getElem (by omega)] at this
      simpa using this
    have ht : ∀ y ∈ zs.take j, lexL v y i := by
      intro y hy
      have hyi := ((h.2 y).1 (List.mem_of_mem_take hy)).1.2
      obtain ⟨k, hk, rfl⟩ := List.getElem_of_mem hy
      rw [List.length_take] at hk
      rw [List.getElem_take] at hyi ⊢
      rcases h1 with h1 | h1
      · omega
      · rw [List.getD_eq_getElem?_getD, List.getElem?_eq_getElem (by omega)] at h1
        simp only [Option.getD_some] at h1
        have hle : v zs[k] ≤ v zs[j - 1] := by
          by_cases e : k = j - 1
          · subst e; exact Int.le_refl _
          · have := List.pairwise_iff_getElem.1 hs k (j - 1) (by omega) (by omega) (by omega)
            unfold lexL at this
            omega
        unfold lexL
        omega
    exact ⟨hs'.1, ⟨fun y hy => .inl (hd y hy), hs'.2.1⟩, fun y hy z hz => by
      rcases List.mem_cons.1 hz with rfl | hz
      · exact ht y hy
      · exact hs'.2.2 y hy z hz⟩
  · have hm : x ∈ zs.take j ++ (i : Int) :: zs.drop j ↔ x = i ∨ x ∈ zs := by
      rw [List.mem_append, List.mem_cons]
      constructor
      · rintro (h | h | h)
        · exact .inr (List.mem_of_mem_take h)
        · exact .inl h
        · exact .inr (List.mem_of_mem_drop h)
      · rintro (h | h)
        · exact .inr (.inl h)
        · rw [← List.take_append_drop j zs, List.mem_append] at h
          rcases h with h | h
          · exact .inl h
          · exact .inr (.inr h)
    rw [hm, h.2]
    constructor
    · rintro (rfl | ⟨⟨a, b⟩, c⟩)
      · exact ⟨⟨by omega, by omega⟩, hp⟩
      · exact ⟨⟨a, by omega⟩, c⟩
    · rintro ⟨⟨a, b⟩, c⟩
      by_cases e : x = i
      · exact .inl e
      · exact .inr ⟨⟨a, by omega⟩, c⟩
theorem SInv.fin {v : Int → Int} {P : Int → Bool} {n : Nat} {zs : List Int} (h : SInv v P n zs) : zs = ordF v P n :=
  lex_ext _ _ h.1 (ordF_pw v P n) (fun x => by rw [h.2, ordF_mem])
set_option maxHeartbeats 2000000 in
theorem cmp22_any (a b c d p q : Int) (hp : a * b = p) (hq : c * d = q) (p0 : 0 ≤ p) (p1 : p ≤ 3000000000000) (q0 : 0 ≤ q) (q1 : q ≤ 3000000000000) (w : World) :
    Calls Try.prog 65 #[.int .i64 a, .int .i64 b, .int .i64 c, .int .i64 d] w fun e w' => e = .returned (.int .i64 (sgV (p - q))) ∧ Below w.heap.size w w' := by
  have hwp : IntKind.i64.wrap p = p := by rw [IntKind.wrap_i64]; omega
  have hwq : IntKind.i64.wrap q = q := by rw [IntKind.wrap_i64]; omega
  by_cases h1 : p < q
  · rw [show sgV (p - q) = -1 by unfold sgV; rw [if_pos (by omega)]]
    go_enter Try.func65, Try.ntmps65
    go_wp2
    go_ret
    exact ⟨rfl, Below.refl _ _⟩
  · by_cases h2 : q < p
    · rw [show sgV (p - q) = 1 by unfold sgV; rw [if_neg (by omega), if_neg (by omega)]]
      go_enter Try.func65, Try.ntmps65
      go_wp2
      go_ret
      exact ⟨rfl, Below.refl _ _⟩
    · rw [show sgV (p - q) = 0 by unfold sgV; rw [if_neg (by omega), if_pos (by omega)]]
      go_enter Try.func65, Try.ntmps65
      go_wp2
      go_ret
      exact ⟨rfl, Below.refl _ _⟩
set_option maxRecDepth 100000 in
set_option maxHeartbeats 16000000 in
theorem sCorrectedOrder_val (m : Int) (A : Option Addr) (n c B : Nat) (xs : Nat → Int) (A2 : Option Addr) (n2 c2 B2 : Nat) (ys : Nat → Int) (w : World) (K : Nat) (L : List Int) (co : Int) (hL : Hid (coL m n xs n2 ys = L)) (hc : Hid (codF m n xs n2 ys = co)) (hK : Hid (L.length = K)) (hx : Ints w B A (n * 3) xs) (hB : B ≤ w.heap.size) (hn : n ≤ 9223372036854775807) (hy : Ints w B2 A2 (n2 * 2) ys) (hB2 : B2 ≤ w.heap.size) (hn2 : n2 ≤ 9223372036854775807) :
    Calls Try.prog 31 #[.int .i64 m, .slice A n c, .slice A2 n2 c2] w fun e w' => Gave 2 1 K w w' e L co := by
  have hcode := l22Code_val m A n c B xs A2 n2 c2 B2 ys w co hc hx hB hn hy hB2 hn2
  replace hcode := Lib.hid hcode
  by_cases h0 : co = 0
  · subst h0
    obtain ⟨e2, hn16, hf, hr⟩ := codF_0 hc.out
    obtain ⟨hm1, hnm⟩ : 1 ≤ n ∧ (n : Int) = m := by
      have h := hc.out
      unfold codF at h
      split at h
      · rename_i hr'
        have := racB_t hr'
        omega
      · cases h
    subst hnm
    have hvb := vF_bd hc.out
    have hLL : Hid (ordF (vF xs ys) (fun k => xs (k.toNat * 3 + 1) == 0) n = L) := Lib.hid (by rw [← hL.out]; unfold coL; rw [if_pos hc.out])
    obtain ⟨b, o, rfl, hbB, hcx⟩ := hx (by omega)
    obtain ⟨b2, o2, rfl, hbB2, hcy⟩ := hy (by omega)
    obtain ⟨v, hv⟩ : ∃ v, vF xs ys = v := ⟨_, rfl⟩
    obtain ⟨P, hP⟩ : ∃ P : Int → Bool, (fun k : Int => xs (k.toNat * 3 + 1) == 0) = P := ⟨_, rfl⟩
    have hvk : ∀ k : Nat, v k = xs (k * 3 + 2) * ys (k * 2 + 1) := fun k => by rw [← hv]; unfold vF; rw [Int.toNat_natCast]
    have hPk : ∀ k : Nat, P k = (xs (k * 3 + 1) == 0) := fun k => by rw [← hP]; simp
    rw [hv] at hvb hLL
    rw [hP] at hLL
    obtain ⟨i0, hi, hz0', hz1', hz2'⟩ := info_parts infoInt64
    replace hi := Lib.hid hi
    replace hz0' := Lib.hid hz0'
    replace hz1' := Lib.hid hz1'
    replace hz2' := Lib.hid hz2'
    replace hvb := Lib.hid hvb
    replace hvk := Lib.hid hvk
    replace hPk := Lib.hid hPk
    replace hcx := Lib.hid hcx
    replace hcy := Lib.hid hcy
    replace e2 := Lib.hid e2
    clear hf hr hx hy hv hP hL
    go_enter Try.func31, Try.ntmps31
    go_wp2_with fail
    refine hcode.out.mono ?_
    rintro e w1 ⟨rfl, hb1⟩
    have hz1 := hb1.size
    have hown0 : (w1.alloc (.cells #[] 2)).ownsRow w.heap.size 2 1 (.slice (some ⟨w1.heap.size, 0, none⟩) 0 0) 0 (([] : List Int).map (Value.int .i64)) := own_empty (Whole.new _ _ _) hz1
    have hb10 := hb1.alloc hz1 (.cells #[] 2)
    clear hcode hb1
    go_wp2_with fail
    go_loopw [9, 10, 11, 12] (fun v9 v10 _ _ wr => ∃ (i nz g cz : Nat) (zs : List Int), i ≤ n ∧ v10 = .int .i64 i ∧ nz ≤ i ∧ v9 = .slice (some ⟨g, 0, none⟩) nz cz ∧ Hid (SInv v P i zs) ∧ wr.ownsRow w.heap.size 2 1 v9 nz (zs.map (Value.int .i64)) ∧ Below w.heap.size w wr) (fun _ v10 _ _ _ => (n - intOf v10).toNat)
    case atStart => exact ⟨0, 0, _, _, [], by omega, rfl, by omega, rfl, Lib.hid ⟨List.Pairwise.nil, fun x => by simp; omega⟩, hown0, hb10⟩
    case round =>
      obtain ⟨i, nz, g, cz, zs, hin, rfl, hnz, rfl, hinv, hown, hbel⟩ := hrel
      clear hown0 hb10
      have hbz := hbel.size
      rename World => wo
      by_cases hlt : i < n
      · have hlt' : (i : Int) < n := by omega
        have gc : wo.cell? ⟨b, o + i * 3 + 1, none⟩ = some (.int .i64 (xs (i * 3 + 1))) := by rw [hbel.cell (by simp; omega)]; exact hcx.out (i * 3 + 1) (by omega)
        have hPi := hPk.out i
        by_cases hc0 : xs (i * 3 + 1) = 0
        · have hPt : P i = true := by rw [hPi, hc0]; rfl
          rw [hc0] at gc
          obtain ⟨p0, p1⟩ := hvb.out i (by omega) (by omega)
          have hpv := hvk.out i
          have gt : wo.cell? ⟨b, o + i * 3 + 2, none⟩ = some (.int .i64 (xs (i * 3 + 2))) := by rw [hbel.cell (by simp; omega)]; exact hcx.out (i * 3 + 2) (by omega)
          have gr : wo.cell? ⟨b2, o2 + i * 2 + 1, none⟩ = some (.int .i64 (ys (i * 2 + 1))) := by rw [hbel.cell (by simp; omega)]; exact hcy.out (i * 2 + 1) (by have := e2.out; omega)
          generalize xs (i * 3 + 2) = ti at gt hpv
          generalize ys (i * 2 + 1) = ri at gr hpv
          obtain ⟨p, hp⟩ : ∃ p, v i = p := ⟨_, rfl⟩
          rw [hp] at p0 p1 hpv
          replace hp := Lib.hid hp
          obtain ⟨g', cap, cur, hv', hgb, hW, hnzc, hcm, -, hcur⟩ : ∃ g' cap cur, (Value.slice (some ⟨g, 0, none⟩) nz cz) = .slice (some ⟨g', 0, none⟩) nz cap ∧ w.heap.size ≤ g' ∧ Whole wo g' 2 cur ∧ nz ≤ cap ∧ cap ≤ maxLen ∧ cur.size = cap * 1 ∧ (∀ (j : Nat) (u : Value), (zs.map (Value.int .i64))[j]? = some u → cur[j]? = some u) := by
            rcases hown.2 with ⟨e, _⟩ | ⟨g', cap', cur, e, h1, h2, h3, h4, h5, h6⟩
            · cases e
            · refine ⟨g', cap', cur, e, h1, h2, h3, h4, h5, fun j u hu => ?_⟩
              rw [← h6, List.getElem?_take] at hu
              split at hu
              · simpa using hu
              · cases hu
          injection hv' with hv1 _ hv3
          injection hv1 with hv1
          injection hv1 with hv1
          subst hv1
          subst hv3
          obtain ⟨hzl, hcs⟩ := cells_of hown
          rw [Nat.mul_one] at hzl
          have hcell : Hid (∀ k, k < nz → cur[k]? = some (.int .i64 (zs.getD k 0))) := Lib.hid (fun k hk => hcur _ _ (hcs _ (by omega)))
          have hmem : Hid (∀ k, k < nz → 0 ≤ zs.getD k 0 ∧ zs.getD k 0 < i) := Lib.hid (fun k hk => by
            have hl : k < zs.length := by omega
            exact ((hinv.out.2 (zs.getD k 0)).1 (by rw [List.getD_eq_getElem?_getD, List.getElem?_eq_getElem hl]; exact List.getElem_mem _)).1)
          have hgl := hW.lt
          replace hpv := Lib.hid hpv
          replace hW := Lib.hid hW
          replace hcur := Lib.hid hcur
          clear hcs hPi
          go_wp2_with fail
          go_loopw [11] (fun v11 wr => ∃ j : Nat, j ≤ nz ∧ v11 = .int .i64 j ∧ Hid (∀ k, j ≤ k → k < nz → v i < v (zs.getD k 0)) ∧ Below wo.heap.size wo wr) (fun v11 _ => (intOf v11).toNat)
          case atStart => exact ⟨nz, Nat.le_refl _, rfl, Lib.hid (fun k h1 h2 => by omega), Below.refl _ _⟩
          case round =>
            obtain ⟨j, hj, rfl, hgt, hbr⟩ := hrel
            have hbrz := hbr.size
            have fin : (j = 0 ∨ v (zs.getD (j - 1) 0) ≤ v i) → Hid (SInv v P (i + 1) (zs.take j ++ (i : Int) :: zs.drop j)) := fun h => Lib.hid (hinv.out.ins hPt (by omega) h (fun k h1 h2 => hgt.out k h1 (by omega)))
            replace fin := Lib.hid fin
            by_cases hj0 : 0 < j
            · obtain ⟨q, hqj⟩ : ∃ q, q + 1 = j := ⟨j - 1, by omega⟩
              have hqj2 : (j : Int) - 1 = q := by omega
              have hqj3 : IntKind.i64.wrap ((j : Int) - 1) = q := by rw [IntKind.wrap_i64]; omega
              have hqj4 : j - 1 = q := by omega
              have hcq := hcell.out q (by omega)
              obtain ⟨z0, z1⟩ := hmem.out q (by omega)
              have hnextg : v i < v (zs.getD q 0) → Hid (∀ k, q ≤ k → k < nz → v i < v (zs.getD k 0)) := fun h => Lib.hid (fun k h1 h2 => by
                by_cases e : k = q
                · subst e; exact h
                · exact hgt.out k (by omega) h2)
              have fin2 : ¬ v i < v (zs.getD q 0) → Hid (SInv v P (i + 1) (zs.take j ++ (i : Int) :: zs.drop j)) := fun h => fin.out (.inr (by rw [hqj4]; omega))
              obtain ⟨κ, hκ⟩ : ∃ κ : Nat, zs.getD q 0 = κ := ⟨(zs.getD q 0).toNat, by omega⟩
              rw [hκ] at hcq z0 z1 hnextg fin2
              have C0 : ∀ u : Over wr, u.w.cell? ⟨g, q, none⟩ = some (.int .i64 κ) := fun u => u.cell (by show g < _; omega) (by rw [hbr.cell hgl, hW.out.cell]; exact hcq)
              obtain ⟨q0, q1⟩ := hvb.out κ (by omega) (by omega)
              have hqv := hvk.out κ
              have d4 : wo.cell? ⟨b, o + κ * 3 + 2, none⟩ = some (.int .i64 (xs (κ * 3 + 2))) := by rw [hbel.cell (by simp; omega)]; exact hcx.out (κ * 3 + 2) (by omega)
              have d5 : wo.cell? ⟨b2, o2 + κ * 2 + 1, none⟩ = some (.int .i64 (ys (κ * 2 + 1))) := by rw [hbel.cell (by simp; omega)]; exact hcy.out (κ * 2 + 1) (by have := e2.out; omega)
              generalize xs (κ * 3 + 2) = tk at d4 hqv
              generalize ys (κ * 2 + 1) = rk at d5 hqv
              have C1 : ∀ u : Over wr, u.w.cell? ⟨b, o + i * 3 + 2, none⟩ = some (.int .i64 ti) := fun u => u.cell (by show b < _; omega) (by rw [hbr.cell (by show b < _; omega)]; exact gt)
              have C2 : ∀ u : Over wr, u.w.cell? ⟨b2, o2 + i * 2 + 1, none⟩ = some (.int .i64 ri) := fun u => u.cell (by show b2 < _; omega) (by rw [hbr.cell (by show b2 < _; omega)]; exact gr)
              have C4 : ∀ u : Over wr, u.w.cell? ⟨b, o + κ * 3 + 2, none⟩ = some (.int .i64 tk) := fun u => u.cell (by show b < _; omega) (by rw [hbr.cell (by show b < _; omega)]; exact d4)
              have C5 : ∀ u : Over wr, u.w.cell? ⟨b2, o2 + κ * 2 + 1, none⟩ = some (.int .i64 rk) := fun u => u.cell (by show b2 < _; omega) (by rw [hbr.cell (by show b2 < _; omega)]; exact d5)
              rw [hp.out] at hnextg fin2
              have hcmp := fun W => cmp22_any ti ri tk rk p (v κ) hpv.out.symm hqv.symm p0 p1 q0 q1 W
              generalize v κ = r at q0 q1 hqv hnextg fin2 hcmp
              have hκi : (κ : Int) < n := by omega
              have hκi2 : κ < i := by omega
              have hqgt : (0 : Int) < (j : Int) := by omega
              have hin2 : (i : Int) < n2 := by have := e2.out; omega
              have hκn2 : (κ : Int) < n2 := by have := e2.out; omega
              clear hqv d4 d5 hcq hκ
              by_cases hlv : p < r
              · have hs : sgV (p - r) = -1 := by unfold sgV; rw [if_pos (by omega)]
                rw [hs] at hcmp
                have hg2 := hnextg hlv
                replace hcmp := Lib.hid hcmp
                clear hnextg fin2 fin
                go_wp2_with fail
                refine wp_region_over (by kernel_rfl) (by kernel_rfl) ?_
                repeat (go_big_quiet_step ((go_at_call 65; exact over_call (hcmp.out _))))
                refine wpQuiet_nil ?_
                rintro _ ⟨u, rfl⟩
                clear C0 C1 C2 C4 C5
                go_wp2
                go_roundw
                case rel => exact ⟨q, by omega, by go_num, by rw [hp.out]; exact hg2, hbr.trans (u.ok.mono hbrz)⟩
                case measure => first | (simp [intOf]; done) | (simp [intOf]; omega)
              · have hs : 0 ≤ sgV (p - r) := by unfold sgV; rw [if_neg (by omega)]; split <;> omega
                generalize sgV (p - r) = s at hs hcmp
                have hsn : ¬ s < 0 := by omega
                have hfin := fin2 hlv
                replace hcmp := Lib.hid hcmp
                clear hnextg fin2 fin
                go_wp2_with fail
                refine wp_region_over (by kernel_rfl) (by kernel_rfl) ?_
                repeat (go_big_quiet_step ((go_at_call 65; exact over_call (hcmp.out _))))
                refine wpQuiet_nil ?_
                rintro _ ⟨u, rfl⟩
                clear C0 C1 C2 C4 C5
                have hbu := hbr.trans (u.ok.mono hbrz)
                have hW3 := hW.out.below hbu hgl
                have hb3 := hbel.trans (hbu.mono hbz)
                have hz3 := hb3.size
                have hgl3 : g < u.w.heap.size := hW3.lt
                have hji : (j : Int) ≤ nz := by omega
                have hjc : j ≤ cz := by omega
                obtain ⟨M1, hM1⟩ : ∃ M, (zs.drop j).map (Value.int .i64) = M := ⟨_, rfl⟩
                obtain ⟨M2, hM2⟩ : ∃ M, (zs.take j).map (Value.int .i64) = M := ⟨_, rfl⟩
                have hl1 : M1.length = nz - j := by rw [← hM1]; simp; omega
                have hl2 : M2.length = j := by rw [← hM2]; simp; omega
                have hget1 : ∀ k x, M1[k]? = some x → cur[j + k]? = some x := fun k x h => hcur.out _ _ (by rw [← hM1, List.map_drop, List.getElem?_drop] at h; exact h)
                have hget2 : ∀ k x, M2[k]? = some x → cur[k]? = some x := fun k x h => hcur.out _ _ (by
                  rw [← hM2, List.map_take, List.getElem?_take] at h
                  split at h
                  · exact h
                  · cases h)
                have h1c1 : ∀ x ∈ M1, x.oneCell' = true := fun x hx => by rw [← hM1] at hx; obtain ⟨y, -, rfl⟩ := List.mem_map.1 hx; rfl
                have h1c2 : ∀ x ∈ M2, x.oneCell' = true := fun x hx => by rw [← hM2] at hx; obtain ⟨y, -, rfl⟩ := List.mem_map.1 hx; rfl
                have hMM : M2 ++ ([Value.int .i64 (i : Int)] ++ M1) = (zs.take j ++ (i : Int) :: zs.drop j).map (Value.int .i64) := by rw [← hM1, ← hM2]; simp
                obtain ⟨zz, hzz⟩ : ∃ z, zs.take j ++ (i : Int) :: zs.drop j = z := ⟨_, rfl⟩
                rw [hzz] at hMM hfin
                have hLit := World.ownsRow_lit (base := w.heap.size) (size := 1) (e := 2) u.w #[.int .i64 (i : Int)] 1 hz3 (by simp [maxLen]) rfl
                obtain ⟨w3, hw3⟩ : ∃ W, u.w.alloc (.cells #[.int .i64 (i : Int)] 2) = W := ⟨_, rfl⟩
                have hW4 : Whole w3 g 2 cur := by rw [← hw3]; exact hW3.alloc _
                have hb4 : Below w.heap.size w w3 := by rw [← hw3]; exact hb3.alloc hz3 _
                have hz43 : w3.heap.size = u.w.heap.size + 1 := by rw [← hw3]; simp
                have hcl1 : ∀ k x, M1[k]? = some x → w3.cell? ((⟨g, j, none⟩ : Addr).add k) = some x := fun k x h => by
                  rw [show (⟨g, j, none⟩ : Addr).add k = ⟨g, j + k, none⟩ by simp [Addr.add]]
                  rw [hW4.cell]
                  exact hget1 k x h
                rw [← hw3] at hcl1
                have hLit' := hLit
                rw [hw3] at hLit'
                replace hM1 := Lib.hid hM1
                replace hM2 := Lib.hid hM2
                replace hget1 := Lib.hid hget1
                replace hget2 := Lib.hid hget2
                replace hMM := Lib.hid hMM
                replace hzz := Lib.hid hzz
                replace hLit := Lib.hid hLit
                replace hcl1 := Lib.hid hcl1
                replace h1c1 := Lib.hid h1c1
                replace h1c2 := Lib.hid h1c2
                replace hw3 := Lib.hid hw3
                clear hcell hmem hgt hbr hinv hown hbel hbu
                rcases Nat.lt_or_ge j cz with hczj | hczj
                · have hczj' : ¬ cz = j := by omega
                  go_wp2_with (at_builtin; refine wpList_append_own_at _ rfl _ _ 39 rfl w.heap.size 2 i0 _ 1 8 Try.underlying39 hi.out hz0'.out hz1'.out hz2'.out rfl (by decide) _ _ _ rfl hLit.out _ _ _ M1 rfl (by omega) (fun k x hkx => by first | exact hcl1.out k x hkx | (exfalso; have hz : M1 = [] := List.length_eq_zero_iff.1 (by omega); rw [hz] at hkx; simp at hkx)) h1c1.out (by unfold maxLen; omega) (by omega) (by simp; omega) ?_)
                  intro va wA hownA hgrowA _ hatA
                  have hw3' := hw3.out
                  rw [hw3'] at hgrowA
                  replace hgrowA : w3.grownBy wA (some u.w.heap.size) := hgrowA
                  obtain ⟨gA, cA, curA, rfl, hgAb, hWA, hncA, hcmA, -, hcurA⟩ := own_open hownA (by omega)
                  have hWgA : Whole wA g 2 cur := hW4.grown hgrowA (fun e => by injection e with e; omega)
                  have hbA : Below w.heap.size w wA := hb4.trans (below_only hgrowA hb4.size (fun k hk => by injection hk with hk; omega))
                  have hzA := hgrowA.size
                  have hzA2 := hbA.size
                  have hgA := hWA.lt
                  have hLit2 : (wA.alloc (.cells #[] 2)).ownsRow w.heap.size 2 1 (.slice (some ⟨wA.heap.size, 0, none⟩) 0 0) 0 [] := own_empty (Whole.new _ _ _) hzA2
                  have hcl2 : ∀ k x, M2[k]? = some x → (wA.alloc (.cells #[] 2)).cell? ((⟨g, 0, none⟩ : Addr).add k) = some x := fun k x h => by
                    rw [add_zero_off, (hWgA.alloc _).cell]
                    exact hget2.out k x h
                  have hWA2 := hWA.alloc (.cells #[] 2)
                  have hbA2 : Below w.heap.size w (wA.alloc (.cells #[] 2)) := hbA.alloc hzA2 _
                  replace hLit2 := Lib.hid hLit2
                  replace hcl2 := Lib.hid hcl2
                  replace hWA2 := Lib.hid hWA2
                  replace hbA2 := Lib.hid hbA2
                  replace hcurA := Lib.hid hcurA
                  clear hw3' hgrowA hatA hownA hWgA hW4 hLit hcl1 hWA hbA hb4 hLit' hb3 hW3
                  go_wp2_with (at_builtin; refine wpList_append_own_at _ rfl _ _ 39 rfl w.heap.size 2 i0 _ 1 8 Try.underlying39 hi.out hz0'.out hz1'.out hz2'.out rfl (by decide) _ _ _ rfl hLit2.out ⟨g, 0, none⟩ _ _ M2 rfl (by omega) (fun k x hkx => hcl2.out k x hkx) h1c2.out (by unfold maxLen; omega) (by omega) (by simp; omega) ?_)
                  intro vb wB hownB hgrowB _ hatB
                  replace hgrowB : (wA.alloc (.cells #[] 2)).grownBy wB (some wA.heap.size) := hgrowB
                  have hWB := hWA2.out.grown hgrowB (fun e => by injection e with e; omega)
                  have hbB := hbA2.out.trans (below_only hgrowB hbA2.out.size (fun k hk => by injection hk with hk; omega))
                  have hzB := hbB.size
                  have hcl3 : ∀ k x, ([Value.int .i64 (i : Int)] ++ M1)[k]? = some x → wB.cell? ((⟨gA, 0, none⟩ : Addr).add k) = some x := fun k x h => by
                    rw [add_zero_off, hWB.cell]
                    exact hcurA.out k x h
                  have hl3 : ([Value.int .i64 (i : Int)] ++ M1).length = 1 + (nz - j) := by simp; omega
                  have h1c3 : ∀ x ∈ ([Value.int .i64 (i : Int)] ++ M1), x.oneCell' = true := fun x hx => by
                    rcases List.mem_append.1 hx with h | h
                    · rw [List.mem_singleton] at h; subst h; rfl
                    · exact h1c1.out x h
                  obtain ⟨M3, hM3⟩ : ∃ M, [Value.int .i64 (i : Int)] ++ M1 = M := ⟨_, rfl⟩
                  rw [hM3] at hcl3 hl3 h1c3
                  replace hM3 := Lib.hid hM3
                  replace hcl3 := Lib.hid hcl3
                  replace h1c3 := Lib.hid h1c3
                  clear hgrowB hatB hLit2 hcl2 hWA2 hbA2 hWB
                  go_wp2_with (at_builtin; refine wpList_append_own_at _ rfl _ _ 39 rfl w.heap.size 2 i0 _ 1 8 Try.underlying39 hi.out hz0'.out hz1'.out hz2'.out rfl (by decide) _ _ _ rfl hownB ⟨gA, 0, none⟩ _ _ M3 rfl (by omega) (fun k x hkx => hcl3.out k x hkx) h1c3.out (by unfold maxLen; omega) (by omega) (by omega) ?_)
                  intro vc wC hownC hgrowC _ hatC
                  have hbC := hbB.trans (below_only hgrowC hzB (fun k hk => (hownB.lt k hk).1))
                  have hoyC : wC.ownsRow w.heap.size 2 1 vc (nz + 1) (zz.map (Value.int .i64)) := by
                    rw [← hMM.out, hM3.out, show nz + 1 = j + (1 + (nz - j)) by omega]
                    exact hownC
                  obtain ⟨gC, cC, curC, rfl, -⟩ := own_open hoyC (by omega)
                  clear hownC hgrowC hatC hownB hbB hcl3 h1c3
                  go_wp2
                  go_roundw
                  case rel => exact ⟨i + 1, nz + 1, gC, cC, zz, by omega, by go_num, by omega, rfl, hfin, hoyC, hbC⟩
                  case measure => first | (simp [intOf]; done) | (simp [intOf]; omega)
                · have hczj' : cz = j := by omega
                  go_wp2_with (at_builtin; refine wpList_append_own_at _ rfl _ _ 39 rfl w.heap.size 2 i0 _ 1 8 Try.underlying39 hi.out hz0'.out hz1'.out hz2'.out rfl (by decide) _ _ _ rfl hLit.out _ _ _ M1 rfl (by omega) (fun k x hkx => by first | exact hcl1.out k x hkx | (exfalso; have hz : M1 = [] := List.length_eq_zero_iff.1 (by omega); rw [hz] at hkx; simp at hkx)) h1c1.out (by unfold maxLen; omega) (by omega) (by simp; omega) ?_)
                  intro va wA hownA hgrowA _ hatA
                  have hw3' := hw3.out
                  rw [hw3'] at hgrowA
                  replace hgrowA : w3.grownBy wA (some u.w.heap.size) := hgrowA
                  obtain ⟨gA, cA, curA, rfl, hgAb, hWA, hncA, hcmA, -, hcurA⟩ := own_open hownA (by omega)
                  have hWgA : Whole wA g 2 cur := hW4.grown hgrowA (fun e => by injection e with e; omega)
                  have hbA : Below w.heap.size w wA := hb4.trans (below_only hgrowA hb4.size (fun k hk => by injection hk with hk; omega))
                  have hzA := hgrowA.size
                  have hzA2 := hbA.size
                  have hgA := hWA.lt
                  have hLit2 : (wA.alloc (.cells #[] 2)).ownsRow w.heap.size 2 1 (.slice (some ⟨wA.heap.size, 0, none⟩) 0 0) 0 [] := own_empty (Whole.new _ _ _) hzA2
                  have hcl2 : ∀ k x, M2[k]? = some x → (wA.alloc (.cells #[] 2)).cell? ((⟨g, 0, none⟩ : Addr).add k) = some x := fun k x h => by
                    rw [add_zero_off, (hWgA.alloc _).cell]
                    exact hget2.out k x h
                  have hWA2 := hWA.alloc (.cells #[] 2)
                  have hbA2 : Below w.heap.size w (wA.alloc (.cells #[] 2)) := hbA.alloc hzA2 _
                  replace hLit2 := Lib.hid hLit2
                  replace hcl2 := Lib.hid hcl2
                  replace hWA2 := Lib.hid hWA2
                  replace hbA2 := Lib.hid hbA2
                  replace hcurA := Lib.hid hcurA
                  clear hw3' hgrowA hatA hownA hWgA hW4 hLit hcl1 hWA hbA hb4 hLit' hb3 hW3
                  go_wp2_with (at_builtin; refine wpList_append_own_at _ rfl _ _ 39 rfl w.heap.size 2 i0 _ 1 8 Try.underlying39 hi.out hz0'.out hz1'.out hz2'.out rfl (by decide) _ _ _ rfl hLit2.out ⟨g, 0, none⟩ _ _ M2 rfl (by omega) (fun k x hkx => hcl2.out k x hkx) h1c2.out (by unfold maxLen; omega) (by omega) (by simp; omega) ?_)
                  intro vb wB hownB hgrowB _ hatB
                  replace hgrowB : (wA.alloc (.cells #[] 2)).grownBy wB (some wA.heap.size) := hgrowB
                  have hWB := hWA2.out.grown hgrowB (fun e => by injection e with e; omega)
                  have hbB := hbA2.out.trans (below_only hgrowB hbA2.out.size (fun k hk => by injection hk with hk; omega))
                  have hzB := hbB.size
                  have hcl3 : ∀ k x, ([Value.int .i64 (i : Int)] ++ M1)[k]? = some x → wB.cell? ((⟨gA, 0, none⟩ : Addr).add k) = some x := fun k x h => by
                    rw [add_zero_off, hWB.cell]
                    exact hcurA.out k x h
                  have hl3 : ([Value.int .i64 (i : Int)] ++ M1).length = 1 + (nz - j) := by simp; omega
                  have h1c3 : ∀ x ∈ ([Value.int .i64 (i : Int)] ++ M1), x.oneCell' = true := fun x hx => by
                    rcases List.mem_append.1 hx with h | h
                    · rw [List.mem_singleton] at h; subst h; rfl
                    · exact h1c1.out x h
                  obtain ⟨M3, hM3⟩ : ∃ M, [Value.int .i64 (i : Int)] ++ M1 = M := ⟨_, rfl⟩
                  rw [hM3] at hcl3 hl3 h1c3
                  replace hM3 := Lib.hid hM3
                  replace hcl3 := Lib.hid hcl3
                  replace h1c3 := Lib.hid h1c3
                  clear hgrowB hatB hLit2 hcl2 hWA2 hbA2 hWB
                  go_wp2_with (at_builtin; refine wpList_append_own_at _ rfl _ _ 39 rfl w.heap.size 2 i0 _ 1 8 Try.underlying39 hi.out hz0'.out hz1'.out hz2'.out rfl (by decide) _ _ _ rfl hownB ⟨gA, 0, none⟩ _ _ M3 rfl (by omega) (fun k x hkx => hcl3.out k x hkx) h1c3.out (by unfold maxLen; omega) (by omega) (by omega) ?_)
                  intro vc wC hownC hgrowC _ hatC
                  have hbC := hbB.trans (below_only hgrowC hzB (fun k hk => (hownB.lt k hk).1))
                  have hoyC : wC.ownsRow w.heap.size 2 1 vc (nz + 1) (zz.map (Value.int .i64)) := by
                    rw [← hMM.out, hM3.out, show nz + 1 = j + (1 + (nz - j)) by omega]
                    exact hownC
                  obtain ⟨gC, cC, curC, rfl, -⟩ := own_open hoyC (by omega)
                  clear hownC hgrowC hatC hownB hbB hcl3 h1c3
                  go_wp2
                  go_roundw
                  case rel => exact ⟨i + 1, nz + 1, gC, cC, zz, by omega, by go_num, by omega, rfl, hfin, hoyC, hbC⟩
                  case measure => first | (simp [intOf]; done) | (simp [intOf]; omega)
            · have hnj : ¬ ((0 : Int) < (j : Int)) := by omega
              have hfin := fin.out (.inl (by omega))
              clear fin
              go_wp2_with fail
              refine wp_region_over (by kernel_rfl) (by kernel_rfl) ?_
              repeat (go_big_quiet_step (fail))
              refine wpQuiet_nil ?_
              rintro _ ⟨u, rfl⟩
              have hbu := hbr.trans (u.ok.mono hbrz)
              have hW3 := hW.out.below hbu hgl
              have hb3 := hbel.trans (hbu.mono hbz)
              have hz3 := hb3.size
              have hgl3 : g < u.w.heap.size := hW3.lt
              have hji : (j : Int) ≤ nz := by omega
              have hjc : j ≤ cz := by omega
              obtain ⟨M1, hM1⟩ : ∃ M, (zs.drop j).map (Value.int .i64) = M := ⟨_, rfl⟩
              obtain ⟨M2, hM2⟩ : ∃ M, (zs.take j).map (Value.int .i64) = M := ⟨_, rfl⟩
              have hl1 : M1.length = nz - j := by rw [← hM1]; simp; omega
              have hl2 : M2.length = j := by rw [← hM2]; simp; omega
              have hget1 : ∀ k x, M1[k]? = some x → cur[j + k]? = some x := fun k x h => hcur.out _ _ (by rw [← hM1, List.map_drop, List.getElem?_drop] at h; exact h)
              have hget2 : ∀ k x, M2[k]? = some x → cur[k]? = some x := fun k x h => hcur.out _ _ (by
                rw [← hM2, List.map_take, List.getElem?_take] at h
                split at h
                · exact h
                · cases h)
              have h1c1 : ∀ x ∈ M1, x.oneCell' = true := fun x hx => by rw [← hM1] at hx; obtain ⟨y, -, rfl⟩ := List.mem_map.1 hx; rfl
              have h1c2 : ∀ x ∈ M2, x.oneCell' = true := fun x hx => by rw [← hM2] at hx; obtain ⟨y, -, rfl⟩ := List.mem_map.1 hx; rfl
              have hMM : M2 ++ ([Value.int .i64 (i : Int)] ++ M1) = (zs.take j ++ (i : Int) :: zs.drop j).map (Value.int .i64) := by rw [← hM1, ← hM2]; simp
              obtain ⟨zz, hzz⟩ : ∃ z, zs.take j ++ (i : Int) :: zs.drop j = z := ⟨_, rfl⟩
              rw [hzz] at hMM hfin
              have hLit := World.ownsRow_lit (base := w.heap.size) (size := 1) (e := 2) u.w #[.int .i64 (i : Int)] 1 hz3 (by simp [maxLen]) rfl
              obtain ⟨w3, hw3⟩ : ∃ W, u.w.alloc (.cells #[.int .i64 (i : Int)] 2) = W := ⟨_, rfl⟩
              have hW4 : Whole w3 g 2 cur := by rw [← hw3]; exact hW3.alloc _
              have hb4 : Below w.heap.size w w3 := by rw [← hw3]; exact hb3.alloc hz3 _
              have hz43 : w3.heap.size = u.w.heap.size + 1 := by rw [← hw3]; simp
              have hcl1 : ∀ k x, M1[k]? = some x → w3.cell? ((⟨g, j, none⟩ : Addr).add k) = some x := fun k x h => by
                rw [show (⟨g, j, none⟩ : Addr).add k = ⟨g, j + k, none⟩ by simp [Addr.add]]
                rw [hW4.cell]
                exact hget1 k x h
              rw [← hw3] at hcl1
              have hLit' := hLit
              rw [hw3] at hLit'
              replace hM1 := Lib.hid hM1
              replace hM2 := Lib.hid hM2
              replace hget1 := Lib.hid hget1
              replace hget2 := Lib.hid hget2
              replace hMM := Lib.hid hMM
              replace hzz := Lib.hid hzz
              replace hLit := Lib.hid hLit
              replace hcl1 := Lib.hid hcl1
              replace h1c1 := Lib.hid h1c1
              replace h1c2 := Lib.hid h1c2
              replace hw3 := Lib.hid hw3
              clear hcell hmem hgt hbr hinv hown hbel hbu
              rcases Nat.lt_or_ge j cz with hczj | hczj
              · have hczj' : ¬ cz = j := by omega
                go_wp2_with (at_builtin; refine wpList_append_own_at _ rfl _ _ 39 rfl w.heap.size 2 i0 _ 1 8 Try.underlying39 hi.out hz0'.out hz1'.out hz2'.out rfl (by decide) _ _ _ rfl hLit.out _ _ _ M1 rfl (by omega) (fun k x hkx => by first | exact hcl1.out k x hkx | (exfalso; have hz : M1 = [] := List.length_eq_zero_iff.1 (by omega); rw [hz] at hkx; simp at hkx)) h1c1.out (by unfold maxLen; omega) (by omega) (by simp; omega) ?_)
                intro va wA hownA hgrowA _ hatA
                have hw3' := hw3.out
                rw [hw3'] at hgrowA
                replace hgrowA : w3.grownBy wA (some u.w.heap.size) := hgrowA
                obtain ⟨gA, cA, curA, rfl, hgAb, hWA, hncA, hcmA, -, hcurA⟩ := own_open hownA (by omega)
                have hWgA : Whole wA g 2 cur := hW4.grown hgrowA (fun e => by injection e with e; omega)
                have hbA : Below w.heap.size w wA := hb4.trans (below_only hgrowA hb4.size (fun k hk => by injection hk with hk; omega))
                have hzA := hgrowA.size
                have hzA2 := hbA.size
                have hgA := hWA.lt
                have hLit2 : (wA.alloc (.cells #[] 2)).ownsRow w.heap.size 2 1 (.slice (some ⟨wA.heap.size, 0, none⟩) 0 0) 0 [] := own_empty (Whole.new _ _ _) hzA2
                have hcl2 : ∀ k x, M2[k]? = some x → (wA.alloc (.cells #[] 2)).cell? ((⟨g, 0, none⟩ : Addr).add k) = some x := fun k x h => by
                  rw [add_zero_off, (hWgA.alloc _).cell]
                  exact hget2.out k x h
                have hWA2 := hWA.alloc (.cells #[] 2)
                have hbA2 : Below w.heap.size w (wA.alloc (.cells #[] 2)) := hbA.alloc hzA2 _
                replace hLit2 := Lib.hid hLit2
                replace hcl2 := Lib.hid hcl2
                replace hWA2 := Lib.hid hWA2
                replace hbA2 := Lib.hid hbA2
                replace hcurA := Lib.hid hcurA
                clear hw3' hgrowA hatA hownA hWgA hW4 hLit hcl1 hWA hbA hb4 hLit' hb3 hW3
                go_wp2_with (at_builtin; refine wpList_append_own_at _ rfl _ _ 39 rfl w.heap.size 2 i0 _ 1 8 Try.underlying39 hi.out hz0'.out hz1'.out hz2'.out rfl (by decide) _ _ _ rfl hLit2.out ⟨g, 0, none⟩ _ _ M2 rfl (by omega) (fun k x hkx => hcl2.out k x hkx) h1c2.out (by unfold maxLen; omega) (by omega) (by simp; omega) ?_)
                intro vb wB hownB hgrowB _ hatB
                replace hgrowB : (wA.alloc (.cells #[] 2)).grownBy wB (some wA.heap.size) := hgrowB
                have hWB := hWA2.out.grown hgrowB (fun e => by injection e with e; omega)
                have hbB := hbA2.out.trans (below_only hgrowB hbA2.out.size (fun k hk => by injection hk with hk; omega))
                have hzB := hbB.size
                have hcl3 : ∀ k x, ([Value.int .i64 (i : Int)] ++ M1)[k]? = some x → wB.cell? ((⟨gA, 0, none⟩ : Addr).add k) = some x := fun k x h => by
                  rw [add_zero_off, hWB.cell]
                  exact hcurA.out k x h
                have hl3 : ([Value.int .i64 (i : Int)] ++ M1).length = 1 + (nz - j) := by simp; omega
                have h1c3 : ∀ x ∈ ([Value.int .i64 (i : Int)] ++ M1), x.oneCell' = true := fun x hx => by
                  rcases List.mem_append.1 hx with h | h
                  · rw [List.mem_singleton] at h; subst h; rfl
                  · exact h1c1.out x h
                obtain ⟨M3, hM3⟩ : ∃ M, [Value.int .i64 (i : Int)] ++ M1 = M := ⟨_, rfl⟩
                rw [hM3] at hcl3 hl3 h1c3
                replace hM3 := Lib.hid hM3
                replace hcl3 := Lib.hid hcl3
                replace h1c3 := Lib.hid h1c3
                clear hgrowB hatB hLit2 hcl2 hWA2 hbA2 hWB
                go_wp2_with (at_builtin; refine wpList_append_own_at _ rfl _ _ 39 rfl w.heap.size 2 i0 _ 1 8 Try.underlying39 hi.out hz0'.out hz1'.out hz2'.out rfl (by decide) _ _ _ rfl hownB ⟨gA, 0, none⟩ _ _ M3 rfl (by omega) (fun k x hkx => hcl3.out k x hkx) h1c3.out (by unfold maxLen; omega) (by omega) (by omega) ?_)
                intro vc wC hownC hgrowC _ hatC
                have hbC := hbB.trans (below_only hgrowC hzB (fun k hk => (hownB.lt k hk).1))
                have hoyC : wC.ownsRow w.heap.size 2 1 vc (nz + 1) (zz.map (Value.int .i64)) := by
                  rw [← hMM.out, hM3.out, show nz + 1 = j + (1 + (nz - j)) by omega]
                  exact hownC
                obtain ⟨gC, cC, curC, rfl, -⟩ := own_open hoyC (by omega)
                clear hownC hgrowC hatC hownB hbB hcl3 h1c3
                go_wp2
                go_roundw
                case rel => exact ⟨i + 1, nz + 1, gC, cC, zz, by omega, by go_num, by omega, rfl, hfin, hoyC, hbC⟩
                case measure => first | (simp [intOf]; done) | (simp [intOf]; omega)
              · have hczj' : cz = j := by omega
                go_wp2_with (at_builtin; refine wpList_append_own_at _ rfl _ _ 39 rfl w.heap.size 2 i0 _ 1 8 Try.underlying39 hi.out hz0'.out hz1'.out hz2'.out rfl (by decide) _ _ _ rfl hLit.out _ _ _ M1 rfl (by omega) (fun k x hkx => by first | exact hcl1.out k x hkx | (exfalso; have hz : M1 = [] := List.length_eq_zero_iff.1 (by omega); rw [hz] at hkx; simp at hkx)) h1c1.out (by unfold maxLen; omega) (by omega) (by simp; omega) ?_)
                intro va wA hownA hgrowA _ hatA
                have hw3' := hw3.out
                rw [hw3'] at hgrowA
                replace hgrowA : w3.grownBy wA (some u.w.heap.size) := hgrowA
                obtain ⟨gA, cA, curA, rfl, hgAb, hWA, hncA, hcmA, -, hcurA⟩ := own_open hownA (by omega)
                have hWgA : Whole wA g 2 cur := hW4.grown hgrowA (fun e => by injection e with e; omega)
                have hbA : Below w.heap.size w wA := hb4.trans (below_only hgrowA hb4.size (fun k hk => by injection hk with hk; omega))
                have hzA := hgrowA.size
                have hzA2 := hbA.size
                have hgA := hWA.lt
                have hLit2 : (wA.alloc (.cells #[] 2)).ownsRow w.heap.size 2 1 (.slice (some ⟨wA.heap.size, 0, none⟩) 0 0) 0 [] := own_empty (Whole.new _ _ _) hzA2
                have hcl2 : ∀ k x, M2[k]? = some x → (wA.alloc (.cells #[] 2)).cell? ((⟨g, 0, none⟩ : Addr).add k) = some x := fun k x h => by
                  rw [add_zero_off, (hWgA.alloc _).cell]
                  exact hget2.out k x h
                have hWA2 := hWA.alloc (.cells #[] 2)
                have hbA2 : Below w.heap.size w (wA.alloc (.cells #[] 2)) := hbA.alloc hzA2 _
                replace hLit2 := Lib.hid hLit2
                replace hcl2 := Lib.hid hcl2
                replace hWA2 := Lib.hid hWA2
                replace hbA2 := Lib.hid hbA2
                replace hcurA := Lib.hid hcurA
                clear hw3' hgrowA hatA hownA hWgA hW4 hLit hcl1 hWA hbA hb4 hLit' hb3 hW3
                go_wp2_with (at_builtin; refine wpList_append_own_at _ rfl _ _ 39 rfl w.heap.size 2 i0 _ 1 8 Try.underlying39 hi.out hz0'.out hz1'.out hz2'.out rfl (by decide) _ _ _ rfl hLit2.out ⟨g, 0, none⟩ _ _ M2 rfl (by omega) (fun k x hkx => hcl2.out k x hkx) h1c2.out (by unfold maxLen; omega) (by omega) (by simp; omega) ?_)
                intro vb wB hownB hgrowB _ hatB
                replace hgrowB : (wA.alloc (.cells #[] 2)).grownBy wB (some wA.heap.size) := hgrowB
                have hWB := hWA2.out.grown hgrowB (fun e => by injection e with e; omega)
                have hbB := hbA2.out.trans (below_only hgrowB hbA2.out.size (fun k hk => by injection hk with hk; omega))
                have hzB := hbB.size
                have hcl3 : ∀ k x, ([Value.int .i64 (i : Int)] ++ M1)[k]? = some x → wB.cell? ((⟨gA, 0, none⟩ : Addr).add k) = some x := fun k x h => by
                  rw [add_zero_off, hWB.cell]
                  exact hcurA.out k x h
                have hl3 : ([Value.int .i64 (i : Int)] ++ M1).length = 1 + (nz - j) := by simp; omega
                have h1c3 : ∀ x ∈ ([Value.int .i64 (i : Int)] ++ M1), x.oneCell' = true := fun x hx => by
                  rcases List.mem_append.1 hx with h | h
                  · rw [List.mem_singleton] at h; subst h; rfl
                  · exact h1c1.out x h
                obtain ⟨M3, hM3⟩ : ∃ M, [Value.int .i64 (i : Int)] ++ M1 = M := ⟨_, rfl⟩
                rw [hM3] at hcl3 hl3 h1c3
                replace hM3 := Lib.hid hM3
                replace hcl3 := Lib.hid hcl3
                replace h1c3 := Lib.hid h1c3
                clear hgrowB hatB hLit2 hcl2 hWA2 hbA2 hWB
                go_wp2_with (at_builtin; refine wpList_append_own_at _ rfl _ _ 39 rfl w.heap.size 2 i0 _ 1 8 Try.underlying39 hi.out hz0'.out hz1'.out hz2'.out rfl (by decide) _ _ _ rfl hownB ⟨gA, 0, none⟩ _ _ M3 rfl (by omega) (fun k x hkx => hcl3.out k x hkx) h1c3.out (by unfold maxLen; omega) (by omega) (by omega) ?_)
                intro vc wC hownC hgrowC _ hatC
                have hbC := hbB.trans (below_only hgrowC hzB (fun k hk => (hownB.lt k hk).1))
                have hoyC : wC.ownsRow w.heap.size 2 1 vc (nz + 1) (zz.map (Value.int .i64)) := by
                  rw [← hMM.out, hM3.out, show nz + 1 = j + (1 + (nz - j)) by omega]
                  exact hownC
                obtain ⟨gC, cC, curC, rfl, -⟩ := own_open hoyC (by omega)
                clear hownC hgrowC hatC hownB hbB hcl3 h1c3
                go_wp2
                go_roundw
                case rel => exact ⟨i + 1, nz + 1, gC, cC, zz, by omega, by go_num, by omega, rfl, hfin, hoyC, hbC⟩
                case measure => first | (simp [intOf]; done) | (simp [intOf]; omega)
        · have hskip := Lib.hid (hinv.out.skip (by rw [hPi, beq_eq_false_iff_ne]; exact hc0))
          have hb0 : (xs (i * 3 + 1) != 0) = true := by rw [bne, beq_eq_false_iff_ne.2 hc0]; rfl
          clear hPi hc0
          generalize xs (i * 3 + 1) = z at gc hb0
          go_wp2
          go_roundw
          case rel => exact ⟨i + 1, nz, g, cz, zs, by omega, by go_num, by omega, rfl, hskip, hown, hbel⟩
          case measure => simp [intOf]; omega
      · obtain rfl : i = n := by omega
        have hnlt : ¬ ((i : Int) < i) := by omega
        have hzL : zs = L := by rw [hinv.out.fin, hLL.out]
        subst hzL
        have hKn : K = nz := by rw [← hK.out]; have := (cells_of hown).1; omega
        subst hKn
        go_wp2
        go_ret2
        exact ⟨_, _, rfl, by omega, hown, hbel⟩
  · have hL0 : L = [] := by rw [← hL.out]; unfold coL; rw [if_neg (by rw [hc.out]; exact h0)]
    subst hL0
    have hK0 : K = 0 := hK.out.symm
    subst hK0
    have hne : (co != 0) = true := by rw [bne, beq_eq_false_iff_ne.2 h0]; rfl
    go_enter Try.func31, Try.ntmps31
    go_wp2_with fail
    refine hcode.out.mono ?_
    rintro e w2 ⟨rfl, hb2⟩
    go_wp2
    go_ret2
    exact gave_nil hb2
end Go.Proofs.Ytbmclcajgplpnaa
