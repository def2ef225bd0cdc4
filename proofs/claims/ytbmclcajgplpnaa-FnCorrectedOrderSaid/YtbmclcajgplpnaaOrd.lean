/- Boats in an order, plain: by a number for each of them and then by the boat; the library's stable sorting by insertion. -/
import Derived.Test.YtbmclcajgplpnaaFin2
import Derived.Test.YtbmclcajgplpnaaOver
import Derived.Shelf.RegionOpenPlain
set_option linter.unusedSimpArgs false
set_option linter.unusedVariables false
namespace Go.Proofs.Ytbmclcajgplpnaa
open Go.RowKit Go.Shelf

/-- Before: by the number, then by the boat. -/
def lexL (v : Int → Int) (x y : Int) : Prop := v x < v y ∨ (v x = v y ∧ x < y)
theorem lexL_irr {v : Int → Int} (x : Int) : ¬ lexL v x x := by unfold lexL; omega
theorem lexL_asym {v : Int → Int} {x y : Int} (h : lexL v x y) : ¬ lexL v y x := by unfold lexL at *; omega
theorem lexL_trans {v : Int → Int} {x y z : Int} (h : lexL v x y) (h2 : lexL v y z) : lexL v x z := by unfold lexL at *; omega
/-- Two lists in the order with the same members are one. -/
theorem lex_ext {v : Int → Int} : ∀ l m : List Int, l.Pairwise (lexL v) → m.Pairwise (lexL v) → (∀ x, x ∈ l ↔ x ∈ m) → l = m := by
  intro l
  induction l with
  | nil =>
    intro m _ _ h
    cases m with
    | nil => rfl
    | cons b m => exact absurd ((h b).2 (List.mem_cons_self ..)) (by simp)
  | cons a l ih =>
    intro m hl hm h
    cases m with
    | nil => exact absurd ((h a).1 (List.mem_cons_self ..)) (by simp)
    | cons b m =>
      obtain ⟨h1, h2⟩ := List.pairwise_cons.1 hl
      obtain ⟨h3, h4⟩ := List.pairwise_cons.1 hm
      have e : a = b := by
        rcases List.mem_cons.1 ((h a).1 (List.mem_cons_self ..)) with e | e
        · exact e
        · rcases List.mem_cons.1 ((h b).2 (List.mem_cons_self ..)) with e' | e'
          · exact e'.symm
          · exact absurd (h1 b e') (lexL_asym (h3 a e))
      subst e
      refine congrArg _ (ih m h2 h4 (fun x => ⟨fun hx => ?_, fun hx => ?_⟩))
      · rcases List.mem_cons.1 ((h x).1 (List.mem_cons_of_mem _ hx)) with e | e
        · subst e; exact absurd (h1 x hx) (lexL_irr x)
        · exact e
      · rcases List.mem_cons.1 ((h x).2 (List.mem_cons_of_mem _ hx)) with e | e
        · subst e; exact absurd (h3 x hx) (lexL_irr x)
        · exact e
/-- Two neighbours exchanged. -/
def swpL (zs : List Int) (j : Nat) : List Int := (zs.set j (zs.getD (j - 1) 0)).set (j - 1) (zs.getD j 0)
theorem getD_set (zs : List Int) (i : Nat) (x : Int) (k : Nat) (h : i < zs.length) : (zs.set i x).getD k 0 = if k = i then x else zs.getD k 0 := by
  simp only [List.getD_eq_getElem?_getD, List.getElem?_set]
  by_cases e : k = i
  · subst e; simp [h]
  · rw [if_neg e, if_neg (fun e' => e e'.symm)]
theorem swpL_len (zs : List Int) (j : Nat) : (swpL zs j).length = zs.length := by simp [swpL]
theorem swpL_get {zs : List Int} {j : Nat} (hj : 0 < j) (hl : j < zs.length) (k : Nat) : (swpL zs j).getD k 0 = if k = j - 1 then zs.getD j 0 else if k = j then zs.getD (j - 1) 0 else zs.getD k 0 := by
  unfold swpL
  rw [getD_set _ _ _ _ (by simp; omega), getD_set _ _ _ _ hl]
structure InvO (v : Int → Int) (n i : Nat) (zs : List Int) : Prop where
  len : zs.length = n
  rng : ∀ k, k < n → 0 ≤ zs.getD k 0 ∧ zs.getD k 0 < n
  mem : ∀ x : Int, 0 ≤ x → x < n → ∃ k, k < n ∧ zs.getD k 0 = x
  srt : ∀ a b, a < b → b < i → lexL v (zs.getD a 0) (zs.getD b 0)
  old : ∀ k, i ≤ k → k < n → zs.getD k 0 = k
  low : ∀ k, k < i → zs.getD k 0 < i
structure InvI (v : Int → Int) (n i j : Nat) (zs : List Int) : Prop where
  len : zs.length = n
  rng : ∀ k, k < n → 0 ≤ zs.getD k 0 ∧ zs.getD k 0 < n
  mem : ∀ x : Int, 0 ≤ x → x < n → ∃ k, k < n ∧ zs.getD k 0 = x
  cur : zs.getD j 0 = i
  srt : ∀ a b, a < b → b ≤ i → a ≠ j → b ≠ j → lexL v (zs.getD a 0) (zs.getD b 0)
  old : ∀ k, i < k → k < n → zs.getD k 0 = k
  low : ∀ k, k ≤ i → k ≠ j → zs.getD k 0 < i
  gt : ∀ b, j < b → b ≤ i → v i < v (zs.getD b 0)
theorem InvO.inner {v : Int → Int} {n i : Nat} {zs : List Int} (h : InvO v n i zs) (hi : i < n) : InvI v n i i zs :=
  ⟨h.len, h.rng, h.mem, h.old i (Nat.le_refl _) hi, fun a b h1 h2 h3 h4 => h.srt a b h1 (by omega), fun k h1 h2 => h.old k (by omega) h2, fun k h1 h2 => h.low k (by omega), fun b h1 h2 => by omega⟩
theorem InvI.step {v : Int → Int} {n i j : Nat} {zs : List Int} (h : InvI v n i j zs) (hj : 0 < j) (hji : j ≤ i) (hi : i < n) (hlt : v (zs.getD j 0) < v (zs.getD (j - 1) 0)) : InvI v n i (j - 1) (swpL zs j) := by
  have hl : j < zs.length := by rw [h.len]; omega
  have g := swpL_get hj hl
  have g1 : (swpL zs j).getD (j - 1) 0 = zs.getD j 0 := by rw [g, if_pos rfl]
  have g2 : (swpL zs j).getD j 0 = zs.getD (j - 1) 0 := by rw [g, if_neg (by omega), if_pos rfl]
  have g3 : ∀ k, k ≠ j → k ≠ j - 1 → (swpL zs j).getD k 0 = zs.getD k 0 := fun k h1 h2 => by rw [g, if_neg h2, if_neg h1]
  have φ : ∀ k, k ≠ j - 1 → ∃ q, (swpL zs j).getD k 0 = zs.getD q 0 ∧ q ≠ j ∧ q ≤ k ∧ (k = j → q = j - 1) ∧ (k ≠ j → q = k) := fun k hk => by
    by_cases e : k = j
    · subst e; exact ⟨k - 1, g2, by omega, by omega, fun _ => rfl, fun h => absurd rfl h⟩
    · exact ⟨k, g3 k e hk, e, Nat.le_refl _, fun h => absurd h e, fun _ => rfl⟩
  refine ⟨by rw [swpL_len]; exact h.len, fun k hk => ?_, fun x h0 h1 => ?_, by rw [g1]; exact h.cur, fun a b hab hbi ha hb => ?_, fun k h1 h2 => by rw [g3 k (by omega) (by omega)]; exact h.old k h1 h2, fun k h1 h2 => ?_, fun b h1 h2 => ?_⟩
  · by_cases e : k = j - 1
    · subst e; rw [g1]; exact h.rng j (by omega)
    · obtain ⟨q, e1, _, h2, _⟩ := φ k e
      rw [e1]; exact h.rng q (by omega)
  · obtain ⟨k, hk, e⟩ := h.mem x h0 h1
    by_cases e1 : k = j
    · subst e1; exact ⟨k - 1, by omega, by rw [g1]; exact e⟩
    · by_cases e2 : k = j - 1
      · subst e2; exact ⟨j, by omega, by rw [g2]; exact e⟩
      · exact ⟨k, hk, by rw [g3 k e1 e2]; exact e⟩
  · obtain ⟨p, e1, p1, p2, p3, p4⟩ := φ a ha
    obtain ⟨q, e2, q1, q2, q3, q4⟩ := φ b hb
    rw [e1, e2]
    refine h.srt p q ?_ (by omega) p1 q1
    by_cases ea : a = j
    · have := p3 ea
      have := q4 (by omega)
      omega
    · have := p4 ea
      by_cases eb : b = j
      · have := q3 eb; omega
      · have := q4 eb; omega
  · obtain ⟨q, e1, q1, q2, _⟩ := φ k h2
    rw [e1]; exact h.low q (by omega) q1
  · by_cases e : b = j
    · subst e; rw [g2]; rw [h.cur] at hlt; exact hlt
    · rw [g3 b e (by omega)]; exact h.gt b (by omega) h2
theorem InvI.done {v : Int → Int} {n i j : Nat} {zs : List Int} (h : InvI v n i j zs) (hji : j ≤ i) (hi : i < n) (hx : j = 0 ∨ ¬ (v (zs.getD j 0) < v (zs.getD (j - 1) 0))) : InvO v n (i + 1) zs := by
  refine ⟨h.len, h.rng, h.mem, fun a b hab hb => ?_, fun k h1 h2 => h.old k (by omega) h2, fun k hk => ?_⟩
  · by_cases ea : a = j
    · subst ea
      have := h.gt b hab (by omega)
      rw [h.cur]
      exact .inl this
    · by_cases eb : b = j
      · subst eb
        have hl := h.low a (by omega) ea
        have hc := h.cur
        rcases hx with hx | hx
        · omega
        · rw [hc] at hx ⊢
          have hle : v (zs.getD a 0) ≤ v (zs.getD (b - 1) 0) := by
            by_cases e : a = b - 1
            · rw [e]; exact Int.le_refl _
            · rcases h.srt a (b - 1) (by omega) (by omega) (by omega) (by omega) with h1 | h1
              · omega
              · omega
          unfold lexL
          omega
      · exact h.srt a b hab (by omega) ea eb
  · by_cases e : k = j
    · subst e; rw [h.cur]; omega
    · have := h.low k (by omega) e; omega
/-- 0 to n-1. -/
def rngL : Nat → List Int
  | 0 => []
  | n + 1 => rngL n ++ [(n : Int)]
theorem rngL_len : ∀ n, (rngL n).length = n
  | 0 => rfl
  | n + 1 => by unfold rngL; rw [List.length_append, rngL_len n]; rfl
theorem rngL_get : ∀ n k, k < n → (rngL n).getD k 0 = k
  | 0, k, h => by omega
  | n + 1, k, h => by
    have hl := rngL_len n
    unfold rngL
    by_cases e : k < n
    · rw [List.getD_eq_getElem?_getD, List.getElem?_append_left (by omega), ← List.getD_eq_getElem?_getD]; exact rngL_get n k e
    · obtain rfl : k = n := by omega
      rw [List.getD_eq_getElem?_getD, List.getElem?_append_right (by omega), hl]
      simp
theorem InvO.start (v : Int → Int) (n : Nat) : InvO v n 1 (rngL n) :=
  ⟨rngL_len n, fun k h => by rw [rngL_get n k h]; omega, fun x h0 h1 => ⟨x.toNat, by omega, by rw [rngL_get n _ (by omega)]; omega⟩, fun a b h1 h2 => by omega, fun k _ h => rngL_get n k h, fun k h => by
    obtain rfl : k = 0 := by omega
    rcases Nat.eq_zero_or_pos n with e | e
    · subst e; decide
    · rw [rngL_get n 0 e]; omega⟩
/-- All numbers to n-1, in the order. -/
def Ordd (v : Int → Int) (n : Nat) (zs : List Int) : Prop := zs.length = n ∧ zs.Pairwise (lexL v) ∧ ∀ x : Int, x ∈ zs ↔ 0 ≤ x ∧ x < n
theorem InvO.ordd {v : Int → Int} {n i : Nat} {zs : List Int} (h : InvO v n i zs) (hi : n ≤ i) : Ordd v n zs := by
  have hl := h.len
  refine ⟨hl, ?_, fun x => ⟨fun hx => ?_, fun ⟨h0, h1⟩ => ?_⟩⟩
  · rw [List.pairwise_iff_getElem]
    intro a b ha hb hab
    have := h.srt a b hab (by omega)
    simpa [List.getD_eq_getElem?_getD, List.getElem?_eq_getElem ha, List.getElem?_eq_getElem hb] using this
  · obtain ⟨k, hk, e⟩ := List.getElem_of_mem hx
    have := h.rng k (by omega)
    rw [List.getD_eq_getElem?_getD, List.getElem?_eq_getElem hk] at this
    simp only [Option.getD_some] at this
    rw [e] at this
    exact this
  · obtain ⟨k, hk, e⟩ := h.mem x h0 h1
    rw [List.getD_eq_getElem?_getD, List.getElem?_eq_getElem (by omega)] at e
    simp only [Option.getD_some] at e
    rw [← e]
    exact List.getElem_mem _
theorem own_setI {w : World} {base g n c size : Nat} {e : TypeId} {zs : List Int} (h : w.ownsRow base e size (.slice (some ⟨g, 0, none⟩) n c) n (zs.map (Value.int .i64))) (i : Nat) (x : Int) : (w.setCell ⟨g, i, none⟩ (.int .i64 x)).ownsRow base e size (.slice (some ⟨g, 0, none⟩) n c) n ((zs.set i x).map (Value.int .i64)) := by
  rw [List.map_set]
  exact (h.stored i (.int .i64 x)).1
/-- A difference's sign. -/
def sgV (d : Int) : Int := if d < 0 then -1 else if d = 0 then 0 else 1
/-- What the sorting asks of the comparison. -/
def CmpOK (base : Nat) (w0 : World) (n : Nat) (v : Int → Int) (p : Nat) : Prop :=
  ∀ x y : Int, 0 ≤ x → x < n → 0 ≤ y → y < n → ∀ W, Below base w0 W → base ≤ W.heap.size → Calls Try.prog 81 #[.int .i64 x, .int .i64 y, .pointer (some ⟨p, 0, none⟩)] W fun e w' => e = .returned (.int .i64 (sgV (v x - v y))) ∧ Below W.heap.size W w'
set_option maxRecDepth 100000 in
set_option maxHeartbeats 8000000 in
theorem insSort_any (v : Int → Int) (base : Nat) (w0 : World) (p g n c : Nat) (w : World) (hn : n ≤ 16) (hC : CmpOK base w0 n v p) (hb : Below base w0 w) (hbz : base ≤ w0.heap.size) (hown : w.ownsRow base 2 1 (.slice (some ⟨g, 0, none⟩) n c) n ((rngL n).map (Value.int .i64))) :
    Calls Try.prog 84 #[.slice (some ⟨g, 0, none⟩) n c, .int .i64 0, .int .i64 n, .func (.func 81) #[] #[.pointer (some ⟨p, 0, none⟩)]] w fun e w' => e = .returned (.tuple #[]) ∧ ∃ zs, Ordd v n zs ∧ w'.ownsRow base 2 1 (.slice (some ⟨g, 0, none⟩) n c) n (zs.map (Value.int .i64)) ∧ Below base w0 w' := by
  replace hC := Lib.hid hC
  have hst := Lib.hid (InvO.start v n)
  go_enter Try.func84, Try.ntmps84
  go_wp2_with fail
  go_loopw [8] (fun v8 wr => ∃ (i : Nat) (zs : List Int), 1 ≤ i ∧ i ≤ n + 1 ∧ v8 = .int .i64 i ∧ Hid (InvO v n i zs) ∧ wr.ownsRow base 2 1 (.slice (some ⟨g, 0, none⟩) n c) n (zs.map (Value.int .i64)) ∧ Below base w0 wr) (fun v8 _ => (n + 1 - intOf v8).toNat)
  case atStart => exact ⟨1, rngL n, by omega, by omega, rfl, hst, hown, hb⟩
  case round =>
    obtain ⟨i, zs, hi1, hin, rfl, hinv, hownr, hbr⟩ := hrel
    clear hst hown hb
    by_cases hlt : i < n
    · have hlt' : (i : Int) < n := by omega
      have hin0 := Lib.hid (hinv.out.inner hlt)
      rename World => wo
      go_wp2_with fail
      go_loopw [9] (fun v9 wr => ∃ (j : Nat) (zs : List Int), j ≤ i ∧ v9 = .int .i64 j ∧ Hid (InvI v n i j zs) ∧ wr.ownsRow base 2 1 (.slice (some ⟨g, 0, none⟩) n c) n (zs.map (Value.int .i64)) ∧ Below base w0 wr) (fun v9 _ => (intOf v9).toNat)
      case atStart => exact ⟨i, zs, Nat.le_refl _, rfl, hin0, hownr, hbr⟩
      case round =>
        clear hinv hin0 hownr hbr
        clear zs
        obtain ⟨j, zs, hji, rfl, hinv, hown, hb⟩ := hrel
        have hbsz := hb.size
        obtain ⟨g', cap, cur, hv', hgb, hW, -, -, -, hcur⟩ := own_open hown (by omega)
        injection hv' with hv1 _ hv3
        injection hv1 with hv1
        injection hv1 with hv1
        subst hv1
        subst hv3
        have hcs := (cells_of hown).2
        by_cases hj0 : 0 < j
        · obtain ⟨q, rfl⟩ : ∃ q, j = q + 1 := ⟨j - 1, by omega⟩
          have c1 : wr.cell? ⟨g, q + 1, none⟩ = some (.int .i64 (zs.getD (q + 1) 0)) := (hW.cell _).trans (hcur _ _ (hcs _ (by omega)))
          have c0 : wr.cell? ⟨g, q, none⟩ = some (.int .i64 (zs.getD q 0)) := (hW.cell _).trans (hcur _ _ (hcs _ (by omega)))
          have r1 := hinv.out.rng (q + 1) (by omega)
          have r0 := hinv.out.rng q (by omega)
          have hstep := fun h => hinv.out.step (by omega) hji (by omega) (show v (zs.getD (q + 1) 0) < v (zs.getD (q + 1 - 1) 0) from h)
          have hdone := fun h => hinv.out.done hji (by omega) (.inr (show ¬ v (zs.getD (q + 1) 0) < v (zs.getD (q + 1 - 1) 0) from h))
          rw [Nat.add_sub_cancel] at hstep hdone
          have hsw : swpL zs (q + 1) = (zs.set (q + 1) (zs.getD q 0)).set q (zs.getD (q + 1) 0) := by unfold swpL; rw [Nat.add_sub_cancel]
          have hcall := hC.out (zs.getD (q + 1) 0) (zs.getD q 0) r1.1 r1.2 r0.1 r0.2
          generalize zs.getD (q + 1) 0 = x at c1 r1 hstep hdone hsw hcall
          generalize zs.getD q 0 = y at c0 r0 hstep hdone hsw hcall
          have hd : decide ((q : Int) + 1 > 0) = true := decide_eq_true (by omega)
          have hq0 : (0 : Int) < q + 1 := by omega
          have hgl := hW.lt
          have C0 : ∀ u : Over wr, u.w.cell? ⟨g, q, none⟩ = some (.int .i64 y) := fun u => u.cell hgl c0
          have C1 : ∀ u : Over wr, u.w.cell? ⟨g, q + 1, none⟩ = some (.int .i64 x) := fun u => u.cell hgl c1
          have hcall2 : ∀ u : Over wr, Calls Try.prog 81 #[.int .i64 x, .int .i64 y, .pointer (some ⟨p, 0, none⟩)] u.w fun e w' => e = .returned (.int .i64 (sgV (v x - v y))) ∧ Below u.w.heap.size u.w w' := fun u => hcall u.w (hb.trans (u.ok.mono (Nat.le_trans hbz hbsz))) (Nat.le_trans (Nat.le_trans hbz hbsz) u.ok.size)
          replace hstep := Lib.hid hstep
          replace hdone := Lib.hid hdone
          replace hcall2 := Lib.hid hcall2
          replace hsw := Lib.hid hsw
          clear hcs hcur c0 c1 hcall
          by_cases hxy : v x < v y
          · have hs : sgV (v x - v y) = -1 := by unfold sgV; rw [if_pos (by omega)]
            rw [hs] at hcall2
            go_wp2_with fail
            refine wp_region_over (by kernel_rfl) (by kernel_rfl) ?_
            repeat (go_big_quiet_step ((go_at_call 81; exact over_call (hcall2.out _))))
            refine wpQuiet_nil ?_
            rintro _ ⟨u, rfl⟩
            have hinv2 := Lib.hid (hstep.out hxy)
            have hWu := hW.below u.ok hgl
            have d0 := C0 u
            have d1 := C1 u
            have f0 := hWu.frz q
            have f1 := hWu.frz (q + 1)
            have hu1 : (u.w.setCell ⟨g, q + 1, none⟩ (.int .i64 y)).cell? ⟨g, q, none⟩ = some (.int .i64 y) := by rw [World.cell?_setCell_other _ _ _ _ (fun e => by injection e with _ e _; omega)]; exact d0
            have hownu := own_below hown u.ok
            have hown3 := own_setI (own_setI hownu (q + 1) y) q x
            rw [← hsw.out] at hown3
            have hbu := hb.trans (u.ok.mono (Nat.le_trans hbz hbsz))
            have hb3 := (hbu.setCell (p := ⟨g, q + 1, none⟩) hgb (.int .i64 y)).setCell (p := ⟨g, q, none⟩) hgb (.int .i64 x)
            replace hown3 := Lib.hid hown3
            replace hb3 := Lib.hid hb3
            clear C0 C1 hcall2 hstep hdone hown hb hW hWu hbu hownu
            go_wp2_with fail
            go_region
            go_wp2
            go_roundw
            case rel => exact ⟨q, _, by omega, by go_num, hinv2, hown3.out, hb3.out.drew⟩
            case measure => first | (simp [intOf]; done) | (simp [intOf]; omega)
          · have hs : 0 ≤ sgV (v x - v y) := by unfold sgV; rw [if_neg (by omega)]; split <;> omega
            generalize sgV (v x - v y) = s at hs hcall2
            have hsn : ¬ s < 0 := by omega
            go_wp2_with fail
            refine wp_region_over (by kernel_rfl) (by kernel_rfl) ?_
            repeat (go_big_quiet_step ((go_at_call 81; exact over_call (hcall2.out _))))
            refine wpQuiet_nil ?_
            rintro _ ⟨u, rfl⟩
            have hinv2 := Lib.hid (hdone.out hxy)
            have hownu := own_below hown u.ok
            have hbu := hb.trans (u.ok.mono (Nat.le_trans hbz hbsz))
            clear C0 C1 hcall2 hstep hdone hown hb hW
            go_wp2
            go_roundw
            case rel => exact ⟨i + 1, zs, by omega, by omega, by go_num, hinv2, hownu, hbu⟩
            case measure => simp [intOf]; omega
        · obtain rfl : j = 0 := by omega
          have hinv2 := Lib.hid (hinv.out.done hji hlt (.inl rfl))
          clear hW hcur hcs
          go_wp2_with fail
          refine wp_region_over (by kernel_rfl) (by kernel_rfl) ?_
          repeat (go_big_quiet_step (fail))
          refine wpQuiet_nil ?_
          rintro _ ⟨u, rfl⟩
          have hownu := own_below hown u.ok
          have hbu := hb.trans (u.ok.mono (Nat.le_trans hbz hbsz))
          clear hown hb
          go_wp2
          go_roundw
          case rel => exact ⟨i + 1, zs, by omega, by omega, by go_num, hinv2, hownu, hbu⟩
          case measure => simp [intOf]; omega
    · have hord := hinv.out.ordd (by omega)
      have hnlt : ¬ ((i : Int) < n) := by omega
      go_wp2
      go_end0
      exact ⟨rfl, zs, hord, hownr, hbr⟩
end Go.Proofs.Ytbmclcajgplpnaa
