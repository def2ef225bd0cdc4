/- Windows merged: the program's. -/
import Derived.Test.YtghpaegabppeaaaMrg2
import Derived.Test.YtghpaegabppeaaaSrt
import Derived.Shelf.Abstract
set_option linter.unusedSimpArgs false
set_option linter.unusedVariables false
namespace Go.Proofs.Ytghpaegabppeaaa
open Go.RowKit Go.Shelf Go.Sort

/-- A window that is one. -/
abbrev WinT := {p : Int × Int // 0 ≤ p.1 ∧ p.1 < p.2 ∧ p.2 ≤ 1000000000}
instance : Inhabited WinT := ⟨⟨(0, 1), by decide⟩⟩
def encW (x : WinT) : List Value := [.int .i64 x.1.1, .int .i64 x.1.2]
def cfW (x y : WinT) : Int := x.1.1 - y.1.1
theorem swoW : SWO (ltOf cfW) where
  irrefl x := by unfold ltOf cfW; simp
  trans x y z h1 h2 := by unfold ltOf cfW at *; simp at *; omega
  ntrans x y z h1 h2 := by unfold ltOf cfW at *; simp at *; omega
set_option maxHeartbeats 1000000 in
theorem cmpW_any (x y : WinT) (W : World) : Calls Try.prog 57 #[.agg #[.int .i64 x.1.1, .int .i64 x.1.2], .agg #[.int .i64 y.1.1, .int .i64 y.1.2]] W fun e w' => e = .returned (.int .i64 (cfW x y)) ∧ ∃ q os', w' = grow (W.drewN q) os' := by
  obtain ⟨⟨a, b⟩, h1, h2, h3⟩ := x
  obtain ⟨⟨c, d⟩, h4, h5, h6⟩ := y
  simp only at h1 h2 h3 h4 h5 h6
  have hw : IntKind.i64.wrap (a - c) = a - c := by rw [IntKind.wrap_i64]; omega
  show Calls Try.prog 57 #[.agg #[.int .i64 a, .int .i64 b], .agg #[.int .i64 c, .int .i64 d]] W fun e w' => e = .returned (.int .i64 (a - c)) ∧ ∃ q os', w' = grow (W.drewN q) os'
  go_enter Try.func57, Try.ntmps57
  go_wp2
  go_ret
  exact ⟨rfl, 0, _, by rw [alloc_eq_grow, alloc_eq_grow, grow_grow]; rfl⟩
theorem flatK_eq (d : Array WinT) : (flatK encW 2 d).toList = (flatW (d.toList.map Subtype.val)).map (Value.int .i64) := by
  have hs : (flatK encW 2 d).size = d.size * 2 := size_flatK _ _ _
  have hl : (d.toList.map Subtype.val).length = d.size := by simp
  refine List.ext_getElem (by rw [Array.length_toList, hs, List.length_map, flatW_len, hl]) (fun t h1 h2 => ?_)
  have ht : t < d.size * 2 := by rw [Array.length_toList, hs] at h1; exact h1
  have e := get_flatK encW 2 d t ht
  rw [getElem!_pos _ t (by rw [hs]; exact ht)] at e
  rw [Array.getElem_toList, e, List.getElem_map]
  have hk : t / 2 < d.size := by omega
  rw [getElem!_pos d (t / 2) hk]
  obtain ⟨f1, f2⟩ := flatW_get (d.toList.map Subtype.val) (t / 2) (by omega)
  have hg : (d.toList.map Subtype.val).getD (t / 2) (0, 0) = d[t / 2].1 := by
    rw [List.getD_eq_getElem?_getD, List.getElem?_map, Array.getElem?_toList, Array.getElem?_eq_getElem hk]; rfl
  rw [hg] at f1 f2
  have hz : (flatW (d.toList.map Subtype.val))[t]'(by rw [List.length_map] at h2; exact h2) = (flatW (d.toList.map Subtype.val)).getD t 0 := by
    rw [List.getD_eq_getElem?_getD, List.getElem?_eq_getElem]; rfl
  rw [hz]
  obtain h | h : t % 2 = 0 ∨ t % 2 = 1 := by omega
  · rw [h, show (flatW (d.toList.map Subtype.val)).getD t 0 = (flatW (d.toList.map Subtype.val)).getD (t / 2 * 2) 0 by congr 1; omega, f1]; rfl
  · rw [h, show (flatW (d.toList.map Subtype.val)).getD t 0 = (flatW (d.toList.map Subtype.val)).getD (t / 2 * 2 + 1) 0 by congr 1; omega, f2]; rfl
theorem heap_laid {w : World} {g n : Nat} {os : Array Obj} {cur : Array Value} {e : TypeId} {fr : Nat × Nat} (d : Array Value) (hb : w.heap[g]? = some (.cells cur e fr)) :
    (grow (putRow id (Sort.ahead w n) g 0 d) os).heap[g]? = some (.cells (putCells id 0 d cur) e fr) := by
  have hg : g < w.heap.size := (Array.getElem?_eq_some_iff.1 hb).1
  rw [heap_grow_old _ _ (by simpa using hg)]
  simp [putRow, mapBlock, Sort.ahead, Array.getElem?_modify, hb, onCells]
theorem grown_laid {w : World} {g n : Nat} {os : Array Obj} (d : Array Value) : w.grownBy (grow (putRow id (Sort.ahead w n) g 0 d) os) (some g) := by
  refine ⟨rfl, rfl, rfl, by simp, fun k hk hne => ?_⟩
  rw [heap_grow_old _ _ (by simpa using hk)]
  have : g ≠ k := fun e => hne (by rw [e])
  simp [putRow, mapBlock, Sort.ahead, Array.getElem?_modify, this]
theorem take_laid (cur F : Array Value) (h : F.size ≤ cur.size) : (putCells id 0 F cur).toList.take F.size = F.toList := by
  apply List.ext_getElem?
  intro j
  by_cases hj : j < F.size
  · rw [List.getElem?_take_of_lt hj, Array.getElem?_toList]
    simp [putCells, hj, show j < cur.size by omega]
  · rw [List.getElem?_take_eq_none (by omega), List.getElem?_eq_none (by simp; omega)]
theorem own_laid {w : World} {base g cap m q : Nat} {e : TypeId} {os : Array Obj} {cur F : Array Value} (hF : F.size = m * 2) (hbase : base ≤ g) (hb : Whole w g e cur) (h1 : m ≤ cap) (h2 : cap ≤ maxLen) (h3 : cur.size = cap * 2) :
    (grow (putRow id (Sort.ahead w q) g 0 F) os).ownsRow base e 2 (.slice (some ⟨g, 0, none⟩) m cap) m F.toList :=
  ⟨by simp [hF], .inr ⟨g, cap, _, rfl, hbase, heap_laid _ hb, h1, h2, by simp [putCells, h3], by rw [← hF]; exact take_laid cur F (by omega)⟩⟩
theorem insNone_any (p : Option Addr) (cap : Nat) (fv : Value) (w : World) : Calls Try.prog 62 #[.slice p 0 cap, .int .i64 0, .int .i64 0, fv] w fun e w' => e = .returned (.tuple #[]) ∧ w' = w := by
  go_enter Try.func62, Try.ntmps62
  go_wp2
  refine wp_loop_rounds 1 ?_
  rw [rounds_succ]
  go_wp2
  go_end0
  exact ⟨rfl, rfl⟩
theorem pdqNone_any (p : Option Addr) (cap : Nat) (lim : Int) (fv : Value) (w : World) : Calls Try.prog 60 #[.slice p 0 cap, .int .i64 0, .int .i64 0, .int .i64 lim, fv] w fun e w' => e = .returned (.tuple #[]) ∧ w' = w := by
  go_enter Try.func60, Try.ntmps60
  go_wp2
  refine wp_loop_rounds 1 ?_
  rw [rounds_succ]
  go_wp2_with (go_at_call 62; refine (insNone_any _ _ _ _).mono ?_; rintro e w' ⟨rfl, rfl⟩)
  (try simp only [Exit.inBlock, Exit.then]); refine bodyPost_ret (results_none rfl _ _ _) rfl ?_
  exact ⟨rfl, rfl⟩
theorem sortNone_any (p : Option Addr) (cap : Nat) (fv : Value) (w : World) : Calls Try.prog 56 #[.slice p 0 cap, fv] w fun e w' => e = .returned (.tuple #[]) ∧ w' = w := by
  have hl : ∀ W, Calls Try.prog 61 #[.int .u64 0] W fun e w' => e = .returned (.int .i64 (Lib.bitLen 0 : Nat)) ∧ w' = W := fun W => by
    have h := Any.bits_Len (SlLaysF0.n15.bits (P := Try.prog) (ρ := Try.sortW_ren) { Try.sortW with }) 0 W (by omega) (by omega)
    exact h
  go_enter Try.func56, Try.ntmps56
  go_wp2_with (first | (go_at_call 61; refine (hl _).mono ?_; rintro e w' ⟨rfl, rfl⟩) | (go_at_call 60; refine (pdqNone_any _ _ _ _ _).mono ?_; rintro e w' ⟨rfl, rfl⟩))
  go_end0
  exact ⟨rfl, rfl⟩
/-- The library's sorting of windows. -/
theorem sortWin_any (S : List (Int × Int)) (hok : ∀ p ∈ S, 0 ≤ p.1 ∧ p.1 < p.2 ∧ p.2 ≤ 1000000000) (v : Value) (n base : Nat) (w : World) (hn : S.length = n) (hn30 : n ≤ 30) (hown : w.ownsRow base 51 2 v n ((flatW S).map (Value.int .i64))) (hbase : base ≤ w.heap.size) :
    Calls Try.prog 56 #[v, .func (.func 57) #[] #[]] w fun e w' => e = .returned (.tuple #[]) ∧ ∃ S', S'.Perm S ∧ srtd S' ∧ w'.ownsRow base 51 2 v n ((flatW S').map (Value.int .i64)) ∧ Below base w w' ∧ w.grownBy w' v.ownBlock := by
  rcases Nat.eq_zero_or_pos n with h0 | h0
  · obtain ⟨A, c, rfl, -, -⟩ := own_form hown
    subst h0
    refine (sortNone_any A c _ w).mono ?_
    rintro e w' ⟨rfl, rfl⟩
    refine ⟨rfl, S, List.Perm.refl _, ?_, hown, Below.refl _ _, only_refl _ _⟩
    have : S = [] := List.length_eq_zero_iff.1 hn
    subst this
    exact List.Pairwise.nil
  · obtain ⟨g, cap, cur, rfl, hgb, hW, hnc, hcm, hcs, hcur⟩ := own_open hown h0
    obtain ⟨d, hd⟩ : ∃ d : Array WinT, d.toList.map Subtype.val = S := ⟨(S.attachWith _ hok).toArray, by simp; first | exact List.attach_map_subtype_val S | exact List.attach_map_val S⟩
    have hds : d.size = n := by rw [← hn, ← hd]; simp
    have eg : ∀ args w, (callFunc 57 args).run Try.prog w = .ok (.enter 57 args) w := enters_of Try.func57 (by kernel_rfl) rfl
    have hH : HoldsK encW 2 w g 0 d := by
      intro j hj
      have hj2 : j < d.size * 2 := by rw [← size_flatK encW 2 d]; exact hj
      refine ⟨?_, by rw [Nat.zero_add]; exact hW.frz j⟩
      rw [Nat.zero_add, hW.cell]
      refine hcur j _ ?_
      have e := flatK_eq d
      rw [hd] at e
      rw [← e, Array.getElem?_toList, Array.getElem?_eq_getElem hj, getElem!_pos _ j hj]
      rfl
    have hcon := sortW_any encW (fun _ => rfl) (fun x v hv => by simp [encW] at hv; rcases hv with rfl | rfl <;> rfl) cfW swoW 57 #[] g 0 cap d w eg (fun _ _ _ _ x y => cmpW_any x y _) hH hW.lt (by omega)
    rw [hds] at hcon
    refine hcon.mono ?_
    rintro e w' ⟨rfl, d', q, os, ⟨hp1, -, hp3⟩, hs, rfl⟩
    have hd's : d'.size = n := by rw [hp1, hds]
    have hpm : d'.toList.Perm d.toList := by
      have a1 : d'.extract 0 n = d' := by rw [← hd's]; simp
      have a2 : d.extract 0 n = d := by rw [← hds]; simp
      rw [a1, a2] at hp3
      exact hp3
    have e' := flatK_eq d'
    refine ⟨rfl, d'.toList.map Subtype.val, by rw [← hd]; exact hpm.map _, ?_, ?_, ?_, grown_laid _⟩
    · rw [srtd, List.pairwise_iff_getElem]
      intro i j hi hj hij
      have hi' : i < d'.size := by simpa using hi
      have hj' : j < d'.size := by simpa using hj
      have := hs i j (Nat.zero_le _) hij (by omega)
      rw [getElem!_pos d' i hi', getElem!_pos d' j hj'] at this
      unfold ltOf cfW at this
      simp only [decide_eq_false_iff_not] at this
      simp only [List.getElem_map, Array.getElem_toList]
      omega
    · rw [← e']
      exact own_laid (by rw [size_flatK, hd's]) hgb hW hnc hcm hcs
    · exact below_only (grown_laid _) hbase (fun k hk => by injection hk with hk; omega)
theorem flat_prs (xs : Nat → Int) : ∀ n, flatW (prs xs n) = (List.range (n * 2)).map xs
  | 0 => rfl
  | n + 1 => by
    rw [prs, flatW_app, flat_prs xs n, show (n + 1) * 2 = n * 2 + 1 + 1 by omega, List.range_succ, List.range_succ]
    simp [flatW]
set_option maxHeartbeats 2000000 in
theorem cloneW_any (A : Option Addr) (n c B : Nat) (xs : Nat → Int) (w : World) (hx : Ints w B A (n * 2) xs) (hB : B ≤ w.heap.size) (hn : n ≤ 30) (hA : A = none → n = 0 ∧ c = 0) :
    Calls Try.prog 55 #[.slice A n c] w fun e w' => ∃ v, e = .returned v ∧ w'.ownsRow w.heap.size 51 2 v n ((flatW (prs xs n)).map (Value.int .i64)) ∧ Below w.heap.size w w' := by
  obtain ⟨i0, hi, hz0', hz1', hz2'⟩ := info_parts infoWindow
  replace hi := Lib.hid hi
  replace hz0' := Lib.hid hz0'
  replace hz1' := Lib.hid hz1'
  replace hz2' := Lib.hid hz2'
  have hq := fun (w : World) (a : Option Addr) (n c : Nat) => Lib.run_eql_slice_nil (P := Try.prog) w 25 51 a n c 0 0 Try.underlying25
  cases A with
  | none =>
    obtain ⟨rfl, rfl⟩ := hA rfl
    go_enter Try.func55, Try.ntmps55
    go_wp2
    go_ret
    exact ⟨_, rfl, ⟨by simp [prs, flatW], .inl ⟨rfl, rfl⟩⟩, Below.refl _ _⟩
  | some p =>
    obtain ⟨M, hM⟩ : ∃ M, (flatW (prs xs n)).map (Value.int .i64) = M := ⟨_, rfl⟩
    have hl : M.length = n * 2 := by rw [← hM, List.length_map, flatW_len, prs_len]
    have h1c : ∀ u ∈ M, u.oneCell' = true := fun u hu => by rw [← hM] at hu; obtain ⟨y, -, rfl⟩ := List.mem_map.1 hu; rfl
    have hnews : ∀ k u, M[k]? = some u → (w.alloc (.cells #[] 51)).cell? (p.add k) = some u := fun k u hu => by
      have hk : k < M.length := (List.getElem?_eq_some_iff.1 hu).1
      obtain ⟨b, o, e, hbB, hcx⟩ := hx (by omega)
      injection e with e
      subst e
      rw [show (⟨b, o, none⟩ : Addr).add k = ⟨b, o + k, none⟩ by unfold Addr.add; split <;> simp_all, World.cell?_alloc_lt _ _ _ (by show b < _; omega), hcx k (by omega)]
      rw [← hM, flat_prs] at hu
      have hk2 : k < n * 2 := by omega
      simpa [hk2] using hu
    rw [hM]
    replace hnews := Lib.hid hnews
    replace h1c := Lib.hid h1c
    clear hx hA hM
    go_enter Try.func55, Try.ntmps55
    go_wp2_with (at_builtin; refine wpList_append_own_at _ rfl _ _ 25 rfl w.heap.size 51 i0 _ 2 16 Try.underlying25 hi.out hz0'.out hz1'.out hz2'.out rfl (by decide) _ _ _ rfl (own_empty (Whole.new w 51 #[]) (Nat.le_refl _)) p n c M rfl (by omega) (fun k u hu => hnews.out k u hu) h1c.out (by unfold maxLen; omega) (by omega) (by simp) ?_)
    intro v' w1 hown hgrow _ hat
    have hb : Below w.heap.size w w1 := ((Below.refl _ _).alloc (Nat.le_refl _) _).trans (below_only hgrow (by simp) (fun k hk => by simp [Value.ownBlock] at hk; omega))
    have hown2 : w1.ownsRow w.heap.size 51 2 v' n M := by simpa using hown
    obtain ⟨A', c', rfl, _, _⟩ := own_form hown2
    clear hown hgrow hat
    go_wp2
    go_ret
    exact ⟨_, rfl, hown2, hb⟩
set_option maxHeartbeats 2000000 in
theorem notW_any (a b : Int) (v : Bool) (h : okW a b = v) (W : World) : Calls Try.prog 54 #[.agg #[.int .i64 a, .int .i64 b]] W fun e w' => e = .returned (.bool (!v)) ∧ Below W.heap.size W w' := by
  have hcall := fun W => isWindow_val a b v h W
  replace hcall := Lib.hid hcall
  have hb0 := (Below.refl W.heap.size W).alloc (Nat.le_refl _) (.cells #[.int .i64 a, .int .i64 b] 51)
  go_enter Try.func54, Try.ntmps54
  go_wp2_with fail
  refine (hcall.out _).mono ?_
  rintro e w2 ⟨rfl, hb2⟩
  go_wp2
  go_ret
  exact ⟨rfl, by first | exact hb0.trans (hb2.mono hb0.size) | exact hb2⟩
set_option maxHeartbeats 2000000 in
theorem indexM_any (A : Option Addr) (n c B : Nat) (xs : Nat → Int) (w : World) (hx : Ints w B A (n * 2) xs) (hB : B ≤ w.heap.size) (hn : n ≤ 9223372036854775807) :
    Calls Try.prog 59 #[.slice A n c, .func (.func 54) #[] #[]] w fun e w' => ∃ r : Int, e = .returned (.int .i64 r) ∧ decide (0 ≤ r) = !okA n xs ∧ Below w.heap.size w w' := by
  have eg : ∀ args w, (callFunc 54 args).run Try.prog w = .ok (.enter 54 args) w := enters_of Try.func54 (by kernel_rfl) rfl
  go_enter Try.func59, Try.ntmps59
  go_wp2_with fail
  go_loopw [5, 8] (fun v5 v8 wr => ∃ k : Nat, k ≤ n ∧ v8 = .int .i64 k ∧ Hid (∀ i, i < k → okW (xs (i * 2)) (xs (i * 2 + 1)) = true) ∧ Below w.heap.size w wr) (fun v5 v8 _ => (n - intOf v8).toNat)
  case atStart => exact ⟨0, by omega, rfl, Lib.hid (fun i h => by omega), Below.refl _ _⟩
  case round =>
    obtain ⟨k, hk, rfl, hok, hbel⟩ := hrel
    have hsz := hbel.size
    by_cases hlt : k < n
    · obtain ⟨b, o, rfl, hadB, hcode⟩ := hx (by omega)
      have g0 : wr.cell? ⟨b, o + k * 2, none⟩ = some (.int .i64 (xs (k * 2))) := by rw [hbel.cell (by simp; omega)]; exact hcode (k * 2) (by omega)
      have g1 : wr.cell? ⟨b, o + k * 2 + 1, none⟩ = some (.int .i64 (xs (k * 2 + 1))) := by rw [hbel.cell (by simp; omega)]; exact hcode (k * 2 + 1) (by omega)
      clear hcode
      cases hv : okW (xs (k * 2)) (xs (k * 2 + 1)) with
      | false =>
        have hno : okA n xs = false := okA_no hlt hv
        have hcall := fun W => notW_any (xs (k * 2)) (xs (k * 2 + 1)) false hv W
        go_wp2_with (go_at_fn 54; refine (hcall _).mono ?_; rintro e w' ⟨rfl, hb'⟩)
        go_ret
        exact ⟨_, rfl, by rw [hno]; simp, hbel.trans (hb'.mono hsz)⟩
      | true =>
        have hok2 : Hid (∀ i, i < k + 1 → okW (xs (i * 2)) (xs (i * 2 + 1)) = true) := Lib.hid (fun i hi => by
          by_cases e : i = k
          · subst e; exact hv
          · exact hok.out i (by omega))
        have hcall := fun W => notW_any (xs (k * 2)) (xs (k * 2 + 1)) true hv W
        go_wp2_with (go_at_fn 54; refine (hcall _).mono ?_; rintro e w' ⟨rfl, hb'⟩)
        go_roundw
        case rel => exact ⟨k + 1, by omega, by go_num, hok2, hbel.trans (hb'.mono hsz)⟩
        case measure => simp [intOf]; omega
    · obtain rfl : k = n := by omega
      go_wp2
      go_ret
      exact ⟨_, rfl, by rw [okA_all hok.out]; rfl, hbel⟩
set_option maxHeartbeats 2000000 in
theorem containsM_any (A : Option Addr) (n c B : Nat) (xs : Nat → Int) (w : World) (hx : Ints w B A (n * 2) xs) (hB : B ≤ w.heap.size) (hn : n ≤ 9223372036854775807) :
    Calls Try.prog 46 #[.slice A n c, .func (.func 54) #[] #[]] w fun e w' => e = .returned (.bool (!okA n xs)) ∧ Below w.heap.size w w' := by
  go_enter Try.func46, Try.ntmps46
  go_wp2_with fail
  refine (indexM_any _ _ _ _ _ _ hx hB hn).mono ?_
  rintro e w' ⟨r, rfl, hr, hb⟩
  go_wp2
  go_ret
  exact ⟨by rw [← hr]; rfl, hb⟩
end Go.Proofs.Ytghpaegabppeaaa
