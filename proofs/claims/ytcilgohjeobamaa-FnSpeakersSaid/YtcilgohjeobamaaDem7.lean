/- Demands that are met (IsMet), boats that are penalized, hasInt. -/
import Derived.Test.YtcilgohjeobamaaDem6
set_option linter.unusedSimpArgs false
set_option linter.unusedVariables false
namespace Go.Proofs.Ytcilgohjeobamaa
open Go.RowKit Go.Shelf

def allF (n : Nat) (F : Nat → Int) : Bool := (List.range n).all fun i => inB (F i) (-1) 1
theorem allF_all {n : Nat} {F : Nat → Int} (h : ∀ i, i < n → inB (F i) (-1) 1 = true) : allF n F = true := List.all_eq_true.2 (fun i hi => h i (List.mem_range.1 hi))
theorem allF_no {n : Nat} {F : Nat → Int} {i : Nat} (hi : i < n) (h : inB (F i) (-1) 1 = false) : allF n F = false := List.all_eq_false.2 ⟨i, List.mem_range.2 hi, by rw [h]; simp⟩
def miV (F : Nat → Int) (nF : Nat) (o : Int) (n : Nat) (xs : Nat → Int) : Bool := allF nF F && decide (nF = 8) && dmB o n xs && metB F n xs
set_option maxRecDepth 100000 in
set_option maxHeartbeats 8000000 in
theorem isMetF_any (AF A : Option Addr) (nF cF n c BF B : Nat) (F xs : Nat → Int) (o : Int) (w : World) (hF : Ints w BF AF nF F) (hBF : BF ≤ w.heap.size) (hnF : nF ≤ 9223372036854775807) (hx : Ints w B A n xs) (hB : B ≤ w.heap.size) (hn : n ≤ 9223372036854775807) (hnc : n ≤ c) (v : Bool) (hv : miV F nF o n xs = v) :
    Calls Try.prog 18 #[.slice AF nF cF, .agg #[.slice A n c, .int .i64 o]] w fun e w' => e = .returned (.bool v) ∧ Below w.heap.size w w' := by
  replace hF := Lib.hid hF
  replace hx := Lib.hid hx
  replace hv := Lib.hid hv
  go_enter Try.func18, Try.ntmps18
  go_wp2_with fail
  go_loopw [9] (fun v9 wr => ∃ k : Nat, k ≤ nF ∧ v9 = .int .i64 k ∧ Hid (∀ i, i < k → inB (F i) (-1) 1 = true) ∧ Whole wr w.heap.size 33 #[.slice A n c, .int .i64 o] ∧ Below w.heap.size w wr) (fun v9 _ => (nF - intOf v9).toNat)
  case atStart => exact ⟨0, by omega, rfl, Lib.hid (fun i h => by omega), Whole.new _ _ _, (Below.refl _ _).alloc (Nat.le_refl _) _⟩
  case round =>
    obtain ⟨k, hk, rfl, hok, hW, hbel⟩ := hrel
    have hsz := hbel.size
    have hlt0 := hW.lt
    have d0 := hW.cell 0
    have d1 := hW.cell 1
    simp at d0 d1
    by_cases hlt : k < nF
    · obtain ⟨b, o', rfl, hadB, hcode⟩ := hF.out (by omega)
      have g0 : wr.cell? ⟨b, o' + k, none⟩ = some (.int .i64 (F k)) := by rw [hbel.cell (by simp; omega)]; exact hcode k (by omega)
      clear hcode
      have hno : inB (F k) (-1) 1 = false → v = false := fun h => by rw [← hv.out]; unfold miV; rw [allF_no hlt h]; rfl
      have hst : inB (F k) (-1) 1 = true → ∀ i, i < k + 1 → inB (F i) (-1) 1 = true := fun h i hi => by
        by_cases e : i = k
        · subst e; exact h
        · exact hok.out i (by omega)
      replace hno := Lib.hid hno
      replace hst := Lib.hid hst
      generalize F k = f at g0 hno hst
      cases hb : inB f (-1) 1 with
      | false =>
        have hvf := hno.out hb
        subst hvf
        go_wp2_with (go_at_call 55; refine (within_any _ _ _ _).mono ?_; rintro e w' ⟨rfl, rfl⟩)
        go_ret
        exact ⟨rfl, hbel⟩
      | true =>
        have hst2 := Lib.hid (hst.out hb)
        go_wp2_with (go_at_call 55; refine (within_any _ _ _ _).mono ?_; rintro e w' ⟨rfl, rfl⟩)
        go_roundw
        case rel => exact ⟨k + 1, by omega, by go_num, hst2, hW, hbel⟩
        case measure => simp [intOf]; omega
    · obtain rfl : k = nF := by omega
      have hall := allF_all hok.out
      by_cases h8 : ¬ k = 8
      · have hvf : v = false := by rw [← hv.out]; unfold miV; rw [decide_eq_false h8]; simp
        have h8' : ((k : Int) == 8) = false := by rw [beq_eq_false_iff_ne]; omega
        subst hvf
        go_wp2
        go_ret
        exact ⟨rfl, hbel⟩
      have h8 : k = 8 := Classical.not_not.1 h8
      subst h8
      have hve : v = (dmB o n xs && metB F n xs) := by rw [← hv.out]; unfold miV; rw [hall]; simp
      obtain ⟨dv, hdv⟩ : ∃ z, dmB o n xs = z := ⟨_, rfl⟩
      rw [hdv] at hve
      have hcall := fun W (hW : Below wr.heap.size wr W) => isDemand_any A n c B xs o W ((hx.out.below (hbel.mono hB)).below (hW.mono (by omega))) (by have := hW.size; omega) hn hnc
      rw [hdv] at hcall
      replace hcall := Lib.hid hcall
      cases dv with
      | false =>
        rw [Bool.false_and] at hve
        subst hve
        go_wp2_with (go_at_call 50; refine (hcall.out _ (Below.refl _ _)).mono ?_; rintro e w1 ⟨rfl, hb1⟩)
        go_ret
        exact ⟨rfl, hbel.trans (hb1.mono hsz)⟩
      | true =>
        rw [Bool.true_and] at hve
        have hm := fun W (hW : Below wr.heap.size wr W) => isMet_any AF A cF n c BF B F xs o W ((hF.out.below (hbel.mono hBF)).below (hW.mono (by omega))) (by have := hW.size; omega) ((hx.out.below (hbel.mono hB)).below (hW.mono (by omega))) (by have := hW.size; omega) (dmB_f hdv) v hve.symm
        replace hm := Lib.hid hm
        clear hve
        go_wp2_with fail
        refine (hcall.out _ (Below.refl _ _)).mono ?_
        rintro e w1 ⟨rfl, hb1⟩
        have hW1 := hW.below hb1 hlt0
        have e0 := hW1.cell 0
        have e1 := hW1.cell 1
        simp at e0 e1
        clear d0 d1
        go_wp2_with fail
        refine (hm.out _ hb1).mono ?_
        rintro e w2 ⟨rfl, hb2⟩
        have hfin := hbel.trans ((hb1.trans (hb2.mono hb1.size)).mono hsz)
        clear hb1 hb2 e0 e1
        go_wp2
        go_ret
        exact ⟨by simp, hfin⟩
set_option maxRecDepth 100000 in
set_option maxHeartbeats 8000000 in
theorem sIsMetF_any (AF A : Option Addr) (nF cF n c BF B : Nat) (F xs : Nat → Int) (o : Int) (w : World) (hF : Ints w BF AF nF F) (hBF : BF ≤ w.heap.size) (hnF : nF ≤ 9223372036854775807) (hx : Ints w B A n xs) (hB : B ≤ w.heap.size) (hn : n ≤ 9223372036854775807) (v : Bool) (hv : miV F nF o n xs = v) :
    Calls Try.prog 20 #[.slice AF nF cF, .agg #[.slice A n c, .int .i64 o]] w fun e w' => e = .returned (.bool v) ∧ Below w.heap.size w w' := by
  replace hF := Lib.hid hF
  replace hx := Lib.hid hx
  replace hv := Lib.hid hv
  have hb0 : Below w.heap.size w (w.alloc (.cells #[.slice A n c, .int .i64 o] 33)) := (Below.refl _ _).alloc (Nat.le_refl _) _
  have hW0 := Whole.new w 33 #[.slice A n c, .int .i64 o]
  by_cases h8 : ¬ nF = 8
  · have hvf : v = false := by rw [← hv.out]; unfold miV; rw [decide_eq_false h8]; simp
    have h8' : ((nF : Int) == 8) = false := by rw [beq_eq_false_iff_ne]; omega
    have h8'' : ((nF : Int) != 8) = true := by rw [bne, h8']; rfl
    subst hvf
    go_enter Try.func20, Try.ntmps20
    go_wp2
    go_ret
    exact ⟨rfl, hb0⟩
  have h8 : nF = 8 := Classical.not_not.1 h8
  subst h8
  obtain ⟨dv, hdv⟩ : ∃ z, dmB o n xs = z := ⟨_, rfl⟩
  have hcall := l18Demand_any A n c B xs o (w.alloc (.cells #[.slice A n c, .int .i64 o] 33)) (hx.out.below (hb0.mono hB)) (by simp; omega) hn
  rw [hdv] at hcall
  replace hcall := Lib.hid hcall
  cases dv with
  | false =>
    have hvf : v = false := by rw [← hv.out]; unfold miV; rw [hdv]; simp
    subst hvf
    go_enter Try.func20, Try.ntmps20
    go_wp2_with fail
    refine hcall.out.mono ?_
    rintro e w1 ⟨rfl, hb1⟩
    go_wp2
    go_ret
    exact ⟨rfl, hb0.trans (hb1.mono (by simp))⟩
  | true =>
  go_enter Try.func20, Try.ntmps20
  go_wp2_with fail
  refine hcall.out.mono ?_
  rintro e w1 ⟨rfl, hb1⟩
  have hW1 := hW0.below hb1 hW0.lt
  have hbw := hb0.trans (hb1.mono (by simp))
  clear hb0 hb1 hW0 hcall
  go_wp2_with fail
  go_loopw [5] (fun v9 wr => ∃ k : Nat, k ≤ 8 ∧ v9 = .int .i64 k ∧ Hid (∀ i, i < k → inB (F i) (-1) 1 = true) ∧ Whole wr w.heap.size 33 #[.slice A n c, .int .i64 o] ∧ Below w.heap.size w wr) (fun v9 _ => (8 - intOf v9).toNat)
  case atStart => exact ⟨0, by omega, rfl, Lib.hid (fun i h => by omega), hW1, hbw⟩
  case round =>
    obtain ⟨k, hk, rfl, hok, hW, hbel⟩ := hrel
    clear hW1 hbw
    have hsz := hbel.size
    have hlt0 := hW.lt
    have d0 := hW.cell 0
    have d1 := hW.cell 1
    simp at d0 d1
    by_cases hlt : k < 8
    · obtain ⟨b, o', rfl, hadB, hcode⟩ := hF.out (by omega)
      have g0 : wr.cell? ⟨b, o' + k, none⟩ = some (.int .i64 (F k)) := by rw [hbel.cell (by simp; omega)]; exact hcode k (by omega)
      clear hcode
      have hno : inB (F k) (-1) 1 = false → v = false := fun h => by rw [← hv.out]; unfold miV; rw [allF_no hlt h]; rfl
      have hst : inB (F k) (-1) 1 = true → ∀ i, i < k + 1 → inB (F i) (-1) 1 = true := fun h i hi => by
        by_cases e : i = k
        · subst e; exact h
        · exact hok.out i (by omega)
      replace hno := Lib.hid hno
      replace hst := Lib.hid hst
      generalize F k = f at g0 hno hst
      cases hb : inB f (-1) 1 with
      | false =>
        have hvf := hno.out hb
        subst hvf
        go_wp2_with (go_at_call 57; refine (l01In_any _ _ _ _).mono ?_; rintro e w' ⟨rfl, rfl⟩)
        go_ret
        exact ⟨rfl, hbel⟩
      | true =>
        have hst2 := Lib.hid (hst.out hb)
        go_wp2_with (go_at_call 57; refine (l01In_any _ _ _ _).mono ?_; rintro e w' ⟨rfl, rfl⟩)
        go_roundw
        case rel => exact ⟨k + 1, by omega, by go_num, hst2, hW, hbel⟩
        case measure => simp [intOf]; omega
    · obtain rfl : k = 8 := by omega
      have hall := allF_all hok.out
      have hve : metB F n xs = v := by rw [← hv.out]; unfold miV; rw [hall, hdv]; simp
      have hm := l18Met_any AF A cF n c BF B F xs o wr (hF.out.below (hbel.mono hBF)) (by omega) (hx.out.below (hbel.mono hB)) (by omega) (dmB_f hdv) v hve
      replace hm := Lib.hid hm
      clear hve
      go_wp2_with fail
      refine hm.out.mono ?_
      rintro e w2 ⟨rfl, hb2⟩
      go_wp2
      go_ret
      exact ⟨rfl, hbel.trans (hb2.mono hsz)⟩
def penL (pb pa o : Int) : List Int := if o = 1 then [pa] else if o = 2 then [pb] else if o = 3 then [min pb pa, max pb pa] else []
set_option maxHeartbeats 4000000 in
theorem penalized_any (pb pa o : Int) (w : World) (hp : ptB pb pa = true) (ho : 0 ≤ o ∧ o ≤ 3) :
    Calls Try.prog 39 #[.int .i64 pb, .int .i64 pa, .int .i64 o] w fun e w' => ∃ A c, e = .returned (.tuple #[.slice A (penL pb pa o).length c, .int .i64 0]) ∧ Ints w' w'.heap.size A (penL pb pa o).length (fun j => (penL pb pa o).getD j 0) ∧ Below w.heap.size w w' := by
  have hin : inB o 0 3 = true := by unfold inB; simp; omega
  obtain ⟨h0, h1⟩ := ho
  obtain rfl | rfl | rfl | rfl : o = 0 ∨ o = 1 ∨ o = 2 ∨ o = 3 := by omega
  · go_enter Try.func39, Try.ntmps39
    go_wp2_with (first | (go_at_call 66; refine (areParties_any _ _ _).mono ?_; rintro e w' ⟨rfl, rfl⟩) | (go_at_call 70; refine (isOutcome_any _ _).mono ?_; rintro e w' ⟨rfl, rfl⟩))
    go_ret2
    exact ⟨_, _, rfl, fun hn => by simp [penL] at hn, Below.refl _ _⟩
  · go_enter Try.func39, Try.ntmps39
    go_wp2_with (first | (go_at_call 66; refine (areParties_any _ _ _).mono ?_; rintro e w' ⟨rfl, rfl⟩) | (go_at_call 70; refine (isOutcome_any _ _).mono ?_; rintro e w' ⟨rfl, rfl⟩))
    go_ret2
    exact ⟨_, _, rfl, Ints.of_whole (Whole.new _ _ _) (by simp) (fun j hj => by
      have : j = 0 := by simp [penL] at hj; omega
      subst this; rfl), (Below.refl _ _).alloc (Nat.le_refl _) _⟩
  · go_enter Try.func39, Try.ntmps39
    go_wp2_with (first | (go_at_call 66; refine (areParties_any _ _ _).mono ?_; rintro e w' ⟨rfl, rfl⟩) | (go_at_call 70; refine (isOutcome_any _ _).mono ?_; rintro e w' ⟨rfl, rfl⟩))
    go_ret2
    exact ⟨_, _, rfl, Ints.of_whole (Whole.new _ _ _) (by simp) (fun j hj => by
      have : j = 0 := by simp [penL] at hj; omega
      subst this; rfl), (Below.refl _ _).alloc (Nat.le_refl _) _⟩
  · rcases Int.lt_or_le pb pa with h | h
    · have hmn : min pb pa = pb := by omega
      have hmx : max pb pa = pa := by omega
      have h2 : ¬ pa < pb := by omega
      have hpl : penL pb pa 3 = [pb, pa] := by unfold penL; rw [if_neg (by omega), if_neg (by omega), if_pos rfl, hmn, hmx]
      rw [hpl]
      clear hpl
      go_enter Try.func39, Try.ntmps39
      go_wp2_with (first | (go_at_call 66; refine (areParties_any _ _ _).mono ?_; rintro e w' ⟨rfl, rfl⟩) | (go_at_call 70; refine (isOutcome_any _ _).mono ?_; rintro e w' ⟨rfl, rfl⟩))
      go_ret2
      exact ⟨_, _, rfl, Ints.of_whole (Whole.new _ _ _) (by simp) (fun j hj => by
        have : j = 0 ∨ j = 1 := by have hj' : j < 2 := hj; omega
        rcases this with rfl | rfl <;> rfl), (Below.refl _ _).alloc (Nat.le_refl _) _⟩
    · have hmn : min pb pa = pa := by omega
      have hmx : max pb pa = pb := by omega
      have h2 : ¬ pb < pa := by omega
      have hpl : penL pb pa 3 = [pa, pb] := by unfold penL; rw [if_neg (by omega), if_neg (by omega), if_pos rfl, hmn, hmx]
      rw [hpl]
      clear hpl
      by_cases he : pa < pb
      · go_enter Try.func39, Try.ntmps39
        go_wp2_with (first | (go_at_call 66; refine (areParties_any _ _ _).mono ?_; rintro e w' ⟨rfl, rfl⟩) | (go_at_call 70; refine (isOutcome_any _ _).mono ?_; rintro e w' ⟨rfl, rfl⟩))
        go_ret2
        exact ⟨_, _, rfl, Ints.of_whole (Whole.new _ _ _) (by simp) (fun j hj => by
          have : j = 0 ∨ j = 1 := by have hj' : j < 2 := hj; omega
          rcases this with rfl | rfl <;> rfl), (Below.refl _ _).alloc (Nat.le_refl _) _⟩
      · obtain rfl : pb = pa := by omega
        exfalso
        unfold ptB at hp
        simp at hp
theorem hasInt_any (A : Option Addr) (n c B : Nat) (L : List Int) (x : Int) (w : World) (hx : Ints w B A n (fun j => L.getD j 0)) (hl : L.length = n) (hB : B ≤ w.heap.size) (hn : n ≤ 9223372036854775807) :
    Calls Try.prog 40 #[.slice A n c, .int .i64 x] w fun e w' => e = .returned (.bool (L.contains x)) ∧ Below w.heap.size w w' := by
  go_enter Try.func40, Try.ntmps40
  go_wp2_with fail
  go_loopw [5] (fun v wr => ∃ k : Nat, k ≤ n ∧ v = .int .i64 k ∧ Hid (∀ j, j < k → L.getD j 0 ≠ x) ∧ Below w.heap.size w wr) (fun v _ => (n - intOf v).toNat)
  case atStart => exact ⟨0, by omega, rfl, Lib.hid (fun j hj => by omega), Below.refl _ _⟩
  case round =>
    obtain ⟨k, hk, rfl, hne, hbel⟩ := hrel
    by_cases hlt : k < n
    · obtain ⟨b, o, rfl, hadB, hcode⟩ := hx (by omega)
      have g0 : wr.cell? ⟨b, o + k, none⟩ = some (.int .i64 (L.getD k 0)) := by rw [hbel.cell (by simp; omega)]; exact hcode k hlt
      have hmem : L.getD k 0 ∈ L := by
        rw [List.getD_eq_getElem?_getD, List.getElem?_eq_getElem (by omega)]
        exact List.getElem_mem _
      generalize hy : L.getD k 0 = y at g0 hmem
      replace hy := Lib.hid hy
      clear hcode
      by_cases he : y = x
      · subst he
        have hct := List.contains_iff_mem.2 hmem
        rw [hct] at *
        go_wp2
        go_ret
        exact ⟨rfl, hbel⟩
      · have he' : (y == x) = false := by simpa using he
        go_wp2
        go_roundw
        case rel =>
          refine ⟨k + 1, by omega, by go_num, Lib.hid (fun j hj => ?_), hbel⟩
          by_cases e : j = k
          · subst e; rw [hy.out]; exact he
          · exact hne.out j (by omega)
        case measure => simp [intOf]; omega
    · obtain rfl : k = n := by omega
      have hf : L.contains x = false := by
        rw [← Bool.not_eq_true, List.contains_iff_mem]
        intro hm
        obtain ⟨j, hj, e⟩ := List.getElem_of_mem hm
        refine hne.out j (by omega) ?_
        rw [List.getD_eq_getElem?_getD, List.getElem?_eq_getElem hj]
        simpa using e
      go_wp2
      go_ret
      exact ⟨by rw [hf]; rfl, hbel⟩
end Go.Proofs.Ytcilgohjeobamaa
