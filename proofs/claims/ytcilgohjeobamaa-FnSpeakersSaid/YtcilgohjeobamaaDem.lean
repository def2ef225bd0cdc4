/- Demands: what is one, the program's and the reference's. -/
import Derived.Test.YtcilgohjeobamaaHear7
set_option linter.unusedSimpArgs false
set_option linter.unusedVariables false
namespace Go.Proofs.Ytcilgohjeobamaa
open Go.RowKit Go.Shelf

def dupI (xs : Nat → Int) (v : Int) : Nat → Bool
  | 0 => false
  | k + 1 => dupI xs v k || (xs k == v)
theorem dupI_of {xs : Nat → Int} {v : Int} {i : Nat} (h1 : xs i = v) : ∀ k, i < k → dupI xs v k = true := by
  intro k
  induction k with
  | zero => intro h; omega
  | succ k ih =>
    intro h
    unfold dupI
    by_cases e : i = k
    · subst e; simp [h1]
    · rw [ih (by omega)]; rfl
theorem dupI_ex {xs : Nat → Int} {v : Int} : ∀ k, dupI xs v k = true → ∃ j, j < k ∧ xs j = v := by
  intro k
  induction k with
  | zero => intro h; cases h
  | succ k ih =>
    intro h
    unfold dupI at h
    rw [Bool.or_eq_true] at h
    rcases h with h | h
    · obtain ⟨j, h1, h2⟩ := ih h
      exact ⟨j, by omega, h2⟩
    · simp at h
      exact ⟨k, by omega, h⟩
/-- One fact of a demand, behind those ahead of it. -/
def okE (xs : Nat → Int) (i : Nat) : Bool := (inB (xs i) 1 8 || inB (xs i) (-8) (-1)) && !dupI xs (xs i) i && !dupI xs (-xs i) i
def fokB (n : Nat) (xs : Nat → Int) : Bool := (List.range n).all (okE xs)
def dmB (o : Int) (n : Nat) (xs : Nat → Int) : Bool := inB o 0 3 && fokB n xs
theorem fokB_all {n : Nat} {xs : Nat → Int} (h : ∀ i, i < n → okE xs i = true) : fokB n xs = true :=
  List.all_eq_true.2 (fun i hi => h i (List.mem_range.1 hi))
theorem fokB_no {n : Nat} {xs : Nat → Int} {i : Nat} (hi : i < n) (h : okE xs i = false) : fokB n xs = false :=
  List.all_eq_false.2 ⟨i, List.mem_range.2 hi, by rw [h]; simp⟩
theorem fokB_t {n : Nat} {xs : Nat → Int} (h : fokB n xs = true) : ∀ i, i < n → okE xs i = true := by
  intro i hi
  exact List.all_eq_true.1 h i (List.mem_range.2 hi)
theorem nodup_le {l : List Nat} (h : l.Nodup) : ∀ m : List Nat, (∀ a ∈ l, a ∈ m) → l.length ≤ m.length := by
  induction l with
  | nil => intro m _; simp
  | cons a l ih =>
    intro m hm
    rw [List.nodup_cons] at h
    have h1 := ih h.2 (m.erase a) (fun b hb => (List.mem_erase_of_ne (by intro e; subst e; exact h.1 hb)).2 (hm b (List.mem_cons_of_mem _ hb)))
    have h2 : a ∈ m := hm a (List.mem_cons_self ..)
    rw [List.length_erase_of_mem h2] at h1
    have := List.length_pos_of_mem h2
    simp only [List.length_cons]
    omega
theorem fokB_le {n : Nat} {xs : Nat → Int} (h : fokB n xs = true) : n ≤ 8 := by
  have hok := fokB_t h
  have hb : ∀ i, i < n → 1 ≤ (xs i).natAbs ∧ (xs i).natAbs ≤ 8 := by
    intro i hi
    have := hok i hi
    unfold okE inB at this
    simp only [Bool.and_eq_true, Bool.or_eq_true, decide_eq_true_eq] at this
    omega
  have hn : ((List.range n).map fun i => (xs i).natAbs).Nodup := by
    refine List.pairwise_iff_getElem.2 fun i j hi hj hij => ?_
    simp only [List.length_map, List.length_range] at hi hj
    simp only [List.getElem_map, List.getElem_range]
    intro e
    have := hok j hj
    unfold okE at this
    simp only [Bool.and_eq_true, Bool.not_eq_true'] at this
    have he : xs i = xs j ∨ xs i = -xs j := by omega
    rcases he with he | he
    · rw [dupI_of he j hij] at this
      exact absurd this.1.2 (by simp)
    · rw [dupI_of he j hij] at this
      exact absurd this.2 (by simp)
  have := nodup_le hn (List.range 9) (by
    intro a ha
    rw [List.mem_map] at ha
    obtain ⟨i, hi, rfl⟩ := ha
    rw [List.mem_range] at hi ⊢
    have := (hb i hi).2
    omega)
  have h0 : 0 ∉ (List.range n).map fun i => (xs i).natAbs := by
    rw [List.mem_map]
    rintro ⟨i, hi, e⟩
    rw [List.mem_range] at hi
    have := (hb i hi).1
    omega
  have h1 := nodup_le (List.nodup_cons.2 ⟨h0, hn⟩) (List.range 9) (by
    intro a ha
    rcases List.mem_cons.1 ha with rfl | ha
    · simp
    rw [List.mem_map] at ha
    obtain ⟨i, hi, rfl⟩ := ha
    rw [List.mem_range] at hi ⊢
    have := (hb i hi).2
    omega)
  simpa using h1

set_option maxHeartbeats 2000000 in
theorem indexI_any (A : Option Addr) (n c B : Nat) (xs : Nat → Int) (v : Int) (w : World) (hx : Ints w B A n xs) (hB : B ≤ w.heap.size) (hn : n ≤ 9223372036854775807) :
    Calls Try.prog 85 #[.slice A n c, .int .i64 v] w fun e w' => ∃ r : Int, e = .returned (.int .i64 r) ∧ decide (0 ≤ r) = dupI xs v n ∧ Below w.heap.size w w' := by
  go_enter Try.func85, Try.ntmps85
  go_wp2_with fail
  go_loopw [5, 8] (fun v5 v8 wr => ∃ k : Nat, k ≤ n ∧ v8 = .int .i64 k ∧ Hid (dupI xs v k = false) ∧ Below w.heap.size w wr) (fun v5 v8 _ => (n - intOf v8).toNat)
  case atStart => exact ⟨0, by omega, rfl, Lib.hid rfl, Below.refl _ _⟩
  case round =>
    obtain ⟨k, hk, rfl, hno, hbel⟩ := hrel
    have hsz := hbel.size
    by_cases hlt : k < n
    · obtain ⟨b, o, rfl, hadB, hcode⟩ := hx (by omega)
      have g0 : wr.cell? ⟨b, o + k, none⟩ = some (.int .i64 (xs k)) := by rw [hbel.cell (by simp; omega)]; exact hcode k (by omega)
      have hop : dupI xs v (k + 1) = (dupI xs v k || (xs k == v)) := rfl
      rw [hno.out, Bool.false_or] at hop
      have hyes : xs k = v → dupI xs v n = true := fun h1 => dupI_of h1 n hlt
      clear hcode
      generalize xs k = u at g0 hop hyes
      replace hop := Lib.hid hop
      replace hyes := Lib.hid hyes
      by_cases huv : u = v
      · subst huv
        go_wp2
        go_ret
        exact ⟨_, rfl, by rw [hyes.out trivial]; simp, hbel⟩
      · have n1 : (u == v) = false := by rw [beq_eq_false_iff_ne]; exact huv
        have n2 : (v == u) = false := by rw [beq_eq_false_iff_ne]; exact fun e => huv e.symm
        go_wp2
        go_roundw
        case rel => exact ⟨k + 1, by omega, by go_num, Lib.hid (by rw [hop.out, n1]), hbel⟩
        case measure => simp [intOf]; omega
    · obtain rfl : k = n := by omega
      go_wp2
      go_ret
      exact ⟨_, rfl, by rw [hno.out]; rfl, hbel⟩
theorem containsI_any (A : Option Addr) (n c B : Nat) (xs : Nat → Int) (v : Int) (w : World) (hx : Ints w B A n xs) (hB : B ≤ w.heap.size) (hn : n ≤ 9223372036854775807) :
    Calls Try.prog 76 #[.slice A n c, .int .i64 v] w fun e w' => e = .returned (.bool (dupI xs v n)) ∧ Below w.heap.size w w' := by
  go_enter Try.func76, Try.ntmps76
  go_wp2_with fail
  refine (indexI_any _ _ _ _ _ _ _ hx hB hn).mono ?_
  rintro e w' ⟨r, rfl, hr, hb⟩
  go_wp2
  go_ret
  exact ⟨by rw [← hr]; rfl, hb⟩
theorem isOutcome_any (o : Int) (w : World) : Calls Try.prog 70 #[.int .i64 o] w fun e w' => e = .returned (.bool (inB o 0 3)) ∧ w = w' := by
  go_enter Try.func70, Try.ntmps70
  go_wp2_with (go_at_call 55; refine (within_any _ _ _ _).mono ?_; rintro e w' ⟨rfl, rfl⟩)
  go_ret
  exact ⟨rfl, rfl⟩
set_option maxRecDepth 100000 in
set_option maxHeartbeats 8000000 in
theorem isDemand_any (A : Option Addr) (n c B : Nat) (xs : Nat → Int) (o : Int) (w : World) (hx : Ints w B A n xs) (hB : B ≤ w.heap.size) (hn : n ≤ 9223372036854775807) (hnc : n ≤ c) :
    Calls Try.prog 50 #[.agg #[.slice A n c, .int .i64 o]] w fun e w' => e = .returned (.bool (dmB o n xs)) ∧ Below w.heap.size w w' := by
  replace hx := Lib.hid hx
  go_enter Try.func50, Try.ntmps50
  go_wp2_with fail
  go_loopw [8] (fun v8 wr => ∃ k : Nat, k ≤ n ∧ v8 = .int .i64 k ∧ Hid (∀ i, i < k → okE xs i = true) ∧ Whole wr w.heap.size 33 #[.slice A n c, .int .i64 o] ∧ Below w.heap.size w wr) (fun v8 _ => (n - intOf v8).toNat)
  case atStart => exact ⟨0, by omega, rfl, Lib.hid (fun i h => by omega), Whole.new _ _ _, (Below.refl _ _).alloc (Nat.le_refl _) _⟩
  case round =>
    obtain ⟨k, hk, rfl, hok, hW, hbel⟩ := hrel
    have hsz := hbel.size
    have hlt0 := hW.lt
    have d0 := hW.cell 0
    have d1 := hW.cell 1
    simp at d0 d1
    by_cases hlt : k < n
    · have hIk : Ints wr B A k xs := (hx.out.below (hbel.mono hB)).fewer (by omega)
      obtain ⟨b, o', rfl, hadB, hcode⟩ := hx.out (by omega)
      have g0 : wr.cell? ⟨b, o' + k, none⟩ = some (.int .i64 (xs k)) := by rw [hbel.cell (by simp; omega)]; exact hcode k (by omega)
      clear hcode
      have hokE : okE xs k = ((inB (xs k) 1 8 || inB (xs k) (-8) (-1)) && !dupI xs (xs k) k && !dupI xs (-xs k) k) := rfl
      have hno := fun h => fokB_no (xs := xs) (n := n) hlt h
      have hc1 := fun W (hW : Below B wr W) (hz : wr.heap.size ≤ W.heap.size) v => containsI_any (some ⟨b, o', none⟩) k c B xs v W (hIk.below hW) (by omega) (by omega)
      replace hc1 := Lib.hid hc1
      replace hno := Lib.hid hno
      have hxb : inB (xs k) 1 8 = true ∨ inB (xs k) (-8) (-1) = true → -8 ≤ xs k ∧ xs k ≤ 8 := by
        intro h
        unfold inB at h
        simp only [Bool.and_eq_true, decide_eq_true_eq] at h
        omega
      generalize xs k = f at g0 hokE hxb
      generalize hD1 : dupI xs f k = D1 at hokE
      generalize hD2 : dupI xs (-f) k = D2 at hokE
      cases h1 : inB f 1 8 with
      | false =>
        cases h2 : inB f (-8) (-1) with
        | false =>
          rw [h1, h2] at hokE
          replace hokE := Lib.hid hokE
          clear hxb
          go_wp2_with (go_at_call 55; refine (within_any _ _ _ _).mono ?_; rintro e w' ⟨rfl, rfl⟩)
          go_ret
          exact ⟨by rw [show dmB o n xs = false by unfold dmB; rw [hno.out (by rw [hokE.out]; rfl)]; simp]; rfl, hbel⟩
        | true =>
          rw [h1, h2] at hokE
          obtain ⟨x0, x1⟩ := hxb (.inr h2)
          have hwn : IntKind.i64.wrap (-f) = -f := by rw [IntKind.wrap_i64]; omega
          clear hxb
          go_wp2_with (go_at_call 55; refine (within_any _ _ _ _).mono ?_; rintro e w' ⟨rfl, rfl⟩)
          refine (hc1.out _ (Below.refl _ _) (Nat.le_refl _) _).mono ?_
          rw [hD1]
          rintro e w2 ⟨rfl, hb2⟩
          have hW2 := hW.below hb2 hlt0
          have z2 := hb2.size
          have d0' := hW2.cell 0
          have d1' := hW2.cell 1
          simp at d0' d1'
          have hbel2 := hbel.trans (hb2.mono hsz)
          clear d0 d1 g0
          cases D1 with
          | true =>
            replace hokE := Lib.hid hokE
            go_wp2
            go_ret
            exact ⟨by rw [show dmB o n xs = false by unfold dmB; rw [hno.out (by rw [hokE.out]; rfl)]; simp]; rfl, hbel2⟩
          | false =>
            go_wp2_with fail
            refine (hc1.out _ (hb2.mono (by omega)) (by omega) _).mono ?_
            rw [hD2]
            rintro e w3 ⟨rfl, hb3⟩
            have hW3 := hW2.below hb3 (by omega)
            have hbel3 := hbel2.trans (hb3.mono (by omega))
            clear d0' d1'
            cases D2 with
            | true =>
              replace hokE := Lib.hid hokE
              go_wp2
              go_ret
              exact ⟨by rw [show dmB o n xs = false by unfold dmB; rw [hno.out (by rw [hokE.out]; rfl)]; simp]; rfl, hbel3⟩
            | false =>
              replace hokE := Lib.hid hokE
              go_wp2
              go_roundw
              case rel =>
                refine ⟨k + 1, by omega, by go_num, Lib.hid (fun i hi => ?_), hW3, hbel3⟩
                by_cases e : i = k
                · subst e; rw [hokE.out]; rfl
                · exact hok.out i (by omega)
              case measure => simp [intOf]; omega
      | true =>
        rw [h1] at hokE
        obtain ⟨x0, x1⟩ := hxb (.inl h1)
        have hwn : IntKind.i64.wrap (-f) = -f := by rw [IntKind.wrap_i64]; omega
        clear hxb
        go_wp2_with (go_at_call 55; refine (within_any _ _ _ _).mono ?_; rintro e w' ⟨rfl, rfl⟩)
        refine (hc1.out _ (Below.refl _ _) (Nat.le_refl _) _).mono ?_
        rw [hD1]
        rintro e w2 ⟨rfl, hb2⟩
        have hW2 := hW.below hb2 hlt0
        have z2 := hb2.size
        have d0' := hW2.cell 0
        have d1' := hW2.cell 1
        simp at d0' d1'
        have hbel2 := hbel.trans (hb2.mono hsz)
        clear d0 d1 g0
        cases D1 with
        | true =>
          replace hokE := Lib.hid hokE
          go_wp2
          go_ret
          exact ⟨by rw [show dmB o n xs = false by unfold dmB; rw [hno.out (by rw [hokE.out]; rfl)]; simp]; rfl, hbel2⟩
        | false =>
          go_wp2_with fail
          refine (hc1.out _ (hb2.mono (by omega)) (by omega) _).mono ?_
          rw [hD2]
          rintro e w3 ⟨rfl, hb3⟩
          have hW3 := hW2.below hb3 (by omega)
          have hbel3 := hbel2.trans (hb3.mono (by omega))
          clear d0' d1'
          cases D2 with
          | true =>
            replace hokE := Lib.hid hokE
            go_wp2
            go_ret
            exact ⟨by rw [show dmB o n xs = false by unfold dmB; rw [hno.out (by rw [hokE.out]; rfl)]; simp]; rfl, hbel3⟩
          | false =>
            replace hokE := Lib.hid hokE
            go_wp2
            go_roundw
            case rel =>
              refine ⟨k + 1, by omega, by go_num, Lib.hid (fun i hi => ?_), hW3, hbel3⟩
              by_cases e : i = k
              · subst e; rw [hokE.out]; rfl
              · exact hok.out i (by omega)
            case measure => simp [intOf]; omega
    · obtain rfl : k = n := by omega
      go_wp2_with (go_at_call 70; refine (isOutcome_any _ _).mono ?_; rintro e w' ⟨rfl, rfl⟩)
      go_ret
      exact ⟨by rw [show dmB o k xs = inB o 0 3 by unfold dmB; rw [fokB_all hok.out, Bool.and_true]]; rfl, hbel⟩
theorem infoBool : (Try.prog.info? 4).map (fun i => (i.zero, i.size, i.bytes)) = some (some (.bool false), 1, 1) := by kernel_rfl
def SeenAt (w : World) (g : Nat) (s : Nat → Bool) : Prop := ∃ cs, Whole w g 4 cs ∧ cs.size = 9 ∧ ∀ v, v < 9 → cs[v]? = some (.bool (s v))
theorem SeenAt.zero (w : World) : SeenAt (w.alloc (.cells (zeros #[.bool false] 9) 4)) w.heap.size (fun _ => false) := by
  refine ⟨_, Whole.new w _ _, zeros_size _ _, fun j hj => ?_⟩
  simp [zeros, madeCells, hj, Nat.mod_one]
theorem SeenAt.put {w : World} {g : Nat} {s s' : Nat → Bool} (h : SeenAt w g s) (v : Nat) (hv : v < 9) (hs : ∀ j, j < 9 → s' j = if j = v then true else s j) : SeenAt (w.setCell ⟨g, v, none⟩ (.bool true)) g s' := by
  obtain ⟨cs, hW, hz, hc⟩ := h
  refine ⟨_, hW.put v _, by simpa using hz, fun j hj => ?_⟩
  rw [Array.getElem?_setIfInBounds, hs j hj]
  by_cases e : v = j
  · subst e; simp [hz, hv]
  · rw [if_neg e, if_neg (fun h => e h.symm), hc j hj]
def seenV (xs : Nat → Int) (k v : Nat) : Bool := dupI xs (v : Int) k || dupI xs (-(v : Int)) k
set_option maxRecDepth 100000 in
set_option maxHeartbeats 8000000 in
theorem l18Demand_any (A : Option Addr) (n c B : Nat) (xs : Nat → Int) (o : Int) (w : World) (hx : Ints w B A n xs) (hB : B ≤ w.heap.size) (hn : n ≤ 9223372036854775807) :
    Calls Try.prog 46 #[.agg #[.slice A n c, .int .i64 o]] w fun e w' => e = .returned (.bool (dmB o n xs)) ∧ Below w.heap.size w w' := by
  replace hx := Lib.hid hx
  cases ho : inB o 0 3 with
  | false =>
    have hd : dmB o n xs = false := by unfold dmB; rw [ho]; rfl
    rw [hd]
    go_enter Try.func46, Try.ntmps46
    go_wp2_with (go_at_call 57; refine (l01In_any _ _ _ _).mono ?_; rintro e w' ⟨rfl, rfl⟩)
    go_ret
    exact ⟨rfl, (Below.refl _ _).alloc (Nat.le_refl _) _⟩
  | true =>
  by_cases h8 : 8 < n
  · have hd : dmB o n xs = false := by
      unfold dmB
      cases hf : fokB n xs with
      | false => simp
      | true => have := fokB_le hf; omega
    rw [hd]
    have h8' : (8 : Int) < n := by omega
    go_enter Try.func46, Try.ntmps46
    go_wp2_with (go_at_call 57; refine (l01In_any _ _ _ _).mono ?_; rintro e w' ⟨rfl, rfl⟩)
    go_ret
    exact ⟨rfl, (Below.refl _ _).alloc (Nat.le_refl _) _⟩
  have hd : dmB o n xs = fokB n xs := by unfold dmB; rw [ho]; rfl
  rw [hd]
  clear hd
  obtain ⟨i0, hi, hz0, hz1, hz2⟩ := info_parts infoBool
  have hmk := fun W => make_eq (P := Try.prog) 95 4 i0 _ Try.underlying95 hi hz0 9 1 hz1 (by rw [hz2]; omega) (by omega) W
  have h9 : ((9 : Nat) : Int) = 9 := rfl
  rw [h9] at hmk
  clear hi hz0 hz1 hz2 h9
  go_enter Try.func46, Try.ntmps46
  go_wp2_with (go_at_call 57; refine (l01In_any _ _ _ _).mono ?_; rintro e w' ⟨rfl, rfl⟩)
  clear hmk
  go_loopw [4] (fun v4 wr => ∃ k : Nat, k ≤ n ∧ v4 = .int .i64 k ∧ Hid (∀ i, i < k → okE xs i = true) ∧ SeenAt wr (w.heap.size + 1) (seenV xs k) ∧ Whole wr w.heap.size 33 #[.slice A n c, .int .i64 o] ∧ Below w.heap.size w wr) (fun v4 _ => (n - intOf v4).toNat)
  case atStart => exact ⟨0, by omega, rfl, Lib.hid (fun i h => by omega), (by have h := SeenAt.zero (w.alloc (.cells #[.slice A n c, .int .i64 o] 33)); simp only [World.size_alloc] at h; exact h), (Whole.new _ _ _).alloc _, ((Below.refl _ _).alloc (Nat.le_refl _) _).alloc (by simp) _⟩
  case round =>
    obtain ⟨k, hk, rfl, hok, hS, hW, hbel⟩ := hrel
    have hsz := hbel.size
    have hlt0 := hW.lt
    have d0 := hW.cell 0
    have d1 := hW.cell 1
    simp at d0 d1
    by_cases hlt : k < n
    · obtain ⟨b, o', rfl, hadB, hcode⟩ := hx.out (by omega)
      have g0 : wr.cell? ⟨b, o' + k, none⟩ = some (.int .i64 (xs k)) := by rw [hbel.cell (by simp; omega)]; exact hcode k (by omega)
      clear hcode
      have hokE : okE xs k = ((inB (xs k) 1 8 || inB (xs k) (-8) (-1)) && !dupI xs (xs k) k && !dupI xs (-xs k) k) := rfl
      have hno := fun h => fokB_no (xs := xs) (n := n) hlt h
      replace hno := Lib.hid hno
      have hstp : ∀ v : Nat, seenV xs (k + 1) v = (seenV xs k v || (xs k == v) || (xs k == -(v : Int))) := fun v => by
        unfold seenV
        simp only [dupI]
        cases dupI xs v k <;> cases dupI xs (-(v : Int)) k <;> cases (xs k == (v : Int)) <;> cases (xs k == -(v : Int)) <;> rfl
      have hsv : ∀ a : Nat, a = (xs k).natAbs → seenV xs k a = (dupI xs (xs k) k || dupI xs (-xs k) k) := fun a e => by
        unfold seenV
        rcases Int.lt_or_le (xs k) 0 with h | h
        · rw [show (a : Int) = -xs k by omega, Int.neg_neg, Bool.or_comm]
        · rw [show (a : Int) = xs k by omega]
      generalize xs k = f at g0 hokE hstp hsv
      have hFALSE : okE xs k = false → fokB n xs = false := hno.out
      replace hFALSE := Lib.hid hFALSE
      by_cases hf0 : f = 0
      · subst hf0
        have hb : fokB n xs = false := hFALSE.out (by rw [hokE]; simp [inB])
        replace hb := Lib.hid hb
        clear hokE hstp hsv
        go_wp2_with (go_at_call 57; refine (l01In_any _ _ _ _).mono ?_; rintro e w' ⟨rfl, rfl⟩)
        go_ret
        exact ⟨by rw [hb.out]; rfl, hbel⟩
      have n0 : (f == 0) = false := by rw [beq_eq_false_iff_ne]; exact hf0
      cases hin : inB f (-8) 8 with
      | false =>
        have hb : fokB n xs = false := hFALSE.out (by
          rw [hokE]
          have h1 : inB f 1 8 = false := by unfold inB at hin ⊢; simp only [Bool.and_eq_false_iff, decide_eq_false_iff_not] at hin ⊢; omega
          have h2 : inB f (-8) (-1) = false := by unfold inB at hin ⊢; simp only [Bool.and_eq_false_iff, decide_eq_false_iff_not] at hin ⊢; omega
          rw [h1, h2]; rfl)
        replace hb := Lib.hid hb
        clear hokE hstp hsv
        go_wp2_with (go_at_call 57; refine (l01In_any _ _ _ _).mono ?_; rintro e w' ⟨rfl, rfl⟩)
        go_ret
        exact ⟨by rw [hb.out]; rfl, hbel⟩
      | true =>
        have hfb : -8 ≤ f ∧ f ≤ 8 := by unfold inB at hin; simp only [Bool.and_eq_true, decide_eq_true_eq] at hin; exact hin
        have hin2 : (inB f 1 8 || inB f (-8) (-1)) = true := by unfold inB; simp only [Bool.or_eq_true, Bool.and_eq_true, decide_eq_true_eq]; omega
        rw [hin2, Bool.true_and] at hokE
        obtain ⟨a, ha⟩ : ∃ a : Nat, a = f.natAbs := ⟨_, rfl⟩
        have ha8 : a < 9 := by omega
        have hmx : max f (-f) = (a : Int) := by omega
        have hwn : IntKind.i64.wrap (-f) = -f := by rw [IntKind.wrap_i64]; omega
        have hsa := hsv a ha
        have hst : ∀ j, j < 9 → seenV xs (k + 1) j = if j = a then true else seenV xs k j := fun j _ => by
          rw [hstp j]
          by_cases e : j = a
          · rw [if_pos e]
            have : (f == (j : Int)) = true ∨ (f == -(j : Int)) = true := by rw [beq_iff_eq, beq_iff_eq]; omega
            rcases this with h | h
            · rw [h]; simp
            · rw [h]; simp
          · rw [if_neg e]
            have h1 : (f == (j : Int)) = false := by rw [beq_eq_false_iff_ne]; omega
            have h2 : (f == -(j : Int)) = false := by rw [beq_eq_false_iff_ne]; omega
            rw [h1, h2]; simp
        replace hst := Lib.hid hst
        obtain ⟨cs, hWs, hzs, hcs⟩ := id hS
        have ys := (hWs.cell a).trans (hcs a ha8)
        have fs := hWs.frz a
        have hls := hWs.lt
        replace hS := Lib.hid hS
        replace ha := Lib.hid ha
        clear hstp hsv hcs hin2 hWs hzs
        generalize seenV xs k a = sn at ys hsa
        have hokE2 : okE xs k = !sn := by rw [hokE, hsa]; cases dupI xs f k <;> cases dupI xs (-f) k <;> rfl
        clear hokE hsa
        replace hokE2 := Lib.hid hokE2
        have hfa : f = (a : Int) ∨ f = -(a : Int) := by have := ha.out; omega
        have ha1 : 1 ≤ a := by have := ha.out; omega
        clear hmx hwn ha
        have hwa : IntKind.i64.wrap (a : Int) = a := by rw [IntKind.wrap_i64]; omega
        have hwn : IntKind.i64.wrap (-(a : Int)) = -(a : Int) := by rw [IntKind.wrap_i64]; omega
        have hlt2 : -(a : Int) < (a : Int) := by omega
        have hlt3 : ¬ (a : Int) < -(a : Int) := by omega
        rcases hfa with rfl | rfl
        · cases sn with
          | true =>
            have hb : Hid (fokB n xs = false) := Lib.hid (hFALSE.out (by rw [hokE2.out]; rfl))
            go_wp2_with (go_at_call 57; refine (l01In_any _ _ _ _).mono ?_; rintro e w' ⟨rfl, rfl⟩)
            go_ret
            exact ⟨by rw [hb.out]; rfl, hbel⟩
          | false =>
            go_wp2_with (go_at_call 57; refine (l01In_any _ _ _ _).mono ?_; rintro e w' ⟨rfl, rfl⟩)
            go_roundw
            case rel =>
              refine ⟨k + 1, by omega, by go_num, Lib.hid (fun i hi => ?_), hS.out.put a ha8 hst.out, hW.far (by simp) _, hbel.setCell (by simp) _⟩
              by_cases e : i = k
              · subst e; rw [hokE2.out]; rfl
              · exact hok.out i (by omega)
            case measure => simp [intOf]; omega
        · cases sn with
          | true =>
            have hb : Hid (fokB n xs = false) := Lib.hid (hFALSE.out (by rw [hokE2.out]; rfl))
            go_wp2_with (go_at_call 57; refine (l01In_any _ _ _ _).mono ?_; rintro e w' ⟨rfl, rfl⟩)
            go_ret
            exact ⟨by rw [hb.out]; rfl, hbel⟩
          | false =>
            go_wp2_with (go_at_call 57; refine (l01In_any _ _ _ _).mono ?_; rintro e w' ⟨rfl, rfl⟩)
            go_roundw
            case rel =>
              refine ⟨k + 1, by omega, by go_num, Lib.hid (fun i hi => ?_), hS.out.put a ha8 hst.out, hW.far (by simp) _, hbel.setCell (by simp) _⟩
              by_cases e : i = k
              · subst e; rw [hokE2.out]; rfl
              · exact hok.out i (by omega)
            case measure => simp [intOf]; omega
    · obtain rfl : k = n := by omega
      go_wp2
      go_ret
      exact ⟨by rw [fokB_all hok.out]; rfl, hbel⟩
end Go.Proofs.Ytcilgohjeobamaa
