/- Which lists of statements are valid: the reference's. -/
import Derived.Test.YtcilgohjeobamaaHear2
set_option linter.unusedSimpArgs false
set_option linter.unusedVariables false
namespace Go.Proofs.Ytcilgohjeobamaa
open Go.RowKit Go.Shelf

theorem stB_long {pb pa : Int} {n : Nat} {xs : Nat → Int} (h : 60 < n) : stB pb pa n xs = false := by
  unfold stB
  rw [show decide (n ≤ 60) = false by simp; omega]
  rfl
set_option maxRecDepth 100000 in
set_option maxHeartbeats 8000000 in
theorem l18Valid_any (pb pa : Int) (A : Option Addr) (n c B : Nat) (xs : Nat → Int) (w : World) (hx : Ints w B A (n * 3) xs) (hB : B ≤ w.heap.size) (hn : n ≤ 9223372036854775807) :
    Calls Try.prog 78 #[.int .i64 pb, .int .i64 pa, .slice A n c] w fun e w' => e = .returned (.bool (stB pb pa n xs)) ∧ Below w.heap.size w w' := by
  by_cases h60 : 60 < n
  · rw [stB_long h60]
    go_enter Try.func78, Try.ntmps78
    go_wp2
    go_ret
    exact ⟨rfl, Below.refl _ _⟩
  generalize hv : stB pb pa n xs = v
  replace hv := Lib.hid hv
  replace hx := Lib.hid hx
  go_enter Try.func78, Try.ntmps78
  go_wp2_with fail
  go_loopw [7] (fun vi wr => ∃ k : Nat, k ≤ n ∧ vi = .int .i64 k ∧ Hid (∀ i, i < k → okT pb pa xs i = true) ∧ Below w.heap.size w wr) (fun vi _ => (n - intOf vi).toNat)
  case atStart => exact ⟨0, by omega, rfl, Lib.hid (fun i hi => by omega), Below.refl _ _⟩
  case round =>
    obtain ⟨k, hk, rfl, hok, hbel⟩ := hrel
    have hsz := hbel.size
    by_cases hlt : k < n
    · obtain ⟨b, o, rfl, hadB, hcode⟩ := hx.out (by omega)
      have g0 : wr.cell? ⟨b, o + k * 3, none⟩ = some (.int .i64 (xs (k * 3))) := by rw [hbel.cell (by simp; omega)]; exact hcode (k * 3) (by omega)
      have g1 : wr.cell? ⟨b, o + k * 3 + 1, none⟩ = some (.int .i64 (xs (k * 3 + 1))) := by rw [hbel.cell (by simp; omega)]; exact hcode (k * 3 + 1) (by omega)
      have g2 : wr.cell? ⟨b, o + k * 3 + 2, none⟩ = some (.int .i64 (xs (k * 3 + 2))) := by rw [hbel.cell (by simp; omega)]; exact hcode (k * 3 + 2) (by omega)
      have hbl : b < wr.heap.size := by omega
      have hokk : okT pb pa xs k = (((xs (k * 3) == pb) || (xs (k * 3) == pa) || inB (xs (k * 3)) 100 199) && inB (xs (k * 3 + 1)) 0 7 && ((xs (k * 3 + 2) == 1) || (xs (k * 3 + 2) == -1)) && !dupV xs (xs (k * 3)) (xs (k * 3 + 1)) k) := rfl
      have hno : okT pb pa xs k = false → v = false := fun h => by rw [← hv.out]; exact stB_no hlt h
      clear hcode
      generalize xs (k * 3) = sp at g0 hokk
      generalize xs (k * 3 + 1) = f at g1 hokk
      generalize xs (k * 3 + 2) = sy at g2 hokk
      replace hno := Lib.hid hno
      replace hokk := Lib.hid hokk

      by_cases h1 : sp = pb
      · subst h1
        cases hf : inB f 0 7 with
        | false =>
          have hr := hno.out (by rw [hokk.out]; simp [show (sp == sp) = true from beq_self_eq_true sp, hf])
          subst hr
          go_wp2_with (go_at_call 57; refine (l01In_any _ _ _ _).mono ?_; rintro e w' ⟨rfl, rfl⟩)
          go_ret
          exact ⟨rfl, hbel.alloc hsz _⟩
        | true =>
        by_cases hs1 : sy = 1
        · subst hs1
          have hXW := Whole.new wr 59 #[.int .i64 sp, .int .i64 f, .int .i64 1]
          have hB0 := hbel.alloc hsz (.cells #[.int .i64 sp, .int .i64 f, .int .i64 1] 59)
          go_wp2_with (first | (go_at_call 57; refine (l01In_any _ _ _ _).mono ?_; rintro e w' ⟨rfl, rfl⟩) | fail)
          go_loopw [9] (fun vj wi => ∃ j : Nat, j ≤ k ∧ vj = .int .i64 j ∧ Hid (dupV xs sp f j = false) ∧ Whole wi wr.heap.size 59 #[.int .i64 sp, .int .i64 f, .int .i64 1] ∧ Below w.heap.size w wi) (fun vj _ => (k - intOf vj).toNat)
          case atStart => exact ⟨0, by omega, rfl, Lib.hid rfl, hXW, hB0⟩
          case round =>
            obtain ⟨j, hj, rfl, hDj, hX, hbi⟩ := hrel
            clear hXW hB0 g0 g1 g2
            have hszi := hbi.size
            have x0 := hX.cell 0
            have x1 := hX.cell 1
            simp at x0 x1
            have hXl := hX.lt
            by_cases hjk : j < k
            · obtain ⟨b', o', hbo, hadB', hcode'⟩ := hx.out (by omega)
              injection hbo with hbo
              injection hbo with hb1 hb2
              subst hb1
              subst hb2
              have q0 : wr.cell? ⟨b, o + j * 3, none⟩ = some (.int .i64 (xs (j * 3))) := by rw [hbi.cell (by simp; omega)]; exact hcode' (j * 3) (by omega)
              have q1 : wr.cell? ⟨b, o + j * 3 + 1, none⟩ = some (.int .i64 (xs (j * 3 + 1))) := by rw [hbi.cell (by simp; omega)]; exact hcode' (j * 3 + 1) (by omega)
              have hbli : b < wr.heap.size := by omega
              have hyes := fun h1 h2 => dupV_of (xs := xs) (sp := sp) (f := f) (i := j) h1 h2 k hjk
              have hst : dupV xs sp f (j + 1) = (dupV xs sp f j || ((xs (j * 3) == sp) && (xs (j * 3 + 1) == f))) := rfl
              rw [hDj.out, Bool.false_or] at hst
              have hjn : j < n := by omega
              clear hcode'
              generalize xs (j * 3) = a at *
              generalize xs (j * 3 + 1) = d at *
              replace hyes := Lib.hid hyes
              replace hst := Lib.hid hst
              by_cases e1 : a = sp
              · subst e1
                by_cases e2 : d = f
                · subst e2
                  have hr := hno.out (by rw [hokk.out, hyes.out rfl rfl]; simp)
                  subst hr
                  go_wp2
                  go_quiet (fail)
                  go_wp2
                  go_ret
                  exact ⟨rfl, below_dN hbi _⟩
                · have ne2 : (d == f) = false := by rw [beq_eq_false_iff_ne]; exact e2
                  have hn1 : Hid (dupV xs a f (j + 1) = false) := Lib.hid (by rw [hst.out, ne2]; simp)
                  go_wp2
                  go_quiet (fail)
                  go_wp2
                  go_roundw
                  case rel => exact ⟨j + 1, by omega, by go_num, hn1, hX.drewN _, below_dN hbi _⟩
                  case measure => simp [intOf]; omega
              · have ne1 : (a == sp) = false := by rw [beq_eq_false_iff_ne]; exact e1
                have hn1 : Hid (dupV xs sp f (j + 1) = false) := Lib.hid (by rw [hst.out, ne1]; rfl)
                go_wp2
                go_quiet (fail)
                go_wp2
                go_roundw
                case rel => exact ⟨j + 1, by omega, by go_num, hn1, hX.drewN _, below_dN hbi _⟩
                case measure => simp [intOf]; omega
            · obtain rfl : j = k := by omega
              have hyes : okT sp pa xs j = true := by rw [hokk.out, hDj.out]; simp [show (sp == sp) = true from beq_self_eq_true sp, hf, show ((1 : Int) == 1) = true from rfl]
              replace hyes := Lib.hid hyes
              clear hokk hno
              go_wp2
              go_roundw
              case rel =>
                refine ⟨j + 1, by omega, by go_num, Lib.hid (fun i hi => ?_), hbi⟩
                by_cases e : i = j
                · subst e; exact hyes.out
                · exact hok.out i (by omega)
              case measure => simp [intOf]; omega
        by_cases hs2 : sy = -1
        · subst hs2
          have hXW := Whole.new wr 59 #[.int .i64 sp, .int .i64 f, .int .i64 (-1)]
          have hB0 := hbel.alloc hsz (.cells #[.int .i64 sp, .int .i64 f, .int .i64 (-1)] 59)
          go_wp2_with (first | (go_at_call 57; refine (l01In_any _ _ _ _).mono ?_; rintro e w' ⟨rfl, rfl⟩) | fail)
          go_loopw [9] (fun vj wi => ∃ j : Nat, j ≤ k ∧ vj = .int .i64 j ∧ Hid (dupV xs sp f j = false) ∧ Whole wi wr.heap.size 59 #[.int .i64 sp, .int .i64 f, .int .i64 (-1)] ∧ Below w.heap.size w wi) (fun vj _ => (k - intOf vj).toNat)
          case atStart => exact ⟨0, by omega, rfl, Lib.hid rfl, hXW, hB0⟩
          case round =>
            obtain ⟨j, hj, rfl, hDj, hX, hbi⟩ := hrel
            clear hXW hB0 g0 g1 g2
            have hszi := hbi.size
            have x0 := hX.cell 0
            have x1 := hX.cell 1
            simp at x0 x1
            have hXl := hX.lt
            by_cases hjk : j < k
            · obtain ⟨b', o', hbo, hadB', hcode'⟩ := hx.out (by omega)
              injection hbo with hbo
              injection hbo with hb1 hb2
              subst hb1
              subst hb2
              have q0 : wr.cell? ⟨b, o + j * 3, none⟩ = some (.int .i64 (xs (j * 3))) := by rw [hbi.cell (by simp; omega)]; exact hcode' (j * 3) (by omega)
              have q1 : wr.cell? ⟨b, o + j * 3 + 1, none⟩ = some (.int .i64 (xs (j * 3 + 1))) := by rw [hbi.cell (by simp; omega)]; exact hcode' (j * 3 + 1) (by omega)
              have hbli : b < wr.heap.size := by omega
              have hyes := fun h1 h2 => dupV_of (xs := xs) (sp := sp) (f := f) (i := j) h1 h2 k hjk
              have hst : dupV xs sp f (j + 1) = (dupV xs sp f j || ((xs (j * 3) == sp) && (xs (j * 3 + 1) == f))) := rfl
              rw [hDj.out, Bool.false_or] at hst
              have hjn : j < n := by omega
              clear hcode'
              generalize xs (j * 3) = a at *
              generalize xs (j * 3 + 1) = d at *
              replace hyes := Lib.hid hyes
              replace hst := Lib.hid hst
              by_cases e1 : a = sp
              · subst e1
                by_cases e2 : d = f
                · subst e2
                  have hr := hno.out (by rw [hokk.out, hyes.out rfl rfl]; simp)
                  subst hr
                  go_wp2
                  go_quiet (fail)
                  go_wp2
                  go_ret
                  exact ⟨rfl, below_dN hbi _⟩
                · have ne2 : (d == f) = false := by rw [beq_eq_false_iff_ne]; exact e2
                  have hn1 : Hid (dupV xs a f (j + 1) = false) := Lib.hid (by rw [hst.out, ne2]; simp)
                  go_wp2
                  go_quiet (fail)
                  go_wp2
                  go_roundw
                  case rel => exact ⟨j + 1, by omega, by go_num, hn1, hX.drewN _, below_dN hbi _⟩
                  case measure => simp [intOf]; omega
              · have ne1 : (a == sp) = false := by rw [beq_eq_false_iff_ne]; exact e1
                have hn1 : Hid (dupV xs sp f (j + 1) = false) := Lib.hid (by rw [hst.out, ne1]; rfl)
                go_wp2
                go_quiet (fail)
                go_wp2
                go_roundw
                case rel => exact ⟨j + 1, by omega, by go_num, hn1, hX.drewN _, below_dN hbi _⟩
                case measure => simp [intOf]; omega
            · obtain rfl : j = k := by omega
              have hyes : okT sp pa xs j = true := by rw [hokk.out, hDj.out]; simp [show (sp == sp) = true from beq_self_eq_true sp, hf, show ((-1 : Int) == -1) = true from rfl]
              replace hyes := Lib.hid hyes
              clear hokk hno
              go_wp2
              go_roundw
              case rel =>
                refine ⟨j + 1, by omega, by go_num, Lib.hid (fun i hi => ?_), hbi⟩
                by_cases e : i = j
                · subst e; exact hyes.out
                · exact hok.out i (by omega)
              case measure => simp [intOf]; omega
        · have ns1 : (sy == 1) = false := by rw [beq_eq_false_iff_ne]; exact hs1
          have ns2 : (sy == -1) = false := by rw [beq_eq_false_iff_ne]; exact hs2
          have ms1 : (sy != 1) = true := by rw [bne, ns1]; rfl
          have ms2 : (sy != -1) = true := by rw [bne, ns2]; rfl
          have hr := hno.out (by rw [hokk.out]; simp [ns1, ns2])
          subst hr
          go_wp2_with (go_at_call 57; refine (l01In_any _ _ _ _).mono ?_; rintro e w' ⟨rfl, rfl⟩)
          go_ret
          exact ⟨rfl, hbel.alloc hsz _⟩
      have n1 : (sp == pb) = false := by rw [beq_eq_false_iff_ne]; exact h1
      have m1 : (sp != pb) = true := by rw [bne, n1]; rfl
      by_cases h2 : sp = pa
      · subst h2
        cases hf : inB f 0 7 with
        | false =>
          have hr := hno.out (by rw [hokk.out]; simp [show (sp == sp) = true from beq_self_eq_true sp, hf])
          subst hr
          go_wp2_with (go_at_call 57; refine (l01In_any _ _ _ _).mono ?_; rintro e w' ⟨rfl, rfl⟩)
          go_ret
          exact ⟨rfl, hbel.alloc hsz _⟩
        | true =>
        by_cases hs1 : sy = 1
        · subst hs1
          have hXW := Whole.new wr 59 #[.int .i64 sp, .int .i64 f, .int .i64 1]
          have hB0 := hbel.alloc hsz (.cells #[.int .i64 sp, .int .i64 f, .int .i64 1] 59)
          go_wp2_with (first | (go_at_call 57; refine (l01In_any _ _ _ _).mono ?_; rintro e w' ⟨rfl, rfl⟩) | fail)
          go_loopw [9] (fun vj wi => ∃ j : Nat, j ≤ k ∧ vj = .int .i64 j ∧ Hid (dupV xs sp f j = false) ∧ Whole wi wr.heap.size 59 #[.int .i64 sp, .int .i64 f, .int .i64 1] ∧ Below w.heap.size w wi) (fun vj _ => (k - intOf vj).toNat)
          case atStart => exact ⟨0, by omega, rfl, Lib.hid rfl, hXW, hB0⟩
          case round =>
            obtain ⟨j, hj, rfl, hDj, hX, hbi⟩ := hrel
            clear hXW hB0 g0 g1 g2
            have hszi := hbi.size
            have x0 := hX.cell 0
            have x1 := hX.cell 1
            simp at x0 x1
            have hXl := hX.lt
            by_cases hjk : j < k
            · obtain ⟨b', o', hbo, hadB', hcode'⟩ := hx.out (by omega)
              injection hbo with hbo
              injection hbo with hb1 hb2
              subst hb1
              subst hb2
              have q0 : wr.cell? ⟨b, o + j * 3, none⟩ = some (.int .i64 (xs (j * 3))) := by rw [hbi.cell (by simp; omega)]; exact hcode' (j * 3) (by omega)
              have q1 : wr.cell? ⟨b, o + j * 3 + 1, none⟩ = some (.int .i64 (xs (j * 3 + 1))) := by rw [hbi.cell (by simp; omega)]; exact hcode' (j * 3 + 1) (by omega)
              have hbli : b < wr.heap.size := by omega
              have hyes := fun h1 h2 => dupV_of (xs := xs) (sp := sp) (f := f) (i := j) h1 h2 k hjk
              have hst : dupV xs sp f (j + 1) = (dupV xs sp f j || ((xs (j * 3) == sp) && (xs (j * 3 + 1) == f))) := rfl
              rw [hDj.out, Bool.false_or] at hst
              have hjn : j < n := by omega
              clear hcode'
              generalize xs (j * 3) = a at *
              generalize xs (j * 3 + 1) = d at *
              replace hyes := Lib.hid hyes
              replace hst := Lib.hid hst
              by_cases e1 : a = sp
              · subst e1
                by_cases e2 : d = f
                · subst e2
                  have hr := hno.out (by rw [hokk.out, hyes.out rfl rfl]; simp)
                  subst hr
                  go_wp2
                  go_quiet (fail)
                  go_wp2
                  go_ret
                  exact ⟨rfl, below_dN hbi _⟩
                · have ne2 : (d == f) = false := by rw [beq_eq_false_iff_ne]; exact e2
                  have hn1 : Hid (dupV xs a f (j + 1) = false) := Lib.hid (by rw [hst.out, ne2]; simp)
                  go_wp2
                  go_quiet (fail)
                  go_wp2
                  go_roundw
                  case rel => exact ⟨j + 1, by omega, by go_num, hn1, hX.drewN _, below_dN hbi _⟩
                  case measure => simp [intOf]; omega
              · have ne1 : (a == sp) = false := by rw [beq_eq_false_iff_ne]; exact e1
                have hn1 : Hid (dupV xs sp f (j + 1) = false) := Lib.hid (by rw [hst.out, ne1]; rfl)
                go_wp2
                go_quiet (fail)
                go_wp2
                go_roundw
                case rel => exact ⟨j + 1, by omega, by go_num, hn1, hX.drewN _, below_dN hbi _⟩
                case measure => simp [intOf]; omega
            · obtain rfl : j = k := by omega
              have hyes : okT pb sp xs j = true := by rw [hokk.out, hDj.out]; simp [show (sp == sp) = true from beq_self_eq_true sp, hf, show ((1 : Int) == 1) = true from rfl]
              replace hyes := Lib.hid hyes
              clear hokk hno
              go_wp2
              go_roundw
              case rel =>
                refine ⟨j + 1, by omega, by go_num, Lib.hid (fun i hi => ?_), hbi⟩
                by_cases e : i = j
                · subst e; exact hyes.out
                · exact hok.out i (by omega)
              case measure => simp [intOf]; omega
        by_cases hs2 : sy = -1
        · subst hs2
          have hXW := Whole.new wr 59 #[.int .i64 sp, .int .i64 f, .int .i64 (-1)]
          have hB0 := hbel.alloc hsz (.cells #[.int .i64 sp, .int .i64 f, .int .i64 (-1)] 59)
          go_wp2_with (first | (go_at_call 57; refine (l01In_any _ _ _ _).mono ?_; rintro e w' ⟨rfl, rfl⟩) | fail)
          go_loopw [9] (fun vj wi => ∃ j : Nat, j ≤ k ∧ vj = .int .i64 j ∧ Hid (dupV xs sp f j = false) ∧ Whole wi wr.heap.size 59 #[.int .i64 sp, .int .i64 f, .int .i64 (-1)] ∧ Below w.heap.size w wi) (fun vj _ => (k - intOf vj).toNat)
          case atStart => exact ⟨0, by omega, rfl, Lib.hid rfl, hXW, hB0⟩
          case round =>
            obtain ⟨j, hj, rfl, hDj, hX, hbi⟩ := hrel
            clear hXW hB0 g0 g1 g2
            have hszi := hbi.size
            have x0 := hX.cell 0
            have x1 := hX.cell 1
            simp at x0 x1
            have hXl := hX.lt
            by_cases hjk : j < k
            · obtain ⟨b', o', hbo, hadB', hcode'⟩ := hx.out (by omega)
              injection hbo with hbo
              injection hbo with hb1 hb2
              subst hb1
              subst hb2
              have q0 : wr.cell? ⟨b, o + j * 3, none⟩ = some (.int .i64 (xs (j * 3))) := by rw [hbi.cell (by simp; omega)]; exact hcode' (j * 3) (by omega)
              have q1 : wr.cell? ⟨b, o + j * 3 + 1, none⟩ = some (.int .i64 (xs (j * 3 + 1))) := by rw [hbi.cell (by simp; omega)]; exact hcode' (j * 3 + 1) (by omega)
              have hbli : b < wr.heap.size := by omega
              have hyes := fun h1 h2 => dupV_of (xs := xs) (sp := sp) (f := f) (i := j) h1 h2 k hjk
              have hst : dupV xs sp f (j + 1) = (dupV xs sp f j || ((xs (j * 3) == sp) && (xs (j * 3 + 1) == f))) := rfl
              rw [hDj.out, Bool.false_or] at hst
              have hjn : j < n := by omega
              clear hcode'
              generalize xs (j * 3) = a at *
              generalize xs (j * 3 + 1) = d at *
              replace hyes := Lib.hid hyes
              replace hst := Lib.hid hst
              by_cases e1 : a = sp
              · subst e1
                by_cases e2 : d = f
                · subst e2
                  have hr := hno.out (by rw [hokk.out, hyes.out rfl rfl]; simp)
                  subst hr
                  go_wp2
                  go_quiet (fail)
                  go_wp2
                  go_ret
                  exact ⟨rfl, below_dN hbi _⟩
                · have ne2 : (d == f) = false := by rw [beq_eq_false_iff_ne]; exact e2
                  have hn1 : Hid (dupV xs a f (j + 1) = false) := Lib.hid (by rw [hst.out, ne2]; simp)
                  go_wp2
                  go_quiet (fail)
                  go_wp2
                  go_roundw
                  case rel => exact ⟨j + 1, by omega, by go_num, hn1, hX.drewN _, below_dN hbi _⟩
                  case measure => simp [intOf]; omega
              · have ne1 : (a == sp) = false := by rw [beq_eq_false_iff_ne]; exact e1
                have hn1 : Hid (dupV xs sp f (j + 1) = false) := Lib.hid (by rw [hst.out, ne1]; rfl)
                go_wp2
                go_quiet (fail)
                go_wp2
                go_roundw
                case rel => exact ⟨j + 1, by omega, by go_num, hn1, hX.drewN _, below_dN hbi _⟩
                case measure => simp [intOf]; omega
            · obtain rfl : j = k := by omega
              have hyes : okT pb sp xs j = true := by rw [hokk.out, hDj.out]; simp [show (sp == sp) = true from beq_self_eq_true sp, hf, show ((-1 : Int) == -1) = true from rfl]
              replace hyes := Lib.hid hyes
              clear hokk hno
              go_wp2
              go_roundw
              case rel =>
                refine ⟨j + 1, by omega, by go_num, Lib.hid (fun i hi => ?_), hbi⟩
                by_cases e : i = j
                · subst e; exact hyes.out
                · exact hok.out i (by omega)
              case measure => simp [intOf]; omega
        · have ns1 : (sy == 1) = false := by rw [beq_eq_false_iff_ne]; exact hs1
          have ns2 : (sy == -1) = false := by rw [beq_eq_false_iff_ne]; exact hs2
          have ms1 : (sy != 1) = true := by rw [bne, ns1]; rfl
          have ms2 : (sy != -1) = true := by rw [bne, ns2]; rfl
          have hr := hno.out (by rw [hokk.out]; simp [ns1, ns2])
          subst hr
          go_wp2_with (go_at_call 57; refine (l01In_any _ _ _ _).mono ?_; rintro e w' ⟨rfl, rfl⟩)
          go_ret
          exact ⟨rfl, hbel.alloc hsz _⟩
      have n2 : (sp == pa) = false := by rw [beq_eq_false_iff_ne]; exact h2
      have m2 : (sp != pa) = true := by rw [bne, n2]; rfl
      cases h3 : inB sp 100 199 with
      | false =>
        have hr := hno.out (by rw [hokk.out]; simp [n1, n2, h3])
        subst hr
        go_wp2_with (go_at_call 57; refine (l01In_any _ _ _ _).mono ?_; rintro e w' ⟨rfl, rfl⟩)
        go_ret
        exact ⟨rfl, hbel.alloc hsz _⟩
      | true =>
        cases hf : inB f 0 7 with
        | false =>
          have hr := hno.out (by rw [hokk.out]; simp [n1, n2, h3, hf])
          subst hr
          go_wp2_with (go_at_call 57; refine (l01In_any _ _ _ _).mono ?_; rintro e w' ⟨rfl, rfl⟩)
          go_ret
          exact ⟨rfl, hbel.alloc hsz _⟩
        | true =>
        by_cases hs1 : sy = 1
        · subst hs1
          have hXW := Whole.new wr 59 #[.int .i64 sp, .int .i64 f, .int .i64 1]
          have hB0 := hbel.alloc hsz (.cells #[.int .i64 sp, .int .i64 f, .int .i64 1] 59)
          go_wp2_with (first | (go_at_call 57; refine (l01In_any _ _ _ _).mono ?_; rintro e w' ⟨rfl, rfl⟩) | fail)
          go_loopw [9] (fun vj wi => ∃ j : Nat, j ≤ k ∧ vj = .int .i64 j ∧ Hid (dupV xs sp f j = false) ∧ Whole wi wr.heap.size 59 #[.int .i64 sp, .int .i64 f, .int .i64 1] ∧ Below w.heap.size w wi) (fun vj _ => (k - intOf vj).toNat)
          case atStart => exact ⟨0, by omega, rfl, Lib.hid rfl, hXW, hB0⟩
          case round =>
            obtain ⟨j, hj, rfl, hDj, hX, hbi⟩ := hrel
            clear hXW hB0 g0 g1 g2
            have hszi := hbi.size
            have x0 := hX.cell 0
            have x1 := hX.cell 1
            simp at x0 x1
            have hXl := hX.lt
            by_cases hjk : j < k
            · obtain ⟨b', o', hbo, hadB', hcode'⟩ := hx.out (by omega)
              injection hbo with hbo
              injection hbo with hb1 hb2
              subst hb1
              subst hb2
              have q0 : wr.cell? ⟨b, o + j * 3, none⟩ = some (.int .i64 (xs (j * 3))) := by rw [hbi.cell (by simp; omega)]; exact hcode' (j * 3) (by omega)
              have q1 : wr.cell? ⟨b, o + j * 3 + 1, none⟩ = some (.int .i64 (xs (j * 3 + 1))) := by rw [hbi.cell (by simp; omega)]; exact hcode' (j * 3 + 1) (by omega)
              have hbli : b < wr.heap.size := by omega
              have hyes := fun h1 h2 => dupV_of (xs := xs) (sp := sp) (f := f) (i := j) h1 h2 k hjk
              have hst : dupV xs sp f (j + 1) = (dupV xs sp f j || ((xs (j * 3) == sp) && (xs (j * 3 + 1) == f))) := rfl
              rw [hDj.out, Bool.false_or] at hst
              have hjn : j < n := by omega
              clear hcode'
              generalize xs (j * 3) = a at *
              generalize xs (j * 3 + 1) = d at *
              replace hyes := Lib.hid hyes
              replace hst := Lib.hid hst
              by_cases e1 : a = sp
              · subst e1
                by_cases e2 : d = f
                · subst e2
                  have hr := hno.out (by rw [hokk.out, hyes.out rfl rfl]; simp)
                  subst hr
                  go_wp2
                  go_quiet (fail)
                  go_wp2
                  go_ret
                  exact ⟨rfl, below_dN hbi _⟩
                · have ne2 : (d == f) = false := by rw [beq_eq_false_iff_ne]; exact e2
                  have hn1 : Hid (dupV xs a f (j + 1) = false) := Lib.hid (by rw [hst.out, ne2]; simp)
                  go_wp2
                  go_quiet (fail)
                  go_wp2
                  go_roundw
                  case rel => exact ⟨j + 1, by omega, by go_num, hn1, hX.drewN _, below_dN hbi _⟩
                  case measure => simp [intOf]; omega
              · have ne1 : (a == sp) = false := by rw [beq_eq_false_iff_ne]; exact e1
                have hn1 : Hid (dupV xs sp f (j + 1) = false) := Lib.hid (by rw [hst.out, ne1]; rfl)
                go_wp2
                go_quiet (fail)
                go_wp2
                go_roundw
                case rel => exact ⟨j + 1, by omega, by go_num, hn1, hX.drewN _, below_dN hbi _⟩
                case measure => simp [intOf]; omega
            · obtain rfl : j = k := by omega
              have hyes : okT pb pa xs j = true := by rw [hokk.out, hDj.out]; simp [n1, n2, h3, hf, show ((1 : Int) == 1) = true from rfl]
              replace hyes := Lib.hid hyes
              clear hokk hno
              go_wp2
              go_roundw
              case rel =>
                refine ⟨j + 1, by omega, by go_num, Lib.hid (fun i hi => ?_), hbi⟩
                by_cases e : i = j
                · subst e; exact hyes.out
                · exact hok.out i (by omega)
              case measure => simp [intOf]; omega
        by_cases hs2 : sy = -1
        · subst hs2
          have hXW := Whole.new wr 59 #[.int .i64 sp, .int .i64 f, .int .i64 (-1)]
          have hB0 := hbel.alloc hsz (.cells #[.int .i64 sp, .int .i64 f, .int .i64 (-1)] 59)
          go_wp2_with (first | (go_at_call 57; refine (l01In_any _ _ _ _).mono ?_; rintro e w' ⟨rfl, rfl⟩) | fail)
          go_loopw [9] (fun vj wi => ∃ j : Nat, j ≤ k ∧ vj = .int .i64 j ∧ Hid (dupV xs sp f j = false) ∧ Whole wi wr.heap.size 59 #[.int .i64 sp, .int .i64 f, .int .i64 (-1)] ∧ Below w.heap.size w wi) (fun vj _ => (k - intOf vj).toNat)
          case atStart => exact ⟨0, by omega, rfl, Lib.hid rfl, hXW, hB0⟩
          case round =>
            obtain ⟨j, hj, rfl, hDj, hX, hbi⟩ := hrel
            clear hXW hB0 g0 g1 g2
            have hszi := hbi.size
            have x0 := hX.cell 0
            have x1 := hX.cell 1
            simp at x0 x1
            have hXl := hX.lt
            by_cases hjk : j < k
            · obtain ⟨b', o', hbo, hadB', hcode'⟩ := hx.out (by omega)
              injection hbo with hbo
              injection hbo with hb1 hb2
              subst hb1
              subst hb2
              have q0 : wr.cell? ⟨b, o + j * 3, none⟩ = some (.int .i64 (xs (j * 3))) := by rw [hbi.cell (by simp; omega)]; exact hcode' (j * 3) (by omega)
              have q1 : wr.cell? ⟨b, o + j * 3 + 1, none⟩ = some (.int .i64 (xs (j * 3 + 1))) := by rw [hbi.cell (by simp; omega)]; exact hcode' (j * 3 + 1) (by omega)
              have hbli : b < wr.heap.size := by omega
              have hyes := fun h1 h2 => dupV_of (xs := xs) (sp := sp) (f := f) (i := j) h1 h2 k hjk
              have hst : dupV xs sp f (j + 1) = (dupV xs sp f j || ((xs (j * 3) == sp) && (xs (j * 3 + 1) == f))) := rfl
              rw [hDj.out, Bool.false_or] at hst
              have hjn : j < n := by omega
              clear hcode'
              generalize xs (j * 3) = a at *
              generalize xs (j * 3 + 1) = d at *
              replace hyes := Lib.hid hyes
              replace hst := Lib.hid hst
              by_cases e1 : a = sp
              · subst e1
                by_cases e2 : d = f
                · subst e2
                  have hr := hno.out (by rw [hokk.out, hyes.out rfl rfl]; simp)
                  subst hr
                  go_wp2
                  go_quiet (fail)
                  go_wp2
                  go_ret
                  exact ⟨rfl, below_dN hbi _⟩
                · have ne2 : (d == f) = false := by rw [beq_eq_false_iff_ne]; exact e2
                  have hn1 : Hid (dupV xs a f (j + 1) = false) := Lib.hid (by rw [hst.out, ne2]; simp)
                  go_wp2
                  go_quiet (fail)
                  go_wp2
                  go_roundw
                  case rel => exact ⟨j + 1, by omega, by go_num, hn1, hX.drewN _, below_dN hbi _⟩
                  case measure => simp [intOf]; omega
              · have ne1 : (a == sp) = false := by rw [beq_eq_false_iff_ne]; exact e1
                have hn1 : Hid (dupV xs sp f (j + 1) = false) := Lib.hid (by rw [hst.out, ne1]; rfl)
                go_wp2
                go_quiet (fail)
                go_wp2
                go_roundw
                case rel => exact ⟨j + 1, by omega, by go_num, hn1, hX.drewN _, below_dN hbi _⟩
                case measure => simp [intOf]; omega
            · obtain rfl : j = k := by omega
              have hyes : okT pb pa xs j = true := by rw [hokk.out, hDj.out]; simp [n1, n2, h3, hf, show ((-1 : Int) == -1) = true from rfl]
              replace hyes := Lib.hid hyes
              clear hokk hno
              go_wp2
              go_roundw
              case rel =>
                refine ⟨j + 1, by omega, by go_num, Lib.hid (fun i hi => ?_), hbi⟩
                by_cases e : i = j
                · subst e; exact hyes.out
                · exact hok.out i (by omega)
              case measure => simp [intOf]; omega
        · have ns1 : (sy == 1) = false := by rw [beq_eq_false_iff_ne]; exact hs1
          have ns2 : (sy == -1) = false := by rw [beq_eq_false_iff_ne]; exact hs2
          have ms1 : (sy != 1) = true := by rw [bne, ns1]; rfl
          have ms2 : (sy != -1) = true := by rw [bne, ns2]; rfl
          have hr := hno.out (by rw [hokk.out]; simp [ns1, ns2])
          subst hr
          go_wp2_with (go_at_call 57; refine (l01In_any _ _ _ _).mono ?_; rintro e w' ⟨rfl, rfl⟩)
          go_ret
          exact ⟨rfl, hbel.alloc hsz _⟩
    · obtain rfl : k = n := by omega
      have hr : v = decide (k ≤ 60) := by rw [← hv.out]; exact stB_all hok.out
      have h6' : decide (k ≤ 60) = true := by simp; omega
      rw [h6'] at hr
      subst hr
      go_wp2
      go_ret
      exact ⟨rfl, hbel⟩
end Go.Proofs.Ytcilgohjeobamaa
