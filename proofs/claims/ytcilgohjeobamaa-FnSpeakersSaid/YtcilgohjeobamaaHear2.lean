/- Which lists of statements are valid: the program's. -/
import Derived.Test.YtcilgohjeobamaaHear
set_option linter.unusedSimpArgs false
set_option linter.unusedVariables false
namespace Go.Proofs.Ytcilgohjeobamaa
open Go.RowKit Go.Shelf

set_option maxRecDepth 100000 in
set_option maxHeartbeats 8000000 in
theorem areStatements_any (pb pa : Int) (A : Option Addr) (n c B : Nat) (xs : Nat → Int) (w : World) (hx : Ints w B A (n * 3) xs) (hB : B ≤ w.heap.size) (hn : n ≤ 9223372036854775807) (hnc : n ≤ c) :
    Calls Try.prog 67 #[.int .i64 pb, .int .i64 pa, .slice A n c] w fun e w' => e = .returned (.bool (stB pb pa n xs)) ∧ Below w.heap.size w w' := by
  generalize hv : stB pb pa n xs = v
  replace hv := Lib.hid hv
  replace hx := Lib.hid hx
  go_enter Try.func67, Try.ntmps67
  go_wp2_with fail
  go_loopw [12] (fun vi wr => ∃ k : Nat, k ≤ n ∧ vi = .int .i64 k ∧ Hid (∀ i, i < k → okT pb pa xs i = true) ∧ Below w.heap.size w wr) (fun vi _ => (n - intOf vi).toNat)
  case atStart => exact ⟨0, by omega, rfl, Lib.hid (fun i hi => by omega), Below.refl _ _⟩
  case round =>
    obtain ⟨k, hk, rfl, hok, hbel⟩ := hrel
    have hsz := hbel.size
    by_cases hlt : k < n
    · obtain ⟨b, o, rfl, hadB, hcode⟩ := hx.out (by omega)
      have g0 : wr.cell? ⟨b, o + k * 3, none⟩ = some (.int .i64 (xs (k * 3))) := by rw [hbel.cell (by simp; omega)]; exact hcode (k * 3) (by omega)
      have g1 : wr.cell? ⟨b, o + k * 3 + 1, none⟩ = some (.int .i64 (xs (k * 3 + 1))) := by rw [hbel.cell (by simp; omega)]; exact hcode (k * 3 + 1) (by omega)
      have g2 : wr.cell? ⟨b, o + k * 3 + 2, none⟩ = some (.int .i64 (xs (k * 3 + 2))) := by rw [hbel.cell (by simp; omega)]; exact hcode (k * 3 + 2) (by omega)
      have hbl : b < wr.heap.size := by omega
      have hokk : okT pb pa xs k = (((xs (k * 3) == pb) || (xs (k * 3) == pa) || inB (xs (k * 3)) 100 199) && inB (xs (k * 3 + 1)) 0 7 && ((xs (k * 3 + 2) == 1) || (xs (k * 3 + 2) == -1)) && !dupV xs (xs (k * 3)) (xs (k * 3 + 1)) k) := rfl
      have hno : okT pb pa xs k = false → v = false := fun h => by rw [← hv.out]; exact stB_no hlt h
      have hcall := fun W g (hW : Below wr.heap.size wr W) hg => containsS_any (some ⟨b, o, none⟩) k c w.heap.size xs (xs (k * 3)) (xs (k * 3 + 1)) (xs (k * 3 + 2)) g W (((hx.out.more hB).fewer (by omega)).below (hbel.trans (hW.mono hsz))) (Nat.le_trans hsz hW.size) (by omega) hg
      have hkc : k ≤ c := by omega
      have hkc' : (k : Int) ≤ (c : Int) := by omega
      have hkc2 : ¬ c < k := by omega
      clear hcode
      generalize hdv : dupV xs (xs (k * 3)) (xs (k * 3 + 1)) k = dv at hcall hokk
      generalize xs (k * 3) = sp at *
      generalize xs (k * 3 + 1) = f at *
      generalize xs (k * 3 + 2) = sy at *
      replace hcall := Lib.hid hcall
      replace hno := Lib.hid hno
      replace hokk := Lib.hid hokk

      by_cases h1 : sp = pb
      · subst h1
        cases hf : inB f 0 7 with
        | false =>
          have hr := hno.out (by rw [hokk.out]; simp [show (sp == sp) = true from beq_self_eq_true sp, hf])
          subst hr
          go_wp2_with (go_at_call 55; refine (within_any _ _ _ _).mono ?_; rintro e w' ⟨rfl, rfl⟩)
          go_ret
          exact ⟨rfl, hbel.alloc hsz _⟩
        | true =>
        by_cases hs1 : sy = 1
        · subst hs1
          cases dv with
          | true =>
            have hr := hno.out (by rw [hokk.out]; simp)
            subst hr
            go_wp2_with (first | (go_at_call 55; refine (within_any _ _ _ _).mono ?_; rintro e w' ⟨rfl, rfl⟩) | fail)
            refine (hcall.out _ wr.heap.size ((Below.refl _ _).alloc (Nat.le_refl _) _) (Whole.new _ _ _)).mono ?_
            rintro e w2 ⟨rfl, hb2⟩
            go_wp2
            go_ret
            exact ⟨rfl, (hbel.alloc hsz _).trans (hb2.mono (by simp; omega))⟩
          | false =>
            have hyes : okT sp pa xs k = true := by rw [hokk.out]; simp [show (sp == sp) = true from beq_self_eq_true sp, hf, show ((1 : Int) == 1) = true from rfl]
            replace hyes := Lib.hid hyes
            clear hokk hno
            go_wp2_with (first | (go_at_call 55; refine (within_any _ _ _ _).mono ?_; rintro e w' ⟨rfl, rfl⟩) | fail)
            refine (hcall.out _ wr.heap.size ((Below.refl _ _).alloc (Nat.le_refl _) _) (Whole.new _ _ _)).mono ?_
            rintro e w2 ⟨rfl, hb2⟩
            have hz2 := hb2.size
            simp at hz2
            go_wp2
            go_roundw
            case rel =>
              refine ⟨k + 1, by omega, by go_num, Lib.hid (fun i hi => ?_), (hbel.alloc hsz _).trans (hb2.mono (by simp; omega))⟩
              by_cases e : i = k
              · subst e; exact hyes.out
              · exact hok.out i (by omega)
            case measure => simp [intOf]; omega
        by_cases hs2 : sy = -1
        · subst hs2
          cases dv with
          | true =>
            have hr := hno.out (by rw [hokk.out]; simp)
            subst hr
            go_wp2_with (first | (go_at_call 55; refine (within_any _ _ _ _).mono ?_; rintro e w' ⟨rfl, rfl⟩) | fail)
            refine (hcall.out _ wr.heap.size ((Below.refl _ _).alloc (Nat.le_refl _) _) (Whole.new _ _ _)).mono ?_
            rintro e w2 ⟨rfl, hb2⟩
            go_wp2
            go_ret
            exact ⟨rfl, (hbel.alloc hsz _).trans (hb2.mono (by simp; omega))⟩
          | false =>
            have hyes : okT sp pa xs k = true := by rw [hokk.out]; simp [show (sp == sp) = true from beq_self_eq_true sp, hf, show ((-1 : Int) == -1) = true from rfl]
            replace hyes := Lib.hid hyes
            clear hokk hno
            go_wp2_with (first | (go_at_call 55; refine (within_any _ _ _ _).mono ?_; rintro e w' ⟨rfl, rfl⟩) | fail)
            refine (hcall.out _ wr.heap.size ((Below.refl _ _).alloc (Nat.le_refl _) _) (Whole.new _ _ _)).mono ?_
            rintro e w2 ⟨rfl, hb2⟩
            have hz2 := hb2.size
            simp at hz2
            go_wp2
            go_roundw
            case rel =>
              refine ⟨k + 1, by omega, by go_num, Lib.hid (fun i hi => ?_), (hbel.alloc hsz _).trans (hb2.mono (by simp; omega))⟩
              by_cases e : i = k
              · subst e; exact hyes.out
              · exact hok.out i (by omega)
            case measure => simp [intOf]; omega
        · have ns1 : (sy == 1) = false := by rw [beq_eq_false_iff_ne]; exact hs1
          have ns2 : (sy == -1) = false := by rw [beq_eq_false_iff_ne]; exact hs2
          have ms1 : (sy != 1) = true := by rw [bne, ns1]; rfl
          have ms2 : (sy != -1) = true := by rw [bne, ns2]; rfl
          have hr := hno.out (by rw [hokk.out]; simp [ns1, ns2])
          subst hr
          go_wp2_with (go_at_call 55; refine (within_any _ _ _ _).mono ?_; rintro e w' ⟨rfl, rfl⟩)
          go_ret
          exact ⟨rfl, hbel.alloc hsz _⟩
      have n1 : (sp == pb) = false := by rw [beq_eq_false_iff_ne]; exact h1
      by_cases h2 : sp = pa
      · subst h2
        cases hf : inB f 0 7 with
        | false =>
          have hr := hno.out (by rw [hokk.out]; simp [show (sp == sp) = true from beq_self_eq_true sp, hf])
          subst hr
          go_wp2_with (go_at_call 55; refine (within_any _ _ _ _).mono ?_; rintro e w' ⟨rfl, rfl⟩)
          go_ret
          exact ⟨rfl, hbel.alloc hsz _⟩
        | true =>
        by_cases hs1 : sy = 1
        · subst hs1
          cases dv with
          | true =>
            have hr := hno.out (by rw [hokk.out]; simp)
            subst hr
            go_wp2_with (first | (go_at_call 55; refine (within_any _ _ _ _).mono ?_; rintro e w' ⟨rfl, rfl⟩) | fail)
            refine (hcall.out _ wr.heap.size ((Below.refl _ _).alloc (Nat.le_refl _) _) (Whole.new _ _ _)).mono ?_
            rintro e w2 ⟨rfl, hb2⟩
            go_wp2
            go_ret
            exact ⟨rfl, (hbel.alloc hsz _).trans (hb2.mono (by simp; omega))⟩
          | false =>
            have hyes : okT pb sp xs k = true := by rw [hokk.out]; simp [show (sp == sp) = true from beq_self_eq_true sp, hf, show ((1 : Int) == 1) = true from rfl]
            replace hyes := Lib.hid hyes
            clear hokk hno
            go_wp2_with (first | (go_at_call 55; refine (within_any _ _ _ _).mono ?_; rintro e w' ⟨rfl, rfl⟩) | fail)
            refine (hcall.out _ wr.heap.size ((Below.refl _ _).alloc (Nat.le_refl _) _) (Whole.new _ _ _)).mono ?_
            rintro e w2 ⟨rfl, hb2⟩
            have hz2 := hb2.size
            simp at hz2
            go_wp2
            go_roundw
            case rel =>
              refine ⟨k + 1, by omega, by go_num, Lib.hid (fun i hi => ?_), (hbel.alloc hsz _).trans (hb2.mono (by simp; omega))⟩
              by_cases e : i = k
              · subst e; exact hyes.out
              · exact hok.out i (by omega)
            case measure => simp [intOf]; omega
        by_cases hs2 : sy = -1
        · subst hs2
          cases dv with
          | true =>
            have hr := hno.out (by rw [hokk.out]; simp)
            subst hr
            go_wp2_with (first | (go_at_call 55; refine (within_any _ _ _ _).mono ?_; rintro e w' ⟨rfl, rfl⟩) | fail)
            refine (hcall.out _ wr.heap.size ((Below.refl _ _).alloc (Nat.le_refl _) _) (Whole.new _ _ _)).mono ?_
            rintro e w2 ⟨rfl, hb2⟩
            go_wp2
            go_ret
            exact ⟨rfl, (hbel.alloc hsz _).trans (hb2.mono (by simp; omega))⟩
          | false =>
            have hyes : okT pb sp xs k = true := by rw [hokk.out]; simp [show (sp == sp) = true from beq_self_eq_true sp, hf, show ((-1 : Int) == -1) = true from rfl]
            replace hyes := Lib.hid hyes
            clear hokk hno
            go_wp2_with (first | (go_at_call 55; refine (within_any _ _ _ _).mono ?_; rintro e w' ⟨rfl, rfl⟩) | fail)
            refine (hcall.out _ wr.heap.size ((Below.refl _ _).alloc (Nat.le_refl _) _) (Whole.new _ _ _)).mono ?_
            rintro e w2 ⟨rfl, hb2⟩
            have hz2 := hb2.size
            simp at hz2
            go_wp2
            go_roundw
            case rel =>
              refine ⟨k + 1, by omega, by go_num, Lib.hid (fun i hi => ?_), (hbel.alloc hsz _).trans (hb2.mono (by simp; omega))⟩
              by_cases e : i = k
              · subst e; exact hyes.out
              · exact hok.out i (by omega)
            case measure => simp [intOf]; omega
        · have ns1 : (sy == 1) = false := by rw [beq_eq_false_iff_ne]; exact hs1
          have ns2 : (sy == -1) = false := by rw [beq_eq_false_iff_ne]; exact hs2
          have ms1 : (sy != 1) = true := by rw [bne, ns1]; rfl
          have ms2 : (sy != -1) = true := by rw [bne, ns2]; rfl
          have hr := hno.out (by rw [hokk.out]; simp [ns1, ns2])
          subst hr
          go_wp2_with (go_at_call 55; refine (within_any _ _ _ _).mono ?_; rintro e w' ⟨rfl, rfl⟩)
          go_ret
          exact ⟨rfl, hbel.alloc hsz _⟩
      have n2 : (sp == pa) = false := by rw [beq_eq_false_iff_ne]; exact h2
      cases h3 : inB sp 100 199 with
      | false =>
        have hr := hno.out (by rw [hokk.out]; simp [n1, n2, h3])
        subst hr
        go_wp2_with (go_at_call 55; refine (within_any _ _ _ _).mono ?_; rintro e w' ⟨rfl, rfl⟩)
        go_ret
        exact ⟨rfl, hbel.alloc hsz _⟩
      | true =>
        cases hf : inB f 0 7 with
        | false =>
          have hr := hno.out (by rw [hokk.out]; simp [n1, n2, h3, hf])
          subst hr
          go_wp2_with (go_at_call 55; refine (within_any _ _ _ _).mono ?_; rintro e w' ⟨rfl, rfl⟩)
          go_ret
          exact ⟨rfl, hbel.alloc hsz _⟩
        | true =>
        by_cases hs1 : sy = 1
        · subst hs1
          cases dv with
          | true =>
            have hr := hno.out (by rw [hokk.out]; simp)
            subst hr
            go_wp2_with (first | (go_at_call 55; refine (within_any _ _ _ _).mono ?_; rintro e w' ⟨rfl, rfl⟩) | fail)
            refine (hcall.out _ wr.heap.size ((Below.refl _ _).alloc (Nat.le_refl _) _) (Whole.new _ _ _)).mono ?_
            rintro e w2 ⟨rfl, hb2⟩
            go_wp2
            go_ret
            exact ⟨rfl, (hbel.alloc hsz _).trans (hb2.mono (by simp; omega))⟩
          | false =>
            have hyes : okT pb pa xs k = true := by rw [hokk.out]; simp [n1, n2, h3, hf, show ((1 : Int) == 1) = true from rfl]
            replace hyes := Lib.hid hyes
            clear hokk hno
            go_wp2_with (first | (go_at_call 55; refine (within_any _ _ _ _).mono ?_; rintro e w' ⟨rfl, rfl⟩) | fail)
            refine (hcall.out _ wr.heap.size ((Below.refl _ _).alloc (Nat.le_refl _) _) (Whole.new _ _ _)).mono ?_
            rintro e w2 ⟨rfl, hb2⟩
            have hz2 := hb2.size
            simp at hz2
            go_wp2
            go_roundw
            case rel =>
              refine ⟨k + 1, by omega, by go_num, Lib.hid (fun i hi => ?_), (hbel.alloc hsz _).trans (hb2.mono (by simp; omega))⟩
              by_cases e : i = k
              · subst e; exact hyes.out
              · exact hok.out i (by omega)
            case measure => simp [intOf]; omega
        by_cases hs2 : sy = -1
        · subst hs2
          cases dv with
          | true =>
            have hr := hno.out (by rw [hokk.out]; simp)
            subst hr
            go_wp2_with (first | (go_at_call 55; refine (within_any _ _ _ _).mono ?_; rintro e w' ⟨rfl, rfl⟩) | fail)
            refine (hcall.out _ wr.heap.size ((Below.refl _ _).alloc (Nat.le_refl _) _) (Whole.new _ _ _)).mono ?_
            rintro e w2 ⟨rfl, hb2⟩
            go_wp2
            go_ret
            exact ⟨rfl, (hbel.alloc hsz _).trans (hb2.mono (by simp; omega))⟩
          | false =>
            have hyes : okT pb pa xs k = true := by rw [hokk.out]; simp [n1, n2, h3, hf, show ((-1 : Int) == -1) = true from rfl]
            replace hyes := Lib.hid hyes
            clear hokk hno
            go_wp2_with (first | (go_at_call 55; refine (within_any _ _ _ _).mono ?_; rintro e w' ⟨rfl, rfl⟩) | fail)
            refine (hcall.out _ wr.heap.size ((Below.refl _ _).alloc (Nat.le_refl _) _) (Whole.new _ _ _)).mono ?_
            rintro e w2 ⟨rfl, hb2⟩
            have hz2 := hb2.size
            simp at hz2
            go_wp2
            go_roundw
            case rel =>
              refine ⟨k + 1, by omega, by go_num, Lib.hid (fun i hi => ?_), (hbel.alloc hsz _).trans (hb2.mono (by simp; omega))⟩
              by_cases e : i = k
              · subst e; exact hyes.out
              · exact hok.out i (by omega)
            case measure => simp [intOf]; omega
        · have ns1 : (sy == 1) = false := by rw [beq_eq_false_iff_ne]; exact hs1
          have ns2 : (sy == -1) = false := by rw [beq_eq_false_iff_ne]; exact hs2
          have ms1 : (sy != 1) = true := by rw [bne, ns1]; rfl
          have ms2 : (sy != -1) = true := by rw [bne, ns2]; rfl
          have hr := hno.out (by rw [hokk.out]; simp [ns1, ns2])
          subst hr
          go_wp2_with (go_at_call 55; refine (within_any _ _ _ _).mono ?_; rintro e w' ⟨rfl, rfl⟩)
          go_ret
          exact ⟨rfl, hbel.alloc hsz _⟩
    · obtain rfl : k = n := by omega
      have hr : v = decide (k ≤ 60) := by rw [← hv.out]; exact stB_all hok.out
      subst hr
      by_cases h6 : k ≤ 60
      · have h6' : decide (k ≤ 60) = true := by simpa using h6
        go_wp2
        go_ret
        exact ⟨by rw [h6']; first | rfl | (simp; omega), hbel⟩
      · have h6' : decide (k ≤ 60) = false := by simpa using h6
        go_wp2
        go_ret
        exact ⟨by rw [h6']; first | rfl | (simp; omega), hbel⟩
end Go.Proofs.Ytcilgohjeobamaa
