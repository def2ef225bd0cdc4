/- StartTime: the program's and the reference's. -/
import Derived.Test.YtfckoeoohlgmiaaSig7
set_option linter.unusedSimpArgs false
set_option linter.unusedVariables false
namespace Go.Proofs.Ytfckoeoohlgmiaa
open Go.RowKit

/-- What StartTime gives. -/
def startV (n : Nat) (xs : Nat → Int) : Int × Int := if codeV n xs = 0 then (if (stA xs n).1 = 4 then ((stA xs n).2, 0) else (0, 4)) else (0, codeV n xs)
theorem same_end {n : Nat} {xs : Nat → Int} (h : codeV n xs = 0) : Same (stA xs n) (stR xs n) := by
  obtain ⟨h1, h2⟩ := codeV_0 h
  have hs := (isS_t h1).2
  exact same_run hs n (Nat.le_refl _) (fun j hj => lead_ok (n := n) (by omega))
theorem lawfulState_val (A : Option Addr) (n c B : Nat) (xs : Nat → Int) (w : World) (co : Int) (S : Int × Int) (hc : codeV n xs = co) (hS : lawA n xs = S) (hx : Ints w B A (n * 2) xs) (hB : B ≤ w.heap.size) (hn : n ≤ 9223372036854775807) :
    Calls Try.prog 41 #[.slice A n c] w fun e w' => e = .returned (.tuple #[.agg #[.int .i64 S.1, .int .i64 S.2], .int .i64 co]) ∧ Below w.heap.size w w' := by
  subst hc; subst hS; exact lawfulState_any A n c B xs w hx hB hn
theorem l13Code_val (A : Option Addr) (n c B : Nat) (xs : Nat → Int) (w : World) (co : Int) (S : Int × Int × Int) (hc : codeV n xs = co) (hS : lawR n xs = S) (hx : Ints w B A (n * 2) xs) (hB : B ≤ w.heap.size) (hn : n ≤ 9223372036854775807) :
    Calls Try.prog 40 #[.slice A n c] w fun e w' => e = .returned (.tuple #[.agg #[.int .i64 S.1, .int .i64 S.2.1, .int .i64 S.2.2], .int .i64 co]) ∧ Below w.heap.size w w' := by
  subst hc; subst hS; exact l13Code_any A n c B xs w hx hB hn

set_option maxHeartbeats 4000000 in
theorem sStartTime_any (A : Option Addr) (n c B : Nat) (xs : Nat → Int) (w : World) (hx : Ints w B A (n * 2) xs) (hB : B ≤ w.heap.size) (hn : n ≤ 9223372036854775807) :
    Calls Try.prog 15 #[.slice A n c] w fun e w' => e = .returned (.tuple #[.int .i64 (startV n xs).1, .int .i64 (startV n xs).2]) ∧ Below w.heap.size w w' := by
  replace hx := Lib.hid hx
  by_cases h0 : codeV n xs = 0
  · have hsm := same_end h0
    have hL : lawR n xs = stR xs n := by unfold lawR; rw [if_pos h0]
    obtain ⟨g0, g8, g1, g2, g3⟩ := hsm
    generalize hS : stR xs n = S at hL g1 g2 g3
    obtain ⟨s1, s2, s3⟩ := S
    generalize hT : stA xs n = T at g0 g8 g1 g2 g3
    obtain ⟨t1, t2⟩ := T
    dsimp only at g0 g8 g1 g2 g3
    subst g1
    cases h4 : (s1 != 4) with
    | true =>
      have hr : startV n xs = (0, 4) := by unfold startV; rw [if_pos h0, hT, if_neg (by simpa using h4)]
      rw [hr]
      replace h0 := Lib.hid h0
      replace hL := Lib.hid hL
      clear hr g2 g3 hT hS
      go_enter Try.func15, Try.ntmps15
      go_wp2_with fail
      refine (l13Code_val _ _ _ _ _ _ 0 (s1, s2, s3) h0.out hL.out hx.out hB hn).mono ?_
      rintro e w' ⟨rfl, hb⟩
      go_wp2
      go_ret2
      exact ⟨rfl, hb.alloc hb.size _⟩
    | false =>
      obtain rfl : s1 = 4 := by simpa using h4
      have g3' := g3 (by omega)
      subst g3'
      have hr : startV n xs = (s3, 0) := by unfold startV; rw [if_pos h0, hT, if_pos rfl]
      rw [hr]
      replace h0 := Lib.hid h0
      replace hL := Lib.hid hL
      clear hr g2 g3 hT hS
      go_enter Try.func15, Try.ntmps15
      go_wp2_with fail
      refine (l13Code_val _ _ _ _ _ _ 0 (4, s2, s3) h0.out hL.out hx.out hB hn).mono ?_
      rintro e w' ⟨rfl, hb⟩
      go_wp2
      go_ret2
      exact ⟨rfl, hb.alloc hb.size _⟩
  · have hr : startV n xs = (0, codeV n xs) := by unfold startV; rw [if_neg h0]
    have hL : lawR n xs = (0, 0, 0) := by unfold lawR; rw [if_neg h0]
    rw [hr]
    generalize hc : codeV n xs = co at h0
    have hne : (co != 0) = true := by simpa using h0
    replace hc := Lib.hid hc
    replace hL := Lib.hid hL
    clear hr h0
    go_enter Try.func15, Try.ntmps15
    go_wp2_with fail
    refine (l13Code_val _ _ _ _ _ _ co (0, 0, 0) hc.out hL.out hx.out hB hn).mono ?_
    rintro e w' ⟨rfl, hb⟩
    go_wp2
    go_ret2
    exact ⟨rfl, hb.alloc hb.size _⟩

/-- The start that the program's second loop keeps. -/
def stt (xs : Nat → Int) : Nat → Int
  | 0 => -1
  | i + 1 => if xs (i * 2) = 4 then xs (i * 2 + 1) else if xs (i * 2) = 7 ∨ xs (i * 2) = 8 then -1 else stt xs i
theorem stt_is {xs : Nat → Int} {n : Nat} (h : ∀ i, i < n → okS xs i = true) : ∀ i, i ≤ n → (∀ j, j < i → okA xs j = true) → (0 ≤ (stA xs i).1 ∧ (stA xs i).1 ≤ 8) ∧ stt xs i = (if (stA xs i).1 = 4 then (stA xs i).2 else -1)
  | 0, _, _ => by simp [stt, stA]
  | i + 1, hi, hj => by
    have ih := stt_is h i (by omega) (fun j hj' => hj j (by omega))
    have o := okS_t (h i (by omega))
    have ok := hj i (by omega)
    unfold okA at ok
    unfold stt
    rw [ih.2]
    show (0 ≤ (stepV (stA xs i).1 (stA xs i).2 (xs (i * 2)) (xs (i * 2 + 1))).1.1 ∧ (stepV (stA xs i).1 (stA xs i).2 (xs (i * 2)) (xs (i * 2 + 1))).1.1 ≤ 8) ∧ _ = (if (stepV (stA xs i).1 (stA xs i).2 (xs (i * 2)) (xs (i * 2 + 1))).1.1 = 4 then (stepV (stA xs i).1 (stA xs i).2 (xs (i * 2)) (xs (i * 2 + 1))).1.2 else -1)
    generalize xs (i * 2 + 1) = t
    generalize xs (i * 2) = k at o ok ⊢
    generalize stA xs i = S at ok ih ⊢
    obtain ⟨s1, s2⟩ := S
    have k0 := o.1
    have k1 := o.2.1
    obtain rfl | rfl | rfl | rfl | rfl | rfl | rfl | rfl : k = 1 ∨ k = 2 ∨ k = 3 ∨ k = 4 ∨ k = 5 ∨ k = 6 ∨ k = 7 ∨ k = 8 := by omega
    all_goals (simp [stepV] at ok ⊢)
    all_goals omega

set_option maxHeartbeats 4000000 in
theorem startTime_any (A : Option Addr) (n c B : Nat) (xs : Nat → Int) (w : World) (hx : Ints w B A (n * 2) xs) (hB : B ≤ w.heap.size) (hn : n ≤ 9223372036854775807) :
    Calls Try.prog 16 #[.slice A n c] w fun e w' => e = .returned (.tuple #[.int .i64 (startV n xs).1, .int .i64 (startV n xs).2]) ∧ Below w.heap.size w w' := by
  replace hx := Lib.hid hx
  by_cases h0 : codeV n xs = 0
  · have hL : lawA n xs = stA xs n := by unfold lawA; rw [if_pos h0]
    obtain ⟨i1, i2⟩ := codeV_0 h0
    have hs := (isS_t i1).2
    have hq := (stt_is hs n (Nat.le_refl _) (fun j hj => lead_ok (n := n) (by omega))).2
    have hin := stA_in hs n (Nat.le_refl _)
    generalize hS : stA xs n = S at hL hq hin
    obtain ⟨s1, s2⟩ := S
    have hr : startV n xs = (if s1 = 4 then (s2, 0) else (0, 4)) := by unfold startV; rw [if_pos h0, hS]
    rw [hr]
    generalize hV : (if s1 = 4 then (s2, (0 : Int)) else (0, 4)) = V
    replace hV := Lib.hid hV
    replace h0 := Lib.hid h0
    replace hL := Lib.hid hL
    replace hq := Lib.hid hq
    replace hin := Lib.hid hin
    clear hr hS hs i1 i2
    go_enter Try.func16, Try.ntmps16
    go_wp2_with fail
    refine (lawfulState_val _ _ _ _ _ _ 0 (s1, s2) h0.out hL.out hx.out hB hn).mono ?_
    rintro e w' ⟨rfl, hb⟩
    have hxw := Lib.hid ((hx.out.more hB).below hb)
    clear hx
    go_wp2
    go_loopw [6, 19] (fun s u wr => ∃ k : Nat, k ≤ n ∧ u = .int .i64 k ∧ s = .int .i64 (stt xs k) ∧ Below w'.heap.size w' wr) (fun _ u _ => (n - intOf u).toNat)
    case atStart => exact ⟨0, by omega, rfl, rfl, (Below.refl _ _).alloc (Nat.le_refl _) _⟩
    case round =>
      obtain ⟨k, hk1, rfl, rfl, hbel⟩ := hrel
      have hsz := hbel.size
      by_cases h1 : k < n
      · obtain ⟨b, o, rfl, hadB, hcode⟩ := hxw.out (by omega)
        have hbw := hb.size
        have g0 : wr.cell? ⟨b, o + k * 2, none⟩ = some (.int .i64 (xs (k * 2))) := by rw [hbel.cell (by simp; omega)]; exact hcode (k * 2) (by omega)
        have g1 : wr.cell? ⟨b, o + k * 2 + 1, none⟩ = some (.int .i64 (xs (k * 2 + 1))) := by rw [hbel.cell (by simp; omega)]; exact hcode (k * 2 + 1) (by omega)
        clear hcode
        have hst : stt xs (k + 1) = (if xs (k * 2) = 4 then xs (k * 2 + 1) else if xs (k * 2) = 7 ∨ xs (k * 2) = 8 then -1 else stt xs k) := rfl
        generalize hk : xs (k * 2) = kd at g0 hst
        generalize stt xs k = old at hst ⊢
        replace hk := Lib.hid hk
        by_cases e4 : kd = 4
        · subst e4
          rw [if_pos rfl] at hst
          replace hst := Lib.hid hst
          go_wp2
          go_roundw
          case rel => exact ⟨k + 1, by omega, by go_num, by rw [hst.out], hbel.alloc hsz _⟩
          case measure => simp [intOf]; omega
        · rw [if_neg e4] at hst
          have n4 : (kd == 4) = false := by simpa using e4
          by_cases e7 : kd = 7
          · subst e7
            rw [if_pos (by omega)] at hst
            replace hst := Lib.hid hst
            clear e4 n4
            go_wp2
            go_roundw
            case rel => exact ⟨k + 1, by omega, by go_num, by rw [hst.out], hbel.alloc hsz _⟩
            case measure => simp [intOf]; omega
          · have n7 : (kd == 7) = false := by simpa using e7
            by_cases e8 : kd = 8
            · subst e8
              rw [if_pos (by omega)] at hst
              replace hst := Lib.hid hst
              clear e4 n4 e7 n7
              go_wp2
              go_roundw
              case rel => exact ⟨k + 1, by omega, by go_num, by rw [hst.out], hbel.alloc hsz _⟩
              case measure => simp [intOf]; omega
            · have n8 : (kd == 8) = false := by simpa using e8
              rw [if_neg (by omega)] at hst
              replace hst := Lib.hid hst
              clear e4 e7 e8
              go_wp2
              go_roundw
              case rel => exact ⟨k + 1, by omega, by go_num, by rw [hst.out], hbel.alloc hsz _⟩
              case measure => simp [intOf]; omega
      · obtain rfl : k = n := by omega
        rw [hq.out]
        have hbl := hb.trans (hbel.mono hb.size)
        have hin := hin.out
        by_cases e4 : s1 = 4
        · rw [if_pos e4]
          have hV2 : V = (s2, 0) := by rw [← hV.out, if_pos e4]
          replace hV2 := Lib.hid hV2
          clear e4
          go_wp2
          go_ret2
          exact ⟨by rw [hV2.out]; rfl, hbl⟩
        · rw [if_neg e4]
          have hV2 : V = (0, 4) := by rw [← hV.out, if_neg e4]
          replace hV2 := Lib.hid hV2
          clear e4
          go_wp2
          go_ret2
          exact ⟨by rw [hV2.out]; rfl, hbl⟩
  · have hr : startV n xs = (0, codeV n xs) := by unfold startV; rw [if_neg h0]
    have hL : lawA n xs = (0, 0) := by unfold lawA; rw [if_neg h0]
    rw [hr]
    generalize hc : codeV n xs = co at h0
    have hne : (co != 0) = true := by simpa using h0
    replace hc := Lib.hid hc
    replace hL := Lib.hid hL
    clear hr h0
    go_enter Try.func16, Try.ntmps16
    go_wp2_with fail
    refine (lawfulState_val _ _ _ _ _ _ co (0, 0) hc.out hL.out hx.out hB hn).mono ?_
    rintro e w' ⟨rfl, hb⟩
    go_wp2
    go_ret2
    exact ⟨rfl, hb.alloc hb.size _⟩
end Go.Proofs.Ytfckoeoohlgmiaa
