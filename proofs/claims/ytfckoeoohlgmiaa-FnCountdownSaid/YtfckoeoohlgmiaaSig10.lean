/- CountdownAt: the program's and the reference's. -/
import Derived.Test.YtfckoeoohlgmiaaSig9
set_option linter.unusedSimpArgs false
set_option linter.unusedVariables false
namespace Go.Proofs.Ytfckoeoohlgmiaa
open Go.RowKit

/-- What CountdownAt gives. -/
def countV (n : Nat) (xs : Nat → Int) (t : Int) : Int × Int :=
  if forC n xs t = 0 then (if 1 ≤ (stA xs n).1 ∧ (stA xs n).1 ≤ 3 then (if (stA xs n).2 + 300000 - t < 0 then (0, 4) else ((stA xs n).2 + 300000 - t, 0)) else (0, 5)) else (0, forC n xs t)
theorem stateFor_val (A : Option Addr) (n c B : Nat) (xs : Nat → Int) (t : Int) (w : World) (co : Int) (S : Int × Int) (hc : forC n xs t = co) (hS : forS n xs t = S) (hx : Ints w B A (n * 2) xs) (hB : B ≤ w.heap.size) (hn : n ≤ 9223372036854775807) :
    Calls Try.prog 43 #[.slice A n c, .int .i64 t] w fun e w' => e = .returned (.tuple #[.agg #[.int .i64 S.1, .int .i64 S.2], .int .i64 co]) ∧ Below w.heap.size w w' := by
  subst hc; subst hS; exact stateFor_any A n c B xs t w hx hB hn
theorem forC_0 {n : Nat} {xs : Nat → Int} {t : Int} (h : forC n xs t = 0) : codeV n xs = 0 ∧ laterB n xs t = true ∧ 0 ≤ t ∧ t ≤ 1000000000 := by
  unfold forC at h
  split at h
  · split at h
    · rename_i a b
      refine ⟨a, b, ?_⟩
      unfold laterB at b
      simp only [Bool.and_eq_true] at b
      exact inB_t b.1
    · omega
  · omega

set_option maxHeartbeats 4000000 in
theorem countdownAt_any (A : Option Addr) (n c B : Nat) (xs : Nat → Int) (t : Int) (w : World) (hx : Ints w B A (n * 2) xs) (hB : B ≤ w.heap.size) (hn : n ≤ 9223372036854775807) :
    Calls Try.prog 18 #[.slice A n c, .int .i64 t] w fun e w' => e = .returned (.tuple #[.int .i64 (countV n xs t).1, .int .i64 (countV n xs t).2]) ∧ Below w.heap.size w w' := by
  replace hx := Lib.hid hx
  by_cases h0 : forC n xs t = 0
  · obtain ⟨i1, i2, i3, i4⟩ := forC_0 h0
    obtain ⟨j1, j2⟩ := codeV_0 i1
    have hin := stA_in (isS_t j1).2 n (Nat.le_refl _)
    have hL : forS n xs t = stA xs n := by unfold forS; rw [if_pos h0]
    have hcv : countV n xs t = (if 1 ≤ (stA xs n).1 ∧ (stA xs n).1 ≤ 3 then (if (stA xs n).2 + 300000 - t < 0 then (0, 4) else ((stA xs n).2 + 300000 - t, 0)) else (0, 5)) := by unfold countV; rw [if_pos h0]
    rw [hcv]
    generalize stA xs n = S at hL hin
    obtain ⟨s1, s2⟩ := S
    dsimp only at hin ⊢
    clear hcv i1 i2 j1 j2
    replace h0 := Lib.hid h0
    replace hL := Lib.hid hL
    cases h1 : inB s1 1 3 with
    | false =>
      rw [if_neg (by have := inB_f h1; omega)]
      go_enter Try.func18, Try.ntmps18
      go_wp2_with fail
      refine (stateFor_val _ _ _ _ _ _ _ 0 (s1, s2) h0.out hL.out hx.out hB hn).mono ?_
      rintro e w' ⟨rfl, hb⟩
      go_wp2_with (go_at_call 44; refine (within_any _ _ _ _).mono ?_; rintro e w' ⟨rfl, rfl⟩)
      go_ret2
      exact ⟨rfl, hb.alloc hb.size _⟩
    | true =>
      rw [if_pos (by have := inB_t h1; omega)]
      by_cases h2 : s2 + 300000 - t < 0
      · rw [if_pos h2]
        go_enter Try.func18, Try.ntmps18
        go_wp2_with fail
        refine (stateFor_val _ _ _ _ _ _ _ 0 (s1, s2) h0.out hL.out hx.out hB hn).mono ?_
        rintro e w' ⟨rfl, hb⟩
        go_wp2_with (go_at_call 44; refine (within_any _ _ _ _).mono ?_; rintro e w' ⟨rfl, rfl⟩)
        go_ret2
        exact ⟨rfl, hb.alloc hb.size _⟩
      · rw [if_neg h2]
        go_enter Try.func18, Try.ntmps18
        go_wp2_with fail
        refine (stateFor_val _ _ _ _ _ _ _ 0 (s1, s2) h0.out hL.out hx.out hB hn).mono ?_
        rintro e w' ⟨rfl, hb⟩
        go_wp2_with (go_at_call 44; refine (within_any _ _ _ _).mono ?_; rintro e w' ⟨rfl, rfl⟩)
        go_ret2
        exact ⟨rfl, hb.alloc hb.size _⟩
  · have hr : countV n xs t = (0, forC n xs t) := by unfold countV; rw [if_neg h0]
    have hL : forS n xs t = (0, 0) := by unfold forS; rw [if_neg h0]
    rw [hr]
    generalize hc : forC n xs t = co at h0
    have hne : (co != 0) = true := by simpa using h0
    replace hc := Lib.hid hc
    replace hL := Lib.hid hL
    clear hr h0
    go_enter Try.func18, Try.ntmps18
    go_wp2_with fail
    refine (stateFor_val _ _ _ _ _ _ _ co (0, 0) hc.out hL.out hx.out hB hn).mono ?_
    rintro e w' ⟨rfl, hb⟩
    go_wp2
    go_ret2
    exact ⟨rfl, hb.alloc hb.size _⟩

set_option maxHeartbeats 4000000 in
theorem sCountdownAt_any (A : Option Addr) (n c B : Nat) (xs : Nat → Int) (t : Int) (w : World) (hx : Ints w B A (n * 2) xs) (hB : B ≤ w.heap.size) (hn : n ≤ 9223372036854775807) :
    Calls Try.prog 17 #[.slice A n c, .int .i64 t] w fun e w' => e = .returned (.tuple #[.int .i64 (countV n xs t).1, .int .i64 (countV n xs t).2]) ∧ Below w.heap.size w w' := by
  replace hx := Lib.hid hx
  by_cases h0 : codeV n xs = 0
  · have hsm := same_end h0
    have hL : lawR n xs = stR xs n := by unfold lawR; rw [if_pos h0]
    obtain ⟨j1, j2⟩ := codeV_0 h0
    have hin := stA_in (isS_t j1).2 n (Nat.le_refl _)
    have hn40 := (isS_t j1).1
    cases hla : laterB n xs t with
    | false =>
      have hr : countV n xs t = (0, 2) := by
        have : forC n xs t = 2 := by unfold forC; rw [if_pos h0, hla]; simp
        unfold countV; rw [this]; simp
      rw [hr]
      generalize hS : stR xs n = S at hL hsm
      obtain ⟨s1, s2, s3⟩ := S
      replace h0 := Lib.hid h0
      replace hL := Lib.hid hL
      clear hr hin hsm hS j1 j2
      go_enter Try.func17, Try.ntmps17
      go_wp2_with fail
      refine (l13Code_val _ _ _ _ _ _ 0 (s1, s2, s3) h0.out hL.out hx.out hB hn).mono ?_
      rintro e w' ⟨rfl, hb⟩
      go_wp2_with fail
      refine (l13Later_any _ _ _ _ _ _ _ (((hx.out.more hB).below hb).below ((Below.refl _ _).alloc hb.size _)) hn40).mono ?_
      rintro e w2 ⟨rfl, rfl⟩
      rw [hla]
      go_wp2
      go_ret2
      exact ⟨rfl, hb.alloc hb.size _⟩
    | true =>
      have hf : forC n xs t = 0 := by unfold forC; rw [if_pos h0, hla]; simp
      obtain ⟨-, -, i3, i4⟩ := forC_0 hf
      have hcv : countV n xs t = (if 1 ≤ (stA xs n).1 ∧ (stA xs n).1 ≤ 3 then (if (stA xs n).2 + 300000 - t < 0 then (0, 4) else ((stA xs n).2 + 300000 - t, 0)) else (0, 5)) := by unfold countV; rw [if_pos hf]
      rw [hcv]
      obtain ⟨g0, g8, g1, g2, g3⟩ := hsm
      generalize hS : stR xs n = S at hL g1 g2 g3
      obtain ⟨s1, s2, s3⟩ := S
      generalize stA xs n = T at hin g0 g8 g1 g2 g3
      obtain ⟨t1, t2⟩ := T
      dsimp only at hin g0 g8 g1 g2 g3 ⊢
      subst g1
      replace h0 := Lib.hid h0
      replace hL := Lib.hid hL
      clear hcv g3 hS j1 j2 hf
      by_cases h1 : 1 ≤ s1 ∧ s1 ≤ 3
      · have e2 := g2 h1.1 h1.2
        subst e2
        clear g2
        rw [if_pos h1]
        obtain rfl | rfl | rfl : s1 = 1 ∨ s1 = 2 ∨ s1 = 3 := by omega
        · clear h1
          by_cases h2 : s2 + 300000 - t < 0
          · rw [if_pos h2]
            go_enter Try.func17, Try.ntmps17
            go_wp2_with fail
            refine (l13Code_val _ _ _ _ _ _ 0 (1, s2, s3) h0.out hL.out hx.out hB hn).mono ?_
            rintro e w' ⟨rfl, hb⟩
            go_wp2_with fail
            refine (l13Later_any _ _ _ _ _ _ _ (((hx.out.more hB).below hb).below ((Below.refl _ _).alloc hb.size _)) hn40).mono ?_
            rintro e w2 ⟨rfl, rfl⟩
            rw [hla]
            go_wp2
            go_ret2
            exact ⟨rfl, hb.alloc hb.size _⟩
          · rw [if_neg h2]
            go_enter Try.func17, Try.ntmps17
            go_wp2_with fail
            refine (l13Code_val _ _ _ _ _ _ 0 (1, s2, s3) h0.out hL.out hx.out hB hn).mono ?_
            rintro e w' ⟨rfl, hb⟩
            go_wp2_with fail
            refine (l13Later_any _ _ _ _ _ _ _ (((hx.out.more hB).below hb).below ((Below.refl _ _).alloc hb.size _)) hn40).mono ?_
            rintro e w2 ⟨rfl, rfl⟩
            rw [hla]
            go_wp2
            go_ret2
            exact ⟨rfl, hb.alloc hb.size _⟩
        · clear h1
          by_cases h2 : s2 + 300000 - t < 0
          · rw [if_pos h2]
            go_enter Try.func17, Try.ntmps17
            go_wp2_with fail
            refine (l13Code_val _ _ _ _ _ _ 0 (2, s2, s3) h0.out hL.out hx.out hB hn).mono ?_
            rintro e w' ⟨rfl, hb⟩
            go_wp2_with fail
            refine (l13Later_any _ _ _ _ _ _ _ (((hx.out.more hB).below hb).below ((Below.refl _ _).alloc hb.size _)) hn40).mono ?_
            rintro e w2 ⟨rfl, rfl⟩
            rw [hla]
            go_wp2
            go_ret2
            exact ⟨rfl, hb.alloc hb.size _⟩
          · rw [if_neg h2]
            go_enter Try.func17, Try.ntmps17
            go_wp2_with fail
            refine (l13Code_val _ _ _ _ _ _ 0 (2, s2, s3) h0.out hL.out hx.out hB hn).mono ?_
            rintro e w' ⟨rfl, hb⟩
            go_wp2_with fail
            refine (l13Later_any _ _ _ _ _ _ _ (((hx.out.more hB).below hb).below ((Below.refl _ _).alloc hb.size _)) hn40).mono ?_
            rintro e w2 ⟨rfl, rfl⟩
            rw [hla]
            go_wp2
            go_ret2
            exact ⟨rfl, hb.alloc hb.size _⟩
        · clear h1
          by_cases h2 : s2 + 300000 - t < 0
          · rw [if_pos h2]
            go_enter Try.func17, Try.ntmps17
            go_wp2_with fail
            refine (l13Code_val _ _ _ _ _ _ 0 (3, s2, s3) h0.out hL.out hx.out hB hn).mono ?_
            rintro e w' ⟨rfl, hb⟩
            go_wp2_with fail
            refine (l13Later_any _ _ _ _ _ _ _ (((hx.out.more hB).below hb).below ((Below.refl _ _).alloc hb.size _)) hn40).mono ?_
            rintro e w2 ⟨rfl, rfl⟩
            rw [hla]
            go_wp2
            go_ret2
            exact ⟨rfl, hb.alloc hb.size _⟩
          · rw [if_neg h2]
            go_enter Try.func17, Try.ntmps17
            go_wp2_with fail
            refine (l13Code_val _ _ _ _ _ _ 0 (3, s2, s3) h0.out hL.out hx.out hB hn).mono ?_
            rintro e w' ⟨rfl, hb⟩
            go_wp2_with fail
            refine (l13Later_any _ _ _ _ _ _ _ (((hx.out.more hB).below hb).below ((Below.refl _ _).alloc hb.size _)) hn40).mono ?_
            rintro e w2 ⟨rfl, rfl⟩
            rw [hla]
            go_wp2
            go_ret2
            exact ⟨rfl, hb.alloc hb.size _⟩
      · rw [if_neg h1]
        have n1 : (s1 != 1) = true := by simp; omega
        have n2 : (s1 != 2) = true := by simp; omega
        have n3 : (s1 != 3) = true := by simp; omega
        clear g2 h1
        go_enter Try.func17, Try.ntmps17
        go_wp2_with fail
        refine (l13Code_val _ _ _ _ _ _ 0 (s1, s2, s3) h0.out hL.out hx.out hB hn).mono ?_
        rintro e w' ⟨rfl, hb⟩
        go_wp2_with fail
        refine (l13Later_any _ _ _ _ _ _ _ (((hx.out.more hB).below hb).below ((Below.refl _ _).alloc hb.size _)) hn40).mono ?_
        rintro e w2 ⟨rfl, rfl⟩
        rw [hla]
        go_wp2
        go_ret2
        exact ⟨rfl, hb.alloc hb.size _⟩
  · have hr : countV n xs t = (0, codeV n xs) := by
      have : forC n xs t = codeV n xs := by unfold forC; rw [if_neg h0]
      unfold countV; rw [this, if_neg h0]
    have hL : lawR n xs = (0, 0, 0) := by unfold lawR; rw [if_neg h0]
    rw [hr]
    generalize hc : codeV n xs = co at h0
    have hne : (co != 0) = true := by simpa using h0
    replace h0 := Lib.hid hc
    replace hL := Lib.hid hL
    clear hr hc
    go_enter Try.func17, Try.ntmps17
    go_wp2_with fail
    refine (l13Code_val _ _ _ _ _ _ co (0, 0, 0) h0.out hL.out hx.out hB hn).mono ?_
    rintro e w' ⟨rfl, hb⟩
    go_wp2
    go_ret2
    exact ⟨rfl, hb.alloc hb.size _⟩
end Go.Proofs.Ytfckoeoohlgmiaa
