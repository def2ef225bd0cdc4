/- Hearings decided: the program's and the reference's answer. -/
import Derived.Test.YtcilgohjeobamaaDem5
set_option linter.unusedSimpArgs false
set_option linter.unusedVariables false
namespace Go.Proofs.Ytcilgohjeobamaa
open Go.RowKit Go.Shelf

def codD (pb pa : Int) (n : Nat) (xs : Nat → Int) (nd : Nat) (fl : Nat → Nat) (fx : Nat → Nat → Int) (o : Nat → Int) : Int := if ptB pb pa = true then (if (stB pb pa n xs && dmsB nd fl fx o) = true then 0 else 1) else 2
theorem codD_0 {pb pa : Int} {n : Nat} {xs : Nat → Int} {nd : Nat} {fl : Nat → Nat} {fx : Nat → Nat → Int} {o : Nat → Int} (h : codD pb pa n xs nd fl fx o = 0) : stB pb pa n xs = true ∧ dmsB nd fl fx o = true := by
  unfold codD at h
  split at h
  · split at h
    · rename_i h1
      simpa using h1
    · omega
  · omega
def heV (pb pa : Int) (n : Nat) (xs : Nat → Int) (nd : Nat) (fl : Nat → Nat) (fx : Nat → Nat → Int) (o : Nat → Int) : Int × Int × Int :=
  if codD pb pa n xs nd fl fx o = 0 then ((decV (factV xs (-1) n) nd fl fx o).1, (decV (factV xs (-1) n) nd fl fx o).2, 0) else (0, 0, codD pb pa n xs nd fl fx o)
theorem dmB_f {o : Int} {n : Nat} {xs : Nat → Int} (h : dmB o n xs = true) : fokB n xs = true := by
  unfold dmB at h
  rw [Bool.and_eq_true] at h
  exact h.2
theorem SumsAt.ints {w : World} {g : Nat} {v : Nat → Int} (h : SumsAt w g v) : Ints w w.heap.size (some ⟨g, 0, none⟩) 8 v := by
  obtain ⟨cs, h1, _, h3⟩ := h
  exact Ints.of_whole h1 h1.lt h3
set_option maxHeartbeats 2000000 in
theorem hearingCodeD_any (pb pa : Int) (A AD : Option Addr) (n c nd cd B BD : Nat) (xs : Nat → Int) (fa : Nat → Option Addr) (fl fc : Nat → Nat) (fx : Nat → Nat → Int) (o : Nat → Int) (w : World) (hx : Ints w B A (n * 3) xs) (hB : B ≤ w.heap.size) (hn : n ≤ 9223372036854775807) (hnc : n ≤ c) (hd : Dems w BD AD nd fa fl fc fx o) (hBD : BD ≤ w.heap.size) (hnd : nd ≤ maxLen) (co : Int) (hco : codD pb pa n xs nd fl fx o = co) :
    Calls Try.prog 62 #[.int .i64 pb, .int .i64 pa, .slice A n c, .slice AD nd cd] w fun e w' => e = .returned (.int .i64 co) ∧ Below w.heap.size w w' := by
  subst hco
  unfold codD
  cases h1 : ptB pb pa with
  | false =>
    rw [if_neg (by simp)]
    go_enter Try.func62, Try.ntmps62
    go_wp2_with (go_at_call 66; refine (areParties_any _ _ _).mono ?_; rintro e w' ⟨rfl, rfl⟩)
    go_ret
    exact ⟨rfl, Below.refl _ _⟩
  | true =>
  rw [if_pos rfl]
  cases h2 : stB pb pa n xs with
  | false =>
    rw [if_neg (by simp)]
    clear hd
    go_enter Try.func62, Try.ntmps62
    go_wp2_with (first | (go_at_call 66; refine (areParties_any _ _ _).mono ?_; rintro e w' ⟨rfl, rfl⟩) | fail)
    refine (areStatements_any _ _ _ _ _ _ _ _ hx hB hn hnc).mono ?_
    rw [h2]
    rintro e w1 ⟨rfl, hb1⟩
    go_wp2
    go_ret
    exact ⟨rfl, hb1⟩
  | true =>
    have hcall := fun W (hW : Below w.heap.size w W) v hv => isDemands_val AD nd cd BD fa fl fc fx o W v hv (hd.below (hW.mono hBD)) (by have := hW.size; omega) hnd
    cases h3 : dmsB nd fl fx o with
    | false =>
      rw [if_neg (by simp)]
      have hcall2 := fun W hW => hcall W hW false (Lib.hid h3)
      clear hd hcall h3
      go_enter Try.func62, Try.ntmps62
      go_wp2_with (first | (go_at_call 66; refine (areParties_any _ _ _).mono ?_; rintro e w' ⟨rfl, rfl⟩) | fail)
      refine (areStatements_any _ _ _ _ _ _ _ _ hx hB hn hnc).mono ?_
      rw [h2]
      rintro e w1 ⟨rfl, hb1⟩
      have hz1 := hb1.size
      go_wp2_with fail
      refine (hcall2 _ hb1).mono ?_
      rintro e w2 ⟨rfl, hb2⟩
      go_wp2
      go_ret
      exact ⟨rfl, hb1.trans (hb2.mono hz1)⟩
    | true =>
      rw [if_pos (by simp)]
      have hcall2 := fun W hW => hcall W hW true (Lib.hid h3)
      clear hd hcall h3
      go_enter Try.func62, Try.ntmps62
      go_wp2_with (first | (go_at_call 66; refine (areParties_any _ _ _).mono ?_; rintro e w' ⟨rfl, rfl⟩) | fail)
      refine (areStatements_any _ _ _ _ _ _ _ _ hx hB hn hnc).mono ?_
      rw [h2]
      rintro e w1 ⟨rfl, hb1⟩
      have hz1 := hb1.size
      go_wp2_with fail
      refine (hcall2 _ hb1).mono ?_
      rintro e w2 ⟨rfl, hb2⟩
      go_wp2
      go_ret
      exact ⟨rfl, hb1.trans (hb2.mono hz1)⟩
set_option maxHeartbeats 2000000 in
theorem l18CodeD_any (pb pa : Int) (A AD : Option Addr) (n c nd cd B BD : Nat) (xs : Nat → Int) (fa : Nat → Option Addr) (fl fc : Nat → Nat) (fx : Nat → Nat → Int) (o : Nat → Int) (w : World) (hx : Ints w B A (n * 3) xs) (hB : B ≤ w.heap.size) (hn : n ≤ 9223372036854775807) (hd : Dems w BD AD nd fa fl fc fx o) (hBD : BD ≤ w.heap.size) (hnd : nd ≤ maxLen) (co : Int) (hco : codD pb pa n xs nd fl fx o = co) :
    Calls Try.prog 59 #[.int .i64 pb, .int .i64 pa, .slice A n c, .slice AD nd cd] w fun e w' => e = .returned (.int .i64 co) ∧ Below w.heap.size w w' := by
  subst hco
  unfold codD
  cases h1 : ptB pb pa with
  | false =>
    rw [if_neg (by simp)]
    go_enter Try.func59, Try.ntmps59
    go_wp2_with (go_at_call 77; refine (l18Parties_any _ _ _).mono ?_; rintro e w' ⟨rfl, rfl⟩)
    go_ret
    exact ⟨rfl, Below.refl _ _⟩
  | true =>
  rw [if_pos rfl]
  cases h2 : stB pb pa n xs with
  | false =>
    rw [if_neg (by simp)]
    clear hd
    go_enter Try.func59, Try.ntmps59
    go_wp2_with (first | (go_at_call 77; refine (l18Parties_any _ _ _).mono ?_; rintro e w' ⟨rfl, rfl⟩) | fail)
    refine (l18Valid_any _ _ _ _ _ _ _ _ hx hB hn).mono ?_
    rw [h2]
    rintro e w1 ⟨rfl, hb1⟩
    go_wp2
    go_ret
    exact ⟨rfl, hb1⟩
  | true =>
    have hcall := fun W (hW : Below w.heap.size w W) v hv => sIsDemands_val AD nd cd BD fa fl fc fx o W v hv (hd.below (hW.mono hBD)) (by have := hW.size; omega) hnd
    cases h3 : dmsB nd fl fx o with
    | false =>
      rw [if_neg (by simp)]
      have hcall2 := fun W hW => hcall W hW false (Lib.hid h3)
      clear hd hcall h3
      go_enter Try.func59, Try.ntmps59
      go_wp2_with (first | (go_at_call 77; refine (l18Parties_any _ _ _).mono ?_; rintro e w' ⟨rfl, rfl⟩) | fail)
      refine (l18Valid_any _ _ _ _ _ _ _ _ hx hB hn).mono ?_
      rw [h2]
      rintro e w1 ⟨rfl, hb1⟩
      have hz1 := hb1.size
      go_wp2_with fail
      refine (hcall2 _ hb1).mono ?_
      rintro e w2 ⟨rfl, hb2⟩
      go_wp2
      go_ret
      exact ⟨rfl, hb1.trans (hb2.mono hz1)⟩
    | true =>
      rw [if_pos (by simp)]
      have hcall2 := fun W hW => hcall W hW true (Lib.hid h3)
      clear hd hcall h3
      go_enter Try.func59, Try.ntmps59
      go_wp2_with (first | (go_at_call 77; refine (l18Parties_any _ _ _).mono ?_; rintro e w' ⟨rfl, rfl⟩) | fail)
      refine (l18Valid_any _ _ _ _ _ _ _ _ hx hB hn).mono ?_
      rw [h2]
      rintro e w1 ⟨rfl, hb1⟩
      have hz1 := hb1.size
      go_wp2_with fail
      refine (hcall2 _ hb1).mono ?_
      rintro e w2 ⟨rfl, hb2⟩
      go_wp2
      go_ret
      exact ⟨rfl, hb1.trans (hb2.mono hz1)⟩
set_option maxHeartbeats 2000000 in
theorem decideHearing_val (pb pa : Int) (A AD : Option Addr) (n c nd cd B BD : Nat) (xs : Nat → Int) (fa : Nat → Option Addr) (fl fc : Nat → Nat) (fx : Nat → Nat → Int) (o : Nat → Int) (w : World) (hx : Ints w B A (n * 3) xs) (hB : B ≤ w.heap.size) (hn : n ≤ 9223372036854775807) (hnc : n ≤ c) (hd : Dems w BD AD nd fa fl fc fx o) (hBD : BD ≤ w.heap.size) (hnd : nd ≤ maxLen) (vo va co : Int) (hv : Hid (heV pb pa n xs nd fl fx o = (vo, va, co))) :
    Calls Try.prog 37 #[.int .i64 pb, .int .i64 pa, .slice A n c, .slice AD nd cd] w fun e w' => e = .returned (.tuple #[.int .i64 vo, .int .i64 va, .int .i64 co]) ∧ Below w.heap.size w w' := by
  obtain ⟨k, hk⟩ : ∃ k, codD pb pa n xs nd fl fx o = k := ⟨_, rfl⟩
  have hcall := hearingCodeD_any pb pa A AD n c nd cd B BD xs fa fl fc fx o w hx hB hn hnc hd hBD hnd k hk
  have hv' := hv.out
  unfold heV at hv'
  rw [hk] at hv'
  by_cases h0 : k = 0
  · subst h0
    obtain ⟨hst, hdm⟩ := codD_0 hk
    obtain ⟨n60, hok⟩ := stB_t hst
    obtain ⟨nd12, hokd⟩ := dmsB_t hdm
    rw [if_pos rfl] at hv'
    injection hv' with hv1 hv2
    injection hv2 with hv2 hv3
    subst hv3
    have hdv : decV (factV xs (-1) n) nd fl fx o = (vo, va) := by rw [← hv1, ← hv2]
    replace hdv := Lib.hid hdv
    replace hok := Lib.hid hok
    replace hokd := Lib.hid hokd
    clear hv hv1 hv2 hk hst hdm
    go_enter Try.func37, Try.ntmps37
    go_wp2_with fail
    refine hcall.mono ?_
    rintro e w1 ⟨rfl, hb1⟩
    have hz1 := hb1.size
    clear hcall
    go_wp2_with fail
    refine (findFacts_any _ _ _ _ _ _ _ (hx.below (hb1.mono hB)) (Nat.le_trans hB hz1) n60 (fun i hi => okT_t (hok.out i hi))).mono ?_
    rintro e w2 ⟨rfl, hS, hb2⟩
    have hz2 := hb2.size
    have hF : Ints w2 w2.heap.size (some ⟨w1.heap.size, 0, none⟩) 8 (factV xs (-1) n) := hS.ints
    go_wp2_with fail
    refine (decide_any _ _ _ _ _ _ _ _ _ _ _ _ _ _ hF (Nat.le_refl _) (((hd.below (hb1.mono hBD)).below (hb2.mono (by omega)))) (by omega) (fun i hi => dmB_f (hokd.out i hi)) nd12 vo va hdv.out).mono ?_
    rintro e w3 ⟨rfl, hb3⟩
    go_wp2
    go_ret3
    exact ⟨rfl, hb1.trans ((hb2.mono hz1).trans (hb3.mono (by omega)))⟩
  · rw [if_neg h0] at hv'
    injection hv' with hv1 hv2
    injection hv2 with hv2 hv3
    subst hv1
    subst hv2
    subst hv3
    have h0' : (k == 0) = false := by rw [beq_eq_false_iff_ne]; exact h0
    have h0'' : (k != 0) = true := by rw [bne, h0']; rfl
    clear hv hk hx hd
    go_enter Try.func37, Try.ntmps37
    go_wp2_with fail
    refine hcall.mono ?_
    rintro e w1 ⟨rfl, hb1⟩
    go_wp2
    go_ret3
    exact ⟨rfl, hb1⟩
set_option maxHeartbeats 2000000 in
theorem sDecideHearing_val (pb pa : Int) (A AD : Option Addr) (n c nd cd B BD : Nat) (xs : Nat → Int) (fa : Nat → Option Addr) (fl fc : Nat → Nat) (fx : Nat → Nat → Int) (o : Nat → Int) (w : World) (hx : Ints w B A (n * 3) xs) (hB : B ≤ w.heap.size) (hn : n ≤ 9223372036854775807) (hd : Dems w BD AD nd fa fl fc fx o) (hBD : BD ≤ w.heap.size) (hnd : nd ≤ maxLen) (vo va co : Int) (hv : Hid (heV pb pa n xs nd fl fx o = (vo, va, co))) :
    Calls Try.prog 38 #[.int .i64 pb, .int .i64 pa, .slice A n c, .slice AD nd cd] w fun e w' => e = .returned (.tuple #[.int .i64 vo, .int .i64 va, .int .i64 co]) ∧ Below w.heap.size w w' := by
  obtain ⟨k, hk⟩ : ∃ k, codD pb pa n xs nd fl fx o = k := ⟨_, rfl⟩
  have hcall := l18CodeD_any pb pa A AD n c nd cd B BD xs fa fl fc fx o w hx hB hn hd hBD hnd k hk
  have hv' := hv.out
  unfold heV at hv'
  rw [hk] at hv'
  by_cases h0 : k = 0
  · subst h0
    obtain ⟨hst, hdm⟩ := codD_0 hk
    obtain ⟨n60, hok⟩ := stB_t hst
    obtain ⟨nd12, hokd⟩ := dmsB_t hdm
    rw [if_pos rfl] at hv'
    injection hv' with hv1 hv2
    injection hv2 with hv2 hv3
    subst hv3
    have hdv : decV (factV xs (-1) n) nd fl fx o = (vo, va) := by rw [← hv1, ← hv2]
    replace hdv := Lib.hid hdv
    replace hok := Lib.hid hok
    replace hokd := Lib.hid hokd
    clear hv hv1 hv2 hk hst hdm
    go_enter Try.func38, Try.ntmps38
    go_wp2_with fail
    refine hcall.mono ?_
    rintro e w1 ⟨rfl, hb1⟩
    have hz1 := hb1.size
    clear hcall
    go_wp2_with fail
    refine (l18Facts_any _ _ _ _ _ _ _ (hx.below (hb1.mono hB)) (Nat.le_trans hB hz1) n60 (fun i hi => okT_t (hok.out i hi))).mono ?_
    rintro e w2 ⟨rfl, hS, hb2⟩
    have hz2 := hb2.size
    have hF : Ints w2 w2.heap.size (some ⟨w1.heap.size, 0, none⟩) 8 (factV xs (-1) n) := hS.ints
    go_wp2_with fail
    refine (l18Decide_any _ _ _ _ _ _ _ _ _ _ _ _ _ _ hF (Nat.le_refl _) (((hd.below (hb1.mono hBD)).below (hb2.mono (by omega)))) (by omega) (fun i hi => dmB_f (hokd.out i hi)) nd12 vo va hdv.out).mono ?_
    rintro e w3 ⟨rfl, hb3⟩
    go_wp2
    go_ret3
    exact ⟨rfl, hb1.trans ((hb2.mono hz1).trans (hb3.mono (by omega)))⟩
  · rw [if_neg h0] at hv'
    injection hv' with hv1 hv2
    injection hv2 with hv2 hv3
    subst hv1
    subst hv2
    subst hv3
    have h0' : (k == 0) = false := by rw [beq_eq_false_iff_ne]; exact h0
    have h0'' : (k != 0) = true := by rw [bne, h0']; rfl
    clear hv hk hx hd
    go_enter Try.func38, Try.ntmps38
    go_wp2_with fail
    refine hcall.mono ?_
    rintro e w1 ⟨rfl, hb1⟩
    go_wp2
    go_ret3
    exact ⟨rfl, hb1⟩
end Go.Proofs.Ytcilgohjeobamaa
