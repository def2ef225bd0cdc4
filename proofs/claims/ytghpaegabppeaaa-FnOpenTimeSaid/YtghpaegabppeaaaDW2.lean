/- The draws of windows and times, off a code. -/
import Derived.Test.YtghpaegabppeaaaDW
set_option linter.unusedSimpArgs false
set_option linter.unusedVariables false
namespace Go.Proofs.Ytghpaegabppeaaa
open Go.RowKit

def timeV (m : Nat) (bs : Nat → Int) (st : Nat × Int) : Int × (Nat × Int) :=
  if nextV 24 m bs st = 0 then (([-1, 1000000000, 1000000001] : List Int).getD (nextV 3 m bs (nextS 24 m st)).toNat 0, nextS 3 m (nextS 24 m st))
  else (nextV 130 m bs (nextS 24 m st), nextS 130 m (nextS 24 m st))
theorem timeV_bd (m : Nat) (bs : Nat → Int) (st : Nat × Int) : -1 ≤ (timeV m bs st).1 ∧ (timeV m bs st).1 ≤ 1000000001 := by
  unfold timeV
  split
  · have := nextV_bd 3 m bs (nextS 24 m st) (by omega)
    obtain h | h | h : nextV 3 m bs (nextS 24 m st) = 0 ∨ nextV 3 m bs (nextS 24 m st) = 1 ∨ nextV 3 m bs (nextS 24 m st) = 2 := by omega
    all_goals rw [h]; simp
  · have := nextV_bd 130 m bs (nextS 24 m st) (by omega)
    simp only
    omega
set_option maxHeartbeats 2000000 in
theorem l20DrawTime_any (w : World) (B g m : Nat) (bs : Nat → Int) (st : Nat × Int) (h : Src w B g m bs st) :
    Calls Try.prog 52 #[.pointer (some ⟨g, 0, none⟩)] w fun e w' => e = .returned (.int .i64 (timeV m bs st).1) ∧ Src w' B g m bs (timeV m bs st).2 ∧ w.grownBy w' (some g) := by
  have hgl := h.lt
  obtain ⟨d, hd⟩ : ∃ r, nextV 24 m bs st = r := ⟨_, rfl⟩
  obtain ⟨s1, hs1⟩ : ∃ x, nextS 24 m st = x := ⟨_, rfl⟩
  by_cases h0 : d = 0
  · subst h0
    obtain ⟨r, hr⟩ : ∃ r, nextV 3 m bs s1 = r := ⟨_, rfl⟩
    obtain ⟨s2, hs2⟩ : ∃ x, nextS 3 m s1 = x := ⟨_, rfl⟩
    have hT : timeV m bs st = (([-1, 1000000000, 1000000001] : List Int).getD r.toNat 0, s2) := by
      unfold timeV; rw [if_pos hd, hs1, hr, hs2]
    rw [hT]
    clear hT
    have hrb := nextV_bd 3 m bs s1 (by omega)
    rw [hr] at hrb
    obtain rfl | rfl | rfl : r = 0 ∨ r = 1 ∨ r = 2 := by omega
    all_goals
      go_enter Try.func52, Try.ntmps52
      go_wp2_with fail
      refine (next_val _ _ _ _ _ _ _ _ _ h hd hs1 (by omega) (by omega)).mono ?_
      rintro e w1 ⟨rfl, q0, q1, hS1, hg1⟩
      have hz1 := hg1.size
      go_wp2_with fail
      refine (next_val _ _ _ _ _ _ _ _ _ (hS1.new _) hr hs2 (by omega) (by omega)).mono ?_
      rintro e w2 ⟨rfl, k0, k1, hS2, hg2⟩
      have hcell := ((Whole.new w1 2 #[.int .i64 (-1), .int .i64 1000000000, .int .i64 1000000001]).grown hg2 (fun e => by injection e with e; omega)).cell
      have c0 := hcell 0
      have c1 := hcell 1
      have c2 := hcell 2
      simp at c0 c1 c2
      clear hcell
      go_wp2
      go_ret
      exact ⟨rfl, hS2, only_trans (only_new hg1 _) hg2⟩
  · obtain ⟨r, hr⟩ : ∃ r, nextV 130 m bs s1 = r := ⟨_, rfl⟩
    obtain ⟨s2, hs2⟩ : ∃ x, nextS 130 m s1 = x := ⟨_, rfl⟩
    have hT : timeV m bs st = (r, s2) := by
      unfold timeV; rw [if_neg (by rw [hd]; exact h0), hs1, hr, hs2]
    rw [hT]
    clear hT
    have n0 : (d == 0) = false := by rw [beq_eq_false_iff_ne]; exact h0
    go_enter Try.func52, Try.ntmps52
    go_wp2_with fail
    refine (next_val _ _ _ _ _ _ _ _ _ h hd hs1 (by omega) (by omega)).mono ?_
    rintro e w1 ⟨rfl, q0, q1, hS1, hg1⟩
    have hz1 := hg1.size
    go_wp2_with fail
    refine (next_val _ _ _ _ _ _ _ _ _ hS1 hr hs2 (by omega) (by omega)).mono ?_
    rintro e w2 ⟨rfl, k0, k1, hS2, hg2⟩
    go_wp2
    go_ret
    exact ⟨rfl, hS2, only_trans hg1 hg2⟩
/-- Windows and two numbers, drawn. -/
def Drew3 (n : Nat) (xs : Nat → Int) (f t : Int) (w w' : World) (e : Ending) : Prop :=
  ∃ (A : Option Addr) (c : Nat), e = .returned (.tuple #[.slice A n c, .int .i64 f, .int .i64 t]) ∧ Ints w' w'.heap.size A (n * 2) xs ∧ Below w.heap.size w w'
theorem drew_ints {w1 w2 w3 : World} {g : Nat} {P : List Int × (Nat × Int)} {n c : Nat} {A : Option Addr} (hown : w2.ownsRow w1.heap.size 51 2 (.slice A n c) n (P.1.map (Value.int .i64))) (hl : P.1.length = n * 2) (hg : w2.grownBy w3 (some g)) (hgl : g < w1.heap.size) : Ints w3 w3.heap.size A (n * 2) (fun j => P.1.getD j 0) := by
  have h3 := own_only hown hg (fun k e => by injection e with e; omega)
  exact Ints.of_own h3 (Nat.le_refl _) (by simp; omega) (fun j hj => (cells_of h3).2 j (by omega))
set_option maxHeartbeats 2000000 in
theorem drawDeadlineAfter_ex (m : Nat) (bs : Nat → Int) (hm : m ≤ 100000) (hb : ∀ j, 0 ≤ bs j ∧ bs j ≤ 255) : ∃ (n : Nat) (xs : Nat → Int) (f t : Int), n ≤ 5 ∧ -1 ≤ f ∧ f ≤ 1000000001 ∧ -1 ≤ t ∧ t ≤ 40 ∧
    ∀ (A : Option Addr) (c : Nat) (w : World), Nums .u8 w w.heap.size A m bs → Calls Try.prog 29 #[.slice A m c] w fun e w' => Drew3 n xs f t w w' e := by
  obtain ⟨P, hP⟩ : ∃ P, drawL m bs (0, fromV bs (min m 64)) = P := ⟨_, rfl⟩
  obtain ⟨T, hT⟩ : ∃ T, timeV m bs P.2 = T := ⟨_, rfl⟩
  have hTb := timeV_bd m bs P.2
  rw [hT] at hTb
  obtain ⟨f, s2⟩ := T
  obtain ⟨a, ha⟩ : ∃ r, nextV 40 m bs s2 = r := ⟨_, rfl⟩
  obtain ⟨s3, hs3⟩ : ∃ x, nextS 40 m s2 = x := ⟨_, rfl⟩
  obtain ⟨b, hb'⟩ : ∃ r, nextV 24 m bs s3 = r := ⟨_, rfl⟩
  obtain ⟨s4, hs4⟩ : ∃ x, nextS 24 m s3 = x := ⟨_, rfl⟩
  have hab := nextV_bd 40 m bs s2 (by omega)
  rw [ha] at hab
  have hbb := nextV_bd 24 m bs s3 (by omega)
  rw [hb'] at hbb
  have hn5 : P.1.length / 2 ≤ 5 := by
    rw [← hP]
    exact drawL_len m bs _
  obtain ⟨n0, hn0⟩ : ∃ n0, P.1.length / 2 = n0 := ⟨_, rfl⟩
  rw [hn0] at hn5
  refine ⟨n0, fun j => P.1.getD j 0, f, a - b / 23, hn5, hTb.1, hTb.2, by omega, by omega, ?_⟩
  intro A c w hc
  have hq : b / 23 = 0 ∨ b / 23 = 1 := by omega
  have hq2 : b.tdiv 23 = b / 23 := Int.tdiv_eq_ediv_of_nonneg hbb.1
  go_enter Try.func29, Try.ntmps29
  go_wp2_with fail
  refine (from_any _ _ _ _ _ _ hc (Nat.le_refl _) hm hb).mono ?_
  rintro e w1 ⟨rfl, hS1, hb1⟩
  have hz1 := hS1.lt
  have hz1' := hb1.size
  go_wp2_with fail
  refine (l20Draw_any _ _ _ _ _ _ hS1).mono ?_
  rw [hP]
  rintro e w2 ⟨v, n, rfl, hl, hn, hown, hS2, hg2⟩
  obtain ⟨A', c', rfl, hnc, hcm⟩ := own_form hown
  have hT2 := l20DrawTime_any w2 _ _ _ _ _ hS2
  rw [hT] at hT2
  go_wp2_with fail
  refine hT2.mono ?_
  rintro e w3 ⟨rfl, hS3, hg3⟩
  clear hT2
  go_wp2_with fail
  refine (next_val _ _ _ _ _ _ _ _ _ hS3 ha hs3 (by omega) (by omega)).mono ?_
  rintro e w4 ⟨rfl, _, _, hS4, hg4⟩
  go_wp2_with fail
  refine (next_val _ _ _ _ _ _ _ _ _ hS4 hb' hs4 (by omega) (by omega)).mono ?_
  rintro e w5 ⟨rfl, _, _, hS5, hg5⟩
  have hI := drew_ints hown hl (only_trans (only_trans hg3 hg4) hg5) hz1
  have hB := hb1.trans (below_only (only_trans (only_trans (only_trans hg2 hg3) hg4) hg5) hz1' (fun k e => by injection e with e; omega))
  obtain rfl : n0 = n := by omega
  clear hown hS1 hS2 hS3 hS4 hg2 hg3 hg4 hg5
  go_wp2
  refine bodyPost_ret (v := .tuple #[.slice A' n0 c', .int .i64 f, .int .i64 (a - b / 23)]) (by simp [results, Try.results29, go_sem]) rfl ⟨_, _, rfl, hI, hB⟩
set_option maxHeartbeats 2000000 in
theorem drawOpenTime_ex (m : Nat) (bs : Nat → Int) (hm : m ≤ 100000) (hb : ∀ j, 0 ≤ bs j ∧ bs j ≤ 255) : ∃ (n : Nat) (xs : Nat → Int) (f t : Int), n ≤ 5 ∧ -1 ≤ f ∧ f ≤ 1000000001 ∧ -2 ≤ t ∧ t ≤ 1000000081 ∧
    ∀ (A : Option Addr) (c : Nat) (w : World), Nums .u8 w w.heap.size A m bs → Calls Try.prog 30 #[.slice A m c] w fun e w' => Drew3 n xs f t w w' e := by
  obtain ⟨P, hP⟩ : ∃ P, drawL m bs (0, fromV bs (min m 64)) = P := ⟨_, rfl⟩
  obtain ⟨T, hT⟩ : ∃ T, timeV m bs P.2 = T := ⟨_, rfl⟩
  have hTb := timeV_bd m bs P.2
  rw [hT] at hTb
  obtain ⟨f, s2⟩ := T
  obtain ⟨a, ha⟩ : ∃ r, nextV 80 m bs s2 = r := ⟨_, rfl⟩
  obtain ⟨s3, hs3⟩ : ∃ x, nextS 80 m s2 = x := ⟨_, rfl⟩
  obtain ⟨b, hb'⟩ : ∃ r, nextV 24 m bs s3 = r := ⟨_, rfl⟩
  obtain ⟨s4, hs4⟩ : ∃ x, nextS 24 m s3 = x := ⟨_, rfl⟩
  have hab := nextV_bd 80 m bs s2 (by omega)
  rw [ha] at hab
  have hbb := nextV_bd 24 m bs s3 (by omega)
  rw [hb'] at hbb
  have hn5 : P.1.length / 2 ≤ 5 := by
    rw [← hP]
    exact drawL_len m bs _
  obtain ⟨n0, hn0⟩ : ∃ n0, P.1.length / 2 = n0 := ⟨_, rfl⟩
  rw [hn0] at hn5
  refine ⟨n0, fun j => P.1.getD j 0, f, f + a - b / 23, hn5, hTb.1, hTb.2, by omega, by omega, ?_⟩
  intro A c w hc
  have hq : b / 23 = 0 ∨ b / 23 = 1 := by omega
  have hq2 : b.tdiv 23 = b / 23 := Int.tdiv_eq_ediv_of_nonneg hbb.1
  go_enter Try.func30, Try.ntmps30
  go_wp2_with fail
  refine (from_any _ _ _ _ _ _ hc (Nat.le_refl _) hm hb).mono ?_
  rintro e w1 ⟨rfl, hS1, hb1⟩
  have hz1 := hS1.lt
  have hz1' := hb1.size
  go_wp2_with fail
  refine (l20Draw_any _ _ _ _ _ _ hS1).mono ?_
  rw [hP]
  rintro e w2 ⟨v, n, rfl, hl, hn, hown, hS2, hg2⟩
  obtain ⟨A', c', rfl, hnc, hcm⟩ := own_form hown
  have hT2 := l20DrawTime_any w2 _ _ _ _ _ hS2
  rw [hT] at hT2
  go_wp2_with fail
  refine hT2.mono ?_
  rintro e w3 ⟨rfl, hS3, hg3⟩
  clear hT2
  go_wp2_with fail
  refine (next_val _ _ _ _ _ _ _ _ _ hS3 ha hs3 (by omega) (by omega)).mono ?_
  rintro e w4 ⟨rfl, _, _, hS4, hg4⟩
  go_wp2_with fail
  refine (next_val _ _ _ _ _ _ _ _ _ hS4 hb' hs4 (by omega) (by omega)).mono ?_
  rintro e w5 ⟨rfl, _, _, hS5, hg5⟩
  have hI := drew_ints hown hl (only_trans (only_trans hg3 hg4) hg5) hz1
  have hB := hb1.trans (below_only (only_trans (only_trans (only_trans hg2 hg3) hg4) hg5) hz1' (fun k e => by injection e with e; omega))
  obtain rfl : n0 = n := by omega
  clear hown hS1 hS2 hS3 hS4 hg2 hg3 hg4 hg5
  go_wp2
  refine bodyPost_ret (v := .tuple #[.slice A' n0 c', .int .i64 f, .int .i64 (f + a - b / 23)]) (by simp [results, Try.results30, go_sem]) rfl ⟨_, _, rfl, hI, hB⟩
end Go.Proofs.Ytghpaegabppeaaa
