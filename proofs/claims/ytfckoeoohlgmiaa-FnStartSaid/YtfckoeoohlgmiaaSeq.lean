/- Sequences of starts: SequenceFor, FleetSequences, and the start of a sequence. -/
import Derived.Test.YtfckoeoohlgmiaaSig15
import Derived.Test.YtfckoeoohlgmiaaSig8
import Derived.Test.YtfckoeoohlgmiaaDice
import Derived.Maps.AppendAt
set_option linter.unusedSimpArgs false
set_option linter.unusedVariables false
namespace Go.Proofs.Ytfckoeoohlgmiaa
open Go.RowKit

def seqV (t : Int) : List Int := [1, t, 2, t + 60000, 3, t + 240000, 4, t + 300000]
def seqX (t : Int) (j : Nat) : Int := (seqV t).getD j 0
theorem seq_start (t : Int) (t0 : 0 ≤ t) (t1 : t ≤ 900000000) : startV 4 (seqX t) = (t + 300000, 0) := by
  have x0 : seqX t 0 = 1 := rfl
  have x1 : seqX t 1 = t := rfl
  have x2 : seqX t 2 = 2 := rfl
  have x3 : seqX t 3 = t + 60000 := rfl
  have x4 : seqX t 4 = 3 := rfl
  have x5 : seqX t 5 = t + 240000 := rfl
  have x6 : seqX t 6 = 4 := rfl
  have x7 : seqX t 7 = t + 300000 := rfl
  generalize seqX t = xs at *
  have hs : isS 4 xs = true := by
    rw [isS_all]
    · rfl
    · intro i hi
      obtain rfl | rfl | rfl | rfl : i = 0 ∨ i = 1 ∨ i = 2 ∨ i = 3 := by omega
      all_goals simp [okS, inB, x0, x1, x2, x3, x4, x5, x6, x7]
      all_goals omega
  have a0 : stA xs 0 = (0, 0) := rfl
  have a1 : stA xs 1 = (1, t) := by simp [stA, stepV, x0, x1]
  have a2 : stA xs 2 = (2, t) := by rw [stA, a1]; simp [stepV, x2, x3]
  have a3 : stA xs 3 = (3, t) := by rw [stA, a2]; simp [stepV, x4, x5]
  have a4 : stA xs 4 = (4, t + 300000) := by rw [stA, a3]; simp [stepV, x6, x7]
  have hl : lead (okA xs) 4 = 4 := by
    refine lead_all (fun i hi => ?_)
    obtain rfl | rfl | rfl | rfl : i = 0 ∨ i = 1 ∨ i = 2 ∨ i = 3 := by omega
    · simp [okA, a0, stepV, x0, x1]
    · simp [okA, a1, stepV, x2, x3]; omega
    · simp [okA, a2, stepV, x4, x5]; omega
    · simp [okA, a3, stepV, x6, x7]; omega
  have hc : codeV 4 xs = 0 := by unfold codeV; rw [if_pos hs, hl, if_neg (by omega)]
  unfold startV
  rw [if_pos hc, a4]
  simp
/-- A lawful log with a start ends in it. -/
theorem start_law {n : Nat} {xs : Nat → Int} {x : Int} (h : startV n xs = (x, 0)) : 0 < n ∧ n ≤ 40 ∧ xs ((n - 1) * 2) = 4 ∧ xs ((n - 1) * 2 + 1) = x := by
  unfold startV at h
  by_cases hc : codeV n xs = 0
  · rw [if_pos hc] at h
    by_cases h4 : (stA xs n).1 = 4
    · rw [if_pos h4] at h
      obtain ⟨hs, hl⟩ := codeV_0 hc
      cases n with
      | zero => simp [stA] at h4
      | succ n =>
        have hk := okS_t ((isS_t hs).2 n (by omega))
        have hn := (isS_t hs).1
        simp only [stA] at h h4
        simp only [Nat.add_sub_cancel]
        refine ⟨by omega, hn, ?_⟩
        obtain ⟨k0, k1, _⟩ := hk
        generalize hk : xs (n * 2) = k at *
        obtain rfl | rfl | rfl | rfl | rfl | rfl | rfl | rfl : k = 1 ∨ k = 2 ∨ k = 3 ∨ k = 4 ∨ k = 5 ∨ k = 6 ∨ k = 7 ∨ k = 8 := by omega
        all_goals simp [stepV] at h h4
        exact ⟨rfl, h⟩
    · rw [if_neg h4] at h
      simp at h
  · rw [if_neg hc] at h
    simp at h
    exact absurd h.2 hc
theorem startV_code {n : Nat} {xs : Nat → Int} : (startV n xs).2 = 0 ∨ ((startV n xs).2 ≠ 0 ∧ (startV n xs).1 = 0) := by
  unfold startV
  split
  · split
    · exact .inl rfl
    · exact .inr ⟨by simp, rfl⟩
  · rename_i h; exact .inr ⟨h, rfl⟩
theorem within_seq (t : Int) (w : World) : Calls Try.prog 44 #[.int .i64 t, .int .i64 0, .int .i64 999700000] w fun e w' => e = .returned (.bool (inB t 0 999700000)) ∧ w = w' := within_any _ _ _ _
set_option maxHeartbeats 4000000 in
theorem sequenceFor_any (t : Int) (w : World) (t0 : 0 ≤ t) (t1 : t ≤ 900000000) :
    Calls Try.prog 33 #[.int .i64 t] w fun e w' => e = .returned (.tuple #[.slice (some ⟨w.heap.size, 0, none⟩) 4 4, .int .i64 0]) ∧ Whole w' w.heap.size 43 ((seqV t).map (Value.int .i64)).toArray ∧ Below w.heap.size w w' := by
  have hin : inB t 0 999700000 = true := by simp [inB]; omega
  go_enter Try.func33, Try.ntmps33
  go_wp2_with (go_at_call 44; refine (within_seq _ _).mono ?_; rintro e w' ⟨rfl, rfl⟩)
  go_ret2
  exact ⟨rfl, Whole.new _ _ _, (Below.refl _ _).alloc (Nat.le_refl _) _⟩

theorem infoRow : (Try.prog.info? 26).map (fun i => (i.zero, i.size, i.bytes)) = some (some (.slice none 0 0), 1, 24) := by kernel_rfl
/-- What is known of memory behind k rounds. -/
def FleetR (w wr : World) (t : Int) (k : Nat) (v : Value) : Prop :=
  ∃ L : List Value, wr.ownsRow w.heap.size 26 1 v k L ∧ Below w.heap.size w wr ∧ (k = 2 → ∃ s0 g1, L = [s0, .slice (some ⟨g1, 0, none⟩) 4 4] ∧ Whole wr g1 43 ((seqV (t + 300000)).map (Value.int .i64)).toArray)
theorem within_2 (w : World) : Calls Try.prog 44 #[.int .i64 2, .int .i64 1, .int .i64 8] w fun e w' => e = .returned (.bool true) ∧ w = w' := within_any _ _ _ _
set_option maxRecDepth 100000 in
set_option maxHeartbeats 8000000 in
theorem fleet_any (t : Int) (w : World) (t0 : 0 ≤ t) (t1 : t ≤ 1000) :
    Calls Try.prog 34 #[.int .i64 2, .int .i64 t] w fun e w' => ∃ v, e = .returned (.tuple #[v, .int .i64 0]) ∧ FleetR w w' t 2 v := by
  obtain ⟨i0, hi, hz0', hz1', hz2'⟩ := info_parts infoRow
  replace hi := Lib.hid hi
  replace hz0' := Lib.hid hz0'
  replace hz1' := Lib.hid hz1'
  replace hz2' := Lib.hid hz2'
  go_enter Try.func34, Try.ntmps34
  go_wp2_with (first | (go_at_call 44; refine (within_2 _).mono ?_; rintro e w' ⟨rfl, rfl⟩) | fail)
  have hown0 : (w.alloc (.cells #[] 26)).ownsRow w.heap.size 26 1 (.slice (some ⟨w.heap.size, 0, none⟩) 0 0) 0 [] := own_empty (Whole.new w 26 #[]) (Nat.le_refl _)
  go_loopw [1, 6, 14] (fun v1 v6 v14 wr => ∃ k : Nat, k ≤ 2 ∧ v1 = .int .i64 (t + 300000 * k) ∧ v14 = .int .i64 k ∧ FleetR w wr t k v6) (fun v1 v6 v14 _ => 2 - (intOf v14).toNat)
  case atStart => exact ⟨0, by omega, by simp, rfl, [], hown0, (Below.refl _ _).alloc (Nat.le_refl _) _, fun h => by omega⟩
  case round =>
    obtain ⟨k, hk, rfl, rfl, L, hown, hbel, h2⟩ := hrel
    clear hown0
    have hsz := hbel.size
    obtain ⟨A, c, rfl, hnc, hcm⟩ := own_form hown
    by_cases hlt : k < 2
    · have hcall := fun W => sequenceFor_any (t + 300000 * k) W (by omega) (by omega)
      obtain ⟨s, hs⟩ : ∃ s, t + 300000 * (k : Int) = s := ⟨_, rfl⟩
      rw [hs] at hcall
      simp only [hs]
      go_wp2_with fail
      refine (hcall _).mono ?_
      rintro e w2 ⟨rfl, hWh, hb2⟩
      have hz2 := hb2.size
      have hgl := hWh.lt
      have hown2 := own_below hown hb2
      have hbel2 : Below w.heap.size w w2 := hbel.trans (hb2.mono hsz)
      have hlt' := hown.lt
      clear hown hb2 hcall hbel
      have hnew := Whole.new w2 26 #[.slice (some ⟨wr.heap.size, 0, none⟩) 4 4]
      go_wp2_with (at_builtin; refine wpList_append_own_at _ rfl _ _ 52 rfl w.heap.size 26 i0 _ 1 24 Try.underlying52 hi.out hz0'.out hz1'.out hz2'.out rfl (by decide) _ _ _ rfl (hown2.alloc _) ⟨w2.heap.size, 0, none⟩ 1 1 [.slice (some ⟨wr.heap.size, 0, none⟩) 4 4] rfl rfl ?c1 ?c2 ?c3 ?c4 ?c5 ?_)
      case c1 =>
        intro j u hu
        rw [add_zero_off, hnew.cell]
        simpa using hu
      case c2 => simp [Value.oneCell']
      case c3 => simp only [maxLen]; omega
      case c4 => omega
      case c5 => simp; omega
      intro v' w3 hown' hgrow _ hat
      have hb3 : Below w.heap.size w w3 := (hbel2.alloc (by omega) _).trans (below_only hgrow (by simp; omega) (fun j hj => (hown2.lt j hj).1))
      have hWh3 : Whole w3 wr.heap.size 43 ((seqV s).map (Value.int .i64)).toArray := (hWh.alloc _).grown hgrow (fun e => by have := (hlt' _ e).2; omega)
      have hll := hown'.1
      have hz3 := hgrow.size
      simp at hz3
      have hfin : FleetR w w3 t (k + 1) v' := by
        refine ⟨_, hown', hb3, fun e => ?_⟩
        obtain rfl : k = 1 := by omega
        have hl1 := hown2.1
        match L, hl1 with
        | [s0], _ => exact ⟨s0, wr.heap.size, rfl, by rw [show t + 300000 = s by omega]; exact hWh3⟩
      replace hfin := Lib.hid hfin
      clear hown' hgrow hat hown2 hWh hWh3 h2
      go_wp2
      go_roundw
      case rel => exact ⟨k + 1, by omega, by rw [← hs]; simp; omega, by go_num, hfin.out⟩
      case measure => simp [intOf]; omega
    · obtain rfl : k = 2 := by omega
      go_wp2
      go_ret2
      exact ⟨_, rfl, L, hown, hbel, fun _ => h2 trivial⟩
end Go.Proofs.Ytfckoeoohlgmiaa
