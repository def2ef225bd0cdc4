/- The order turned (w6Turned), and the draw of a hearing off a code. -/
import Derived.Test.YtcilgohjeobamaaDF
import Derived.Test.YtcilgohjeobamaaHear8
import Derived.Test.YtcilgohjeobamaaHear7
import Derived.Test.YtcilgohjeobamaaDice
set_option linter.unusedSimpArgs false
set_option linter.unusedVariables false
namespace Go.Proofs.Ytcilgohjeobamaa
open Go.RowKit

theorem infoInt : (Try.prog.info? 3).map (fun i => (i.zero, i.size, i.bytes)) = some (some (.int .i64 0), 1, 8) := by kernel_rfl
def turnL (n : Nat) (b : Int) (k : Nat) : List Int := (List.range k).map fun (i : Nat) => ((i : Int) + b) % (n : Int)
theorem turnL_succ (n : Nat) (b : Int) (k : Nat) : turnL n b (k + 1) = turnL n b k ++ [((k : Int) + b) % n] := by
  unfold turnL; rw [List.range_succ, List.map_append]; rfl
set_option maxHeartbeats 2000000 in
theorem w6Turned_any (n : Nat) (b : Int) (w : World) (hn : n ≤ 1000) (b0 : 0 ≤ b) (b1 : b ≤ 1000000) :
    Calls Try.prog 35 #[.int .i64 n, .int .i64 b] w fun e w' => ∃ v, e = .returned v ∧ w'.ownsRow w.heap.size 3 1 v n ((turnL n b n).map (Value.int .i64)) ∧ Below w.heap.size w w' := by
  obtain ⟨i0, hi, hz0', hz1', hz2'⟩ := info_parts infoInt
  replace hi := Lib.hid hi
  replace hz0' := Lib.hid hz0'
  replace hz1' := Lib.hid hz1'
  replace hz2' := Lib.hid hz2'
  go_enter Try.func35, Try.ntmps35
  go_wp2_with fail
  go_loopw [5, 6] (fun v2 v3 wr => ∃ k : Nat, k ≤ n ∧ v3 = .int .i64 k ∧ wr.ownsRow w.heap.size 3 1 v2 k ((turnL n b k).map (Value.int .i64)) ∧ Below w.heap.size w wr) (fun _ vi _ => (n - intOf vi).toNat)
  case atStart => exact ⟨0, by omega, rfl, own_empty (Whole.new _ _ _) (Nat.le_refl _), (Below.refl _ _).alloc (Nat.le_refl _) _⟩
  case round =>
    obtain ⟨k, hk, rfl, hown, hbel⟩ := hrel
    have hsz := hbel.size
    by_cases hlt : k < n
    · have hr : ((k : Int) + b).tmod n = ((k : Int) + b) % n := Int.tmod_eq_emod_of_nonneg (by omega)
      have hb0 : 0 ≤ ((k : Int) + b) % n := Int.emod_nonneg _ (by omega)
      have hb1 : ((k : Int) + b) % n < n := Int.emod_lt_of_pos _ (by omega)
      have hL := turnL_succ n b k
      replace hL := Lib.hid hL
      generalize ((k : Int) + b) % n = r at hr hb0 hb1 hL
      have hnew := Whole.new wr 3 #[.int .i64 r]
      go_wp2_with (at_builtin; refine wpList_append_own_at _ rfl _ _ 56 rfl w.heap.size 3 i0 _ 1 8 Try.underlying56 hi.out hz0'.out hz1'.out hz2'.out rfl (by decide) _ _ _ rfl (hown.alloc _) ⟨wr.heap.size, 0, none⟩ 1 1 [.int .i64 r] rfl rfl ?c1 ?c2 ?c3 ?c4 ?c5 ?_)
      case c1 =>
        intro j u hu
        rw [add_zero_off, hnew.cell]
        simpa using hu
      case c2 => simp [Value.oneCell']
      case c3 => simp only [maxLen]; omega
      case c4 => omega
      case c5 => simp; omega
      intro v' w8 hown' hgrow _ hat
      have hb8 : Below w.heap.size w w8 := hbel.trans ((((Below.refl w.heap.size wr).alloc hsz (.cells #[.int .i64 r] 3))).trans (below_only hgrow (by simp; omega) (fun k hk => (hown.lt k hk).1)))
      have hown8 : w8.ownsRow w.heap.size 3 1 v' (k + 1) ((turnL n b (k + 1)).map (Value.int .i64)) := by rw [hL.out]; simpa using hown'
      clear hown' hgrow hat hown
      go_wp2
      go_roundw
      case rel => exact ⟨k + 1, by omega, by go_num, hown8, hb8⟩
      case measure => simp [intOf]; omega
    · obtain rfl : k = n := by omega
      go_wp2
      go_ret
      exact ⟨_, rfl, hown, hbel⟩
end Go.Proofs.Ytcilgohjeobamaa
