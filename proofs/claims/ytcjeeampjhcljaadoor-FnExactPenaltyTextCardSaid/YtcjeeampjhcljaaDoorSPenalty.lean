/- Slices of Penalty: the size, the copy and the comparison that the laws use. -/
import Derived.Test.YtcjeeampjhcljaaDoorMem
import Derived.Handy
import Derived.Deep.RegionWith
namespace Go.Proofs.YtcjeeampjhcljaaDoor
open Go.RowKit

theorem infoPenalty : (Tryd.prog.info? 25).map (fun i => (i.zero, i.size, i.bytes)) = some (some (.agg #[.int .i64 0, .int .i64 0, .int .i64 0, .int .i64 0]), 4, 32) := by kernel_rfl

theorem toPenalty_any (a b c' d : Int) (w : World) : Calls Tryd.prog 6 #[.agg #[.int .i64 a, .int .i64 b, .int .i64 c', .int .i64 d]] w fun e w' => e = .returned (.agg #[.int .i64 a, .int .i64 b, .int .i64 c', .int .i64 d]) ∧ Below w.heap.size w w' := by
  go_enter Tryd.func6, Tryd.ntmps6
  go_wp2
  refine bodyPost_ret (v := .agg #[.int .i64 a, .int .i64 b, .int .i64 c', .int .i64 d]) (by simp [results, Tryd.results6, go_sem]) rfl ⟨rfl, ?_⟩
  go_grown
end Go.Proofs.YtcjeeampjhcljaaDoor
