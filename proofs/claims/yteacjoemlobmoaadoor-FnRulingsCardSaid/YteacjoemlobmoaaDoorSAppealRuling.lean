/- Slices of AppealRuling: the size, the copy and the comparison that the laws use. -/
import Derived.Test.YteacjoemlobmoaaDoorMem
import Derived.Handy
import Derived.Deep.RegionWith
namespace Go.Proofs.YteacjoemlobmoaaDoor
open Go.RowKit

theorem infoAppealRuling : (Tryd.prog.info? 25).map (fun i => (i.zero, i.size, i.bytes)) = some (some (.agg #[.int .i64 0, .int .i64 0, .int .i64 0]), 3, 24) := by kernel_rfl

theorem toAppealRuling_any (a b c' : Int) (w : World) : Calls Tryd.prog 6 #[.agg #[.int .i64 a, .int .i64 b, .int .i64 c']] w fun e w' => e = .returned (.agg #[.int .i64 a, .int .i64 b, .int .i64 c']) ∧ Below w.heap.size w w' := by
  go_enter Tryd.func6, Tryd.ntmps6
  go_wp2
  refine bodyPost_ret (v := .agg #[.int .i64 a, .int .i64 b, .int .i64 c']) (by simp [results, Tryd.results6, go_sem]) rfl ⟨rfl, ?_⟩
  go_grown
end Go.Proofs.YteacjoemlobmoaaDoor
