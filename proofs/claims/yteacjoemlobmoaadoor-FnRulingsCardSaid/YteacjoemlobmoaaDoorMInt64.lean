/- Slices of Int64: what the laws write into them and look for. -/
import Derived.Test.YteacjoemlobmoaaDoorRow
import Derived.Handy
import Derived.Deep.RegionWith
import Derived.RegionTactic
import Derived.BigRegion
namespace Go.Proofs.YteacjoemlobmoaaDoor
open Go.RowKit
set_option linter.unusedSimpArgs false
set_option linter.unusedVariables false




theorem infoInt64 : (Tryd.prog.info? 2).map (fun i => (i.zero, i.size, i.bytes)) = some (some (.int .i64 0), 1, 8) := by kernel_rfl


end Go.Proofs.YteacjoemlobmoaaDoor
