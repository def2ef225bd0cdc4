/-
  No cell of these rows narrows 'for every input' (looked for: loops, veiled, ifaces, maps, wideKeys, modest, calm, conditions, laid).
  DERIVED. THE GIVEN ROWS OF THIS SEAT. 4 by the template 'for every input the law returns true; each argument reads behind the call as it read before'; 0 by the template 'total and deterministic' (their statements: YtjbioohpkmcmmaaTotals.lean).
  GIVEN WITH THE SEED: the statements are not yours to turn. If you find one false, say at which input.
  Laid BY PROGRAM, IN A SANDBOX (cutbox-rows.mjs): the forced cells as the released guide's own fill.sh prints them over the translation cf5e2c92b432394a… (all of the seat's roots in one cut). By AI agents, Wed Nov 11 2026. No macro, syntax, notation, axiom, sorry.
-/
import Derived.Test.YtjbioohpkmcmmaaChecked
import GoSem.Claim
import GoSem.ClaimJoined
import GoSem.ClaimMapViews
import Derived.JoinedTies
import Derived.KernelRfl
namespace Go.Proofs.Ytjbioohpkmcmmaa
/- THE CELL 'sum', in the pinned program and in every row, IS THE sha256 OF THE DUMP (.gsa) THAT YtjbioohpkmcmmaaProg.lean LOADS. Nothing in Lean hashes anything: it is a label: what it is worth is what the hold of that sum in a sandbox is worth. -/
noncomputable def Try.pinned : Pinned := { name := "ytjbioohpkmcmmaa", sum := "cf5e2c92b432394a1020ff387a13f89ebb1fc1c74244d7f7f9b56370b811ef5b", checked := Try.checked }
namespace Rows
def none {H : Type} : Left H := { results := [], args := [] }

/-- 'laws.FnExactIsCurve': WHATEVER THE INPUT: true; the input reads as it did. -/
def fnExactIsCurveSpec : ChangeSpec := { name := "fnExactIsCurve", fn := fun _ => fun
  | [d] => { results := [.lit (.bool true)], args := [d] }
  | _ => none }
def fnExactIsCurveRow : OpenClaim := { program := "ytjbioohpkmcmmaa", sum := "cf5e2c92b432394a1020ff387a13f89ebb1fc1c74244d7f7f9b56370b811ef5b", func := "loop.example/g00887/laws.FnExactIsCurve", spec := "fnExactIsCurve", apart := false }
def FnExactIsCurveSaid : Prop := fnExactIsCurveRow.holds Try.pinned (OpenSpec.ofChange fnExactIsCurveSpec)

/-- ITS FALSE NEIGHBOUR: 'it returns false'. Refute it at one input. -/
def fnExactIsCurveWrong : ChangeSpec := { name := "fnExactIsCurve", fn := fun _ => fun
  | [d] => { results := [.lit (.bool false)], args := [d] }
  | _ => none }
def FnExactIsCurveWrongFalsely : Prop := fnExactIsCurveRow.holds Try.pinned (OpenSpec.ofChange fnExactIsCurveWrong)

/-- 'laws.FnExactPaceAt': WHATEVER THE INPUT: true; the input reads as it did. -/
def fnExactPaceAtSpec : ChangeSpec := { name := "fnExactPaceAt", fn := fun _ => fun
  | [d1, d2] => { results := [.lit (.bool true)], args := [d1, d2] }
  | _ => none }
def fnExactPaceAtRow : OpenClaim := { program := "ytjbioohpkmcmmaa", sum := "cf5e2c92b432394a1020ff387a13f89ebb1fc1c74244d7f7f9b56370b811ef5b", func := "loop.example/g00887/laws.FnExactPaceAt", spec := "fnExactPaceAt", apart := false }
def FnExactPaceAtSaid : Prop := fnExactPaceAtRow.holds Try.pinned (OpenSpec.ofChange fnExactPaceAtSpec)

/-- ITS FALSE NEIGHBOUR: 'it returns false'. Refute it at one input. -/
def fnExactPaceAtWrong : ChangeSpec := { name := "fnExactPaceAt", fn := fun _ => fun
  | [d1, d2] => { results := [.lit (.bool false)], args := [d1, d2] }
  | _ => none }
def FnExactPaceAtWrongFalsely : Prop := fnExactPaceAtRow.holds Try.pinned (OpenSpec.ofChange fnExactPaceAtWrong)

/-- 'laws.FnExactCurveTime': WHATEVER THE INPUT: true; the input reads as it did. -/
def fnExactCurveTimeSpec : ChangeSpec := { name := "fnExactCurveTime", fn := fun _ => fun
  | [d1, d2, d3] => { results := [.lit (.bool true)], args := [d1, d2, d3] }
  | _ => none }
def fnExactCurveTimeRow : OpenClaim := { program := "ytjbioohpkmcmmaa", sum := "cf5e2c92b432394a1020ff387a13f89ebb1fc1c74244d7f7f9b56370b811ef5b", func := "loop.example/g00887/laws.FnExactCurveTime", spec := "fnExactCurveTime", apart := false }
def FnExactCurveTimeSaid : Prop := fnExactCurveTimeRow.holds Try.pinned (OpenSpec.ofChange fnExactCurveTimeSpec)

/-- ITS FALSE NEIGHBOUR: 'it returns false'. Refute it at one input. -/
def fnExactCurveTimeWrong : ChangeSpec := { name := "fnExactCurveTime", fn := fun _ => fun
  | [d1, d2, d3] => { results := [.lit (.bool false)], args := [d1, d2, d3] }
  | _ => none }
def FnExactCurveTimeWrongFalsely : Prop := fnExactCurveTimeRow.holds Try.pinned (OpenSpec.ofChange fnExactCurveTimeWrong)

/-- 'laws.FnCurves': WHATEVER THE INPUT: true; the input reads as it did. -/
def fnCurvesSpec : ChangeSpec := { name := "fnCurves", fn := fun _ => fun
  | [d] => { results := [.lit (.bool true)], args := [d] }
  | _ => none }
def fnCurvesRow : OpenClaim := { program := "ytjbioohpkmcmmaa", sum := "cf5e2c92b432394a1020ff387a13f89ebb1fc1c74244d7f7f9b56370b811ef5b", func := "loop.example/g00887/laws.FnCurves", spec := "fnCurves", apart := false }
def FnCurvesSaid : Prop := fnCurvesRow.holds Try.pinned (OpenSpec.ofChange fnCurvesSpec)

/-- ITS FALSE NEIGHBOUR: 'it returns false'. Refute it at one input. -/
def fnCurvesWrong : ChangeSpec := { name := "fnCurves", fn := fun _ => fun
  | [d] => { results := [.lit (.bool false)], args := [d] }
  | _ => none }
def FnCurvesWrongFalsely : Prop := fnCurvesRow.holds Try.pinned (OpenSpec.ofChange fnCurvesWrong)

/- THE SECOND FORM. 'bulk': how many values and letters a reading holds, each counted each time it is reached (what is shared counts as often as it is met; a slice's spare places count too). A statement '..UptoSaid' is the law's where the arguments, and the package variables that the reading takes, are together of bulk at most 1048576: NARROWER than '..Said'. Prove '..Said' where nothing that the law and all that it calls make is longer than what came in: it says more and counts as full. Else prove '..UptoSaid'. A law counts once. -/
mutual
def uptoBulk {H : Type} : DataW H → Nat
  | .lit (.string bytes) => bytes.length + 1
  | .lit _ => 1
  | .nil => 1
  | .ptr d => uptoBulk d + 1
  | .slice elems spare => uptoBulkAll elems + uptoBulkAll spare + 1
  | .agg parts => uptoBulkAll parts + 1
  | .iface _ d => uptoBulk d + 1
  | .map entries => uptoBulkEntries entries + 1
  | .held _ => 1
def uptoBulkAll {H : Type} : List (DataW H) → Nat
  | [] => 0
  | d :: r => uptoBulk d + uptoBulkAll r
def uptoBulkEntries {H : Type} : List (Lit × DataW H) → Nat
  | [] => 0
  | x :: r => uptoBulkEntry x + uptoBulkEntries r
def uptoBulkEntry {H : Type} : Lit × DataW H → Nat
  | (.string bytes, d) => bytes.length + uptoBulk d + 1
  | (_, d) => uptoBulk d + 1
 end
def uptoSmall : (H : Type) → List (DataW H) → Bool := fun _ ds => decide (uptoBulkAll ds ≤ 1048576)
def OpenSpec.upto (s : _root_.Go.ChangeSpec) : _root_.Go.OpenSpec := { _root_.Go.OpenSpec.ofChange s with cond := some uptoSmall }

/-- 'laws.FnExactIsCurve', WHERE WHAT IT READS IS OF BULK AT MOST 1048576: true; the input reads as it did. -/
def fnExactIsCurveUptoRow : OpenClaim := { program := "ytjbioohpkmcmmaa", sum := "cf5e2c92b432394a1020ff387a13f89ebb1fc1c74244d7f7f9b56370b811ef5b", func := "loop.example/g00887/laws.FnExactIsCurve", spec := "fnExactIsCurve", apart := false, narrowed := true }
def FnExactIsCurveUptoSaid : Prop := fnExactIsCurveUptoRow.holds Try.pinned (OpenSpec.upto fnExactIsCurveSpec)

/-- 'laws.FnExactPaceAt', WHERE WHAT IT READS IS OF BULK AT MOST 1048576: true; the input reads as it did. -/
def fnExactPaceAtUptoRow : OpenClaim := { program := "ytjbioohpkmcmmaa", sum := "cf5e2c92b432394a1020ff387a13f89ebb1fc1c74244d7f7f9b56370b811ef5b", func := "loop.example/g00887/laws.FnExactPaceAt", spec := "fnExactPaceAt", apart := false, narrowed := true }
def FnExactPaceAtUptoSaid : Prop := fnExactPaceAtUptoRow.holds Try.pinned (OpenSpec.upto fnExactPaceAtSpec)

/-- 'laws.FnExactCurveTime', WHERE WHAT IT READS IS OF BULK AT MOST 1048576: true; the input reads as it did. -/
def fnExactCurveTimeUptoRow : OpenClaim := { program := "ytjbioohpkmcmmaa", sum := "cf5e2c92b432394a1020ff387a13f89ebb1fc1c74244d7f7f9b56370b811ef5b", func := "loop.example/g00887/laws.FnExactCurveTime", spec := "fnExactCurveTime", apart := false, narrowed := true }
def FnExactCurveTimeUptoSaid : Prop := fnExactCurveTimeUptoRow.holds Try.pinned (OpenSpec.upto fnExactCurveTimeSpec)

/-- 'laws.FnCurves', WHERE WHAT IT READS IS OF BULK AT MOST 1048576: true; the input reads as it did. -/
def fnCurvesUptoRow : OpenClaim := { program := "ytjbioohpkmcmmaa", sum := "cf5e2c92b432394a1020ff387a13f89ebb1fc1c74244d7f7f9b56370b811ef5b", func := "loop.example/g00887/laws.FnCurves", spec := "fnCurves", apart := false, narrowed := true }
def FnCurvesUptoSaid : Prop := fnCurvesUptoRow.holds Try.pinned (OpenSpec.upto fnCurvesSpec)

end Rows
end Go.Proofs.Ytjbioohpkmcmmaa
