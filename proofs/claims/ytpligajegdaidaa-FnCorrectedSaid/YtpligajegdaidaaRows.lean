/-
  No cell of these rows narrows 'for every input' (looked for: loops, veiled, ifaces, maps, wideKeys, modest, calm, conditions, laid).
  DERIVED. THE GIVEN ROWS OF THIS SEAT. 14 by the template 'for every input the law returns true; each argument reads behind the call as it read before'; 0 by the template 'total and deterministic' (their statements: YtpligajegdaidaaTotals.lean).
  GIVEN WITH THE SEED: the statements are not yours to turn. If you find one false, say at which input.
  Laid BY PROGRAM, IN A SANDBOX (cutbox-rows.mjs): the forced cells as the released guide's own fill.sh prints them over the translation c910a727b38a668f… (all of the seat's roots in one cut). By AI agents, Wed Nov 11 2026. No macro, syntax, notation, axiom, sorry.
-/
import Derived.Test.YtpligajegdaidaaChecked
import GoSem.Claim
import GoSem.ClaimJoined
import GoSem.ClaimMapViews
import Derived.JoinedTies
import Derived.KernelRfl
namespace Go.Proofs.Ytpligajegdaidaa
/- THE CELL 'sum', in the pinned program and in every row, IS THE sha256 OF THE DUMP (.gsa) THAT YtpligajegdaidaaProg.lean LOADS. Nothing in Lean hashes anything: it is a label: what it is worth is what the hold of that sum in a sandbox is worth. -/
noncomputable def Try.pinned : Pinned := { name := "ytpligajegdaidaa", sum := "c910a727b38a668fa97541ad66ef7c68e5186b63d8126a08caa9d8d6d4bf9d53", checked := Try.checked }
namespace Rows
def none {H : Type} : Left H := { results := [], args := [] }

/-- 'laws.FnExactPercentPoints': WHATEVER THE INPUT: true; the input reads as it did. -/
def fnExactPercentPointsSpec : ChangeSpec := { name := "fnExactPercentPoints", fn := fun _ => fun
  | [d1, d2] => { results := [.lit (.bool true)], args := [d1, d2] }
  | _ => none }
def fnExactPercentPointsRow : OpenClaim := { program := "ytpligajegdaidaa", sum := "c910a727b38a668fa97541ad66ef7c68e5186b63d8126a08caa9d8d6d4bf9d53", func := "loop.example/g00887/laws.FnExactPercentPoints", spec := "fnExactPercentPoints", apart := false }
def FnExactPercentPointsSaid : Prop := fnExactPercentPointsRow.holds Try.pinned (OpenSpec.ofChange fnExactPercentPointsSpec)

/-- ITS FALSE NEIGHBOUR: 'it returns false'. Refute it at one input. -/
def fnExactPercentPointsWrong : ChangeSpec := { name := "fnExactPercentPoints", fn := fun _ => fun
  | [d1, d2] => { results := [.lit (.bool false)], args := [d1, d2] }
  | _ => none }
def FnExactPercentPointsWrongFalsely : Prop := fnExactPercentPointsRow.holds Try.pinned (OpenSpec.ofChange fnExactPercentPointsWrong)

/-- 'laws.FnExactAllowedTime': WHATEVER THE INPUT: true; the input reads as it did. -/
def fnExactAllowedTimeSpec : ChangeSpec := { name := "fnExactAllowedTime", fn := fun _ => fun
  | [d1, d2] => { results := [.lit (.bool true)], args := [d1, d2] }
  | _ => none }
def fnExactAllowedTimeRow : OpenClaim := { program := "ytpligajegdaidaa", sum := "c910a727b38a668fa97541ad66ef7c68e5186b63d8126a08caa9d8d6d4bf9d53", func := "loop.example/g00887/laws.FnExactAllowedTime", spec := "fnExactAllowedTime", apart := false }
def FnExactAllowedTimeSaid : Prop := fnExactAllowedTimeRow.holds Try.pinned (OpenSpec.ofChange fnExactAllowedTimeSpec)

/-- ITS FALSE NEIGHBOUR: 'it returns false'. Refute it at one input. -/
def fnExactAllowedTimeWrong : ChangeSpec := { name := "fnExactAllowedTime", fn := fun _ => fun
  | [d1, d2] => { results := [.lit (.bool false)], args := [d1, d2] }
  | _ => none }
def FnExactAllowedTimeWrongFalsely : Prop := fnExactAllowedTimeRow.holds Try.pinned (OpenSpec.ofChange fnExactAllowedTimeWrong)

/-- 'laws.FnExactCorrectedTime': WHATEVER THE INPUT: true; the input reads as it did. -/
def fnExactCorrectedTimeSpec : ChangeSpec := { name := "fnExactCorrectedTime", fn := fun _ => fun
  | [d1, d2] => { results := [.lit (.bool true)], args := [d1, d2] }
  | _ => none }
def fnExactCorrectedTimeRow : OpenClaim := { program := "ytpligajegdaidaa", sum := "c910a727b38a668fa97541ad66ef7c68e5186b63d8126a08caa9d8d6d4bf9d53", func := "loop.example/g00887/laws.FnExactCorrectedTime", spec := "fnExactCorrectedTime", apart := false }
def FnExactCorrectedTimeSaid : Prop := fnExactCorrectedTimeRow.holds Try.pinned (OpenSpec.ofChange fnExactCorrectedTimeSpec)

/-- ITS FALSE NEIGHBOUR: 'it returns false'. Refute it at one input. -/
def fnExactCorrectedTimeWrong : ChangeSpec := { name := "fnExactCorrectedTime", fn := fun _ => fun
  | [d1, d2] => { results := [.lit (.bool false)], args := [d1, d2] }
  | _ => none }
def FnExactCorrectedTimeWrongFalsely : Prop := fnExactCorrectedTimeRow.holds Try.pinned (OpenSpec.ofChange fnExactCorrectedTimeWrong)

/-- 'laws.FnExactTimeGiven': WHATEVER THE INPUT: true; the input reads as it did. -/
def fnExactTimeGivenSpec : ChangeSpec := { name := "fnExactTimeGiven", fn := fun _ => fun
  | [d1, d2, d3] => { results := [.lit (.bool true)], args := [d1, d2, d3] }
  | _ => none }
def fnExactTimeGivenRow : OpenClaim := { program := "ytpligajegdaidaa", sum := "c910a727b38a668fa97541ad66ef7c68e5186b63d8126a08caa9d8d6d4bf9d53", func := "loop.example/g00887/laws.FnExactTimeGiven", spec := "fnExactTimeGiven", apart := false }
def FnExactTimeGivenSaid : Prop := fnExactTimeGivenRow.holds Try.pinned (OpenSpec.ofChange fnExactTimeGivenSpec)

/-- ITS FALSE NEIGHBOUR: 'it returns false'. Refute it at one input. -/
def fnExactTimeGivenWrong : ChangeSpec := { name := "fnExactTimeGiven", fn := fun _ => fun
  | [d1, d2, d3] => { results := [.lit (.bool false)], args := [d1, d2, d3] }
  | _ => none }
def FnExactTimeGivenWrongFalsely : Prop := fnExactTimeGivenRow.holds Try.pinned (OpenSpec.ofChange fnExactTimeGivenWrong)

/-- 'laws.FnExactTimeToBeat': WHATEVER THE INPUT: true; the input reads as it did. -/
def fnExactTimeToBeatSpec : ChangeSpec := { name := "fnExactTimeToBeat", fn := fun _ => fun
  | [d1, d2, d3] => { results := [.lit (.bool true)], args := [d1, d2, d3] }
  | _ => none }
def fnExactTimeToBeatRow : OpenClaim := { program := "ytpligajegdaidaa", sum := "c910a727b38a668fa97541ad66ef7c68e5186b63d8126a08caa9d8d6d4bf9d53", func := "loop.example/g00887/laws.FnExactTimeToBeat", spec := "fnExactTimeToBeat", apart := false }
def FnExactTimeToBeatSaid : Prop := fnExactTimeToBeatRow.holds Try.pinned (OpenSpec.ofChange fnExactTimeToBeatSpec)

/-- ITS FALSE NEIGHBOUR: 'it returns false'. Refute it at one input. -/
def fnExactTimeToBeatWrong : ChangeSpec := { name := "fnExactTimeToBeat", fn := fun _ => fun
  | [d1, d2, d3] => { results := [.lit (.bool false)], args := [d1, d2, d3] }
  | _ => none }
def FnExactTimeToBeatWrongFalsely : Prop := fnExactTimeToBeatRow.holds Try.pinned (OpenSpec.ofChange fnExactTimeToBeatWrong)

/-- 'laws.FnExactCompareCorrected': WHATEVER THE INPUT: true; the input reads as it did. -/
def fnExactCompareCorrectedSpec : ChangeSpec := { name := "fnExactCompareCorrected", fn := fun _ => fun
  | [d1, d2, d3, d4] => { results := [.lit (.bool true)], args := [d1, d2, d3, d4] }
  | _ => none }
def fnExactCompareCorrectedRow : OpenClaim := { program := "ytpligajegdaidaa", sum := "c910a727b38a668fa97541ad66ef7c68e5186b63d8126a08caa9d8d6d4bf9d53", func := "loop.example/g00887/laws.FnExactCompareCorrected", spec := "fnExactCompareCorrected", apart := false }
def FnExactCompareCorrectedSaid : Prop := fnExactCompareCorrectedRow.holds Try.pinned (OpenSpec.ofChange fnExactCompareCorrectedSpec)

/-- ITS FALSE NEIGHBOUR: 'it returns false'. Refute it at one input. -/
def fnExactCompareCorrectedWrong : ChangeSpec := { name := "fnExactCompareCorrected", fn := fun _ => fun
  | [d1, d2, d3, d4] => { results := [.lit (.bool false)], args := [d1, d2, d3, d4] }
  | _ => none }
def FnExactCompareCorrectedWrongFalsely : Prop := fnExactCompareCorrectedRow.holds Try.pinned (OpenSpec.ofChange fnExactCompareCorrectedWrong)

/-- 'laws.FnExactDistanceCorrected': WHATEVER THE INPUT: true; the input reads as it did. -/
def fnExactDistanceCorrectedSpec : ChangeSpec := { name := "fnExactDistanceCorrected", fn := fun _ => fun
  | [d1, d2, d3] => { results := [.lit (.bool true)], args := [d1, d2, d3] }
  | _ => none }
def fnExactDistanceCorrectedRow : OpenClaim := { program := "ytpligajegdaidaa", sum := "c910a727b38a668fa97541ad66ef7c68e5186b63d8126a08caa9d8d6d4bf9d53", func := "loop.example/g00887/laws.FnExactDistanceCorrected", spec := "fnExactDistanceCorrected", apart := false }
def FnExactDistanceCorrectedSaid : Prop := fnExactDistanceCorrectedRow.holds Try.pinned (OpenSpec.ofChange fnExactDistanceCorrectedSpec)

/-- ITS FALSE NEIGHBOUR: 'it returns false'. Refute it at one input. -/
def fnExactDistanceCorrectedWrong : ChangeSpec := { name := "fnExactDistanceCorrected", fn := fun _ => fun
  | [d1, d2, d3] => { results := [.lit (.bool false)], args := [d1, d2, d3] }
  | _ => none }
def FnExactDistanceCorrectedWrongFalsely : Prop := fnExactDistanceCorrectedRow.holds Try.pinned (OpenSpec.ofChange fnExactDistanceCorrectedWrong)

/-- 'laws.FnExactFactorToTie': WHATEVER THE INPUT: true; the input reads as it did. -/
def fnExactFactorToTieSpec : ChangeSpec := { name := "fnExactFactorToTie", fn := fun _ => fun
  | [d1, d2] => { results := [.lit (.bool true)], args := [d1, d2] }
  | _ => none }
def fnExactFactorToTieRow : OpenClaim := { program := "ytpligajegdaidaa", sum := "c910a727b38a668fa97541ad66ef7c68e5186b63d8126a08caa9d8d6d4bf9d53", func := "loop.example/g00887/laws.FnExactFactorToTie", spec := "fnExactFactorToTie", apart := false }
def FnExactFactorToTieSaid : Prop := fnExactFactorToTieRow.holds Try.pinned (OpenSpec.ofChange fnExactFactorToTieSpec)

/-- ITS FALSE NEIGHBOUR: 'it returns false'. Refute it at one input. -/
def fnExactFactorToTieWrong : ChangeSpec := { name := "fnExactFactorToTie", fn := fun _ => fun
  | [d1, d2] => { results := [.lit (.bool false)], args := [d1, d2] }
  | _ => none }
def FnExactFactorToTieWrongFalsely : Prop := fnExactFactorToTieRow.holds Try.pinned (OpenSpec.ofChange fnExactFactorToTieWrong)

/-- 'laws.FnExactBreakEven': WHATEVER THE INPUT: true; the input reads as it did. -/
def fnExactBreakEvenSpec : ChangeSpec := { name := "fnExactBreakEven", fn := fun _ => fun
  | [d1, d2, d3, d4] => { results := [.lit (.bool true)], args := [d1, d2, d3, d4] }
  | _ => none }
def fnExactBreakEvenRow : OpenClaim := { program := "ytpligajegdaidaa", sum := "c910a727b38a668fa97541ad66ef7c68e5186b63d8126a08caa9d8d6d4bf9d53", func := "loop.example/g00887/laws.FnExactBreakEven", spec := "fnExactBreakEven", apart := false }
def FnExactBreakEvenSaid : Prop := fnExactBreakEvenRow.holds Try.pinned (OpenSpec.ofChange fnExactBreakEvenSpec)

/-- ITS FALSE NEIGHBOUR: 'it returns false'. Refute it at one input. -/
def fnExactBreakEvenWrong : ChangeSpec := { name := "fnExactBreakEven", fn := fun _ => fun
  | [d1, d2, d3, d4] => { results := [.lit (.bool false)], args := [d1, d2, d3, d4] }
  | _ => none }
def FnExactBreakEvenWrongFalsely : Prop := fnExactBreakEvenRow.holds Try.pinned (OpenSpec.ofChange fnExactBreakEvenWrong)

/-- 'laws.FnExactAllowanceFor': WHATEVER THE INPUT: true; the input reads as it did. -/
def fnExactAllowanceForSpec : ChangeSpec := { name := "fnExactAllowanceFor", fn := fun _ => fun
  | [d1, d2, d3] => { results := [.lit (.bool true)], args := [d1, d2, d3] }
  | _ => none }
def fnExactAllowanceForRow : OpenClaim := { program := "ytpligajegdaidaa", sum := "c910a727b38a668fa97541ad66ef7c68e5186b63d8126a08caa9d8d6d4bf9d53", func := "loop.example/g00887/laws.FnExactAllowanceFor", spec := "fnExactAllowanceFor", apart := false }
def FnExactAllowanceForSaid : Prop := fnExactAllowanceForRow.holds Try.pinned (OpenSpec.ofChange fnExactAllowanceForSpec)

/-- ITS FALSE NEIGHBOUR: 'it returns false'. Refute it at one input. -/
def fnExactAllowanceForWrong : ChangeSpec := { name := "fnExactAllowanceFor", fn := fun _ => fun
  | [d1, d2, d3] => { results := [.lit (.bool false)], args := [d1, d2, d3] }
  | _ => none }
def FnExactAllowanceForWrongFalsely : Prop := fnExactAllowanceForRow.holds Try.pinned (OpenSpec.ofChange fnExactAllowanceForWrong)

/-- 'laws.FnCorrected': WHATEVER THE INPUT: true; the input reads as it did. -/
def fnCorrectedSpec : ChangeSpec := { name := "fnCorrected", fn := fun _ => fun
  | [d] => { results := [.lit (.bool true)], args := [d] }
  | _ => none }
def fnCorrectedRow : OpenClaim := { program := "ytpligajegdaidaa", sum := "c910a727b38a668fa97541ad66ef7c68e5186b63d8126a08caa9d8d6d4bf9d53", func := "loop.example/g00887/laws.FnCorrected", spec := "fnCorrected", apart := false }
def FnCorrectedSaid : Prop := fnCorrectedRow.holds Try.pinned (OpenSpec.ofChange fnCorrectedSpec)

/-- ITS FALSE NEIGHBOUR: 'it returns false'. Refute it at one input. -/
def fnCorrectedWrong : ChangeSpec := { name := "fnCorrected", fn := fun _ => fun
  | [d] => { results := [.lit (.bool false)], args := [d] }
  | _ => none }
def FnCorrectedWrongFalsely : Prop := fnCorrectedRow.holds Try.pinned (OpenSpec.ofChange fnCorrectedWrong)

/-- 'laws.FnAllowed': WHATEVER THE INPUT: true; the input reads as it did. -/
def fnAllowedSpec : ChangeSpec := { name := "fnAllowed", fn := fun _ => fun
  | [d] => { results := [.lit (.bool true)], args := [d] }
  | _ => none }
def fnAllowedRow : OpenClaim := { program := "ytpligajegdaidaa", sum := "c910a727b38a668fa97541ad66ef7c68e5186b63d8126a08caa9d8d6d4bf9d53", func := "loop.example/g00887/laws.FnAllowed", spec := "fnAllowed", apart := false }
def FnAllowedSaid : Prop := fnAllowedRow.holds Try.pinned (OpenSpec.ofChange fnAllowedSpec)

/-- ITS FALSE NEIGHBOUR: 'it returns false'. Refute it at one input. -/
def fnAllowedWrong : ChangeSpec := { name := "fnAllowed", fn := fun _ => fun
  | [d] => { results := [.lit (.bool false)], args := [d] }
  | _ => none }
def FnAllowedWrongFalsely : Prop := fnAllowedRow.holds Try.pinned (OpenSpec.ofChange fnAllowedWrong)

/-- 'laws.FnBreakEven': WHATEVER THE INPUT: true; the input reads as it did. -/
def fnBreakEvenSpec : ChangeSpec := { name := "fnBreakEven", fn := fun _ => fun
  | [d] => { results := [.lit (.bool true)], args := [d] }
  | _ => none }
def fnBreakEvenRow : OpenClaim := { program := "ytpligajegdaidaa", sum := "c910a727b38a668fa97541ad66ef7c68e5186b63d8126a08caa9d8d6d4bf9d53", func := "loop.example/g00887/laws.FnBreakEven", spec := "fnBreakEven", apart := false }
def FnBreakEvenSaid : Prop := fnBreakEvenRow.holds Try.pinned (OpenSpec.ofChange fnBreakEvenSpec)

/-- ITS FALSE NEIGHBOUR: 'it returns false'. Refute it at one input. -/
def fnBreakEvenWrong : ChangeSpec := { name := "fnBreakEven", fn := fun _ => fun
  | [d] => { results := [.lit (.bool false)], args := [d] }
  | _ => none }
def FnBreakEvenWrongFalsely : Prop := fnBreakEvenRow.holds Try.pinned (OpenSpec.ofChange fnBreakEvenWrong)

/-- 'laws.FnToBeat': WHATEVER THE INPUT: true; the input reads as it did. -/
def fnToBeatSpec : ChangeSpec := { name := "fnToBeat", fn := fun _ => fun
  | [d] => { results := [.lit (.bool true)], args := [d] }
  | _ => none }
def fnToBeatRow : OpenClaim := { program := "ytpligajegdaidaa", sum := "c910a727b38a668fa97541ad66ef7c68e5186b63d8126a08caa9d8d6d4bf9d53", func := "loop.example/g00887/laws.FnToBeat", spec := "fnToBeat", apart := false }
def FnToBeatSaid : Prop := fnToBeatRow.holds Try.pinned (OpenSpec.ofChange fnToBeatSpec)

/-- ITS FALSE NEIGHBOUR: 'it returns false'. Refute it at one input. -/
def fnToBeatWrong : ChangeSpec := { name := "fnToBeat", fn := fun _ => fun
  | [d] => { results := [.lit (.bool false)], args := [d] }
  | _ => none }
def FnToBeatWrongFalsely : Prop := fnToBeatRow.holds Try.pinned (OpenSpec.ofChange fnToBeatWrong)

/- THE SECOND FORM. 'bulk': how many values and letters a reading holds, each counted each time it is reached (what is shared counts as often as it is met; a slice's spare places count too). A statement '..UptoSaid' is the law's where the arguments, and the package variables that the reading takes, are together of bulk at most 1048576: NARROWER than '..Said'. Prove '..Said' where nothing that the law and all that it calls make is longer than what came in: it says more and counts as full. Else prove '..UptoSaid'. A law counts once. -/
mutual
def uptoBulk {H : Type} : DataW H → Nat
  | .lit (.string bytes) => bytes.length + 1
  | .lit _ => 1
  | .nil => 1
  | .ptr d => uptoBulk d + 1
  | .slice elems spare => uptoBulkAll elems + uptoBulkAll spare + 1
  | .agg parts => uptoBulkAll parts + 1
  | .iface _ d => uptoBulk d + 1
  | .map entries => uptoBulkEntries entries + 1
  | .held _ => 1
def uptoBulkAll {H : Type} : List (DataW H) → Nat
  | [] => 0
  | d :: r => uptoBulk d + uptoBulkAll r
def uptoBulkEntries {H : Type} : List (Lit × DataW H) → Nat
  | [] => 0
  | x :: r => uptoBulkEntry x + uptoBulkEntries r
def uptoBulkEntry {H : Type} : Lit × DataW H → Nat
  | (.string bytes, d) => bytes.length + uptoBulk d + 1
  | (_, d) => uptoBulk d + 1
 end
def uptoSmall : (H : Type) → List (DataW H) → Bool := fun _ ds => decide (uptoBulkAll ds ≤ 1048576)
def OpenSpec.upto (s : _root_.Go.ChangeSpec) : _root_.Go.OpenSpec := { _root_.Go.OpenSpec.ofChange s with cond := some uptoSmall }

/-- 'laws.FnExactPercentPoints', WHERE WHAT IT READS IS OF BULK AT MOST 1048576: true; the input reads as it did. -/
def fnExactPercentPointsUptoRow : OpenClaim := { program := "ytpligajegdaidaa", sum := "c910a727b38a668fa97541ad66ef7c68e5186b63d8126a08caa9d8d6d4bf9d53", func := "loop.example/g00887/laws.FnExactPercentPoints", spec := "fnExactPercentPoints", apart := false, narrowed := true }
def FnExactPercentPointsUptoSaid : Prop := fnExactPercentPointsUptoRow.holds Try.pinned (OpenSpec.upto fnExactPercentPointsSpec)

/-- 'laws.FnExactAllowedTime', WHERE WHAT IT READS IS OF BULK AT MOST 1048576: true; the input reads as it did. -/
def fnExactAllowedTimeUptoRow : OpenClaim := { program := "ytpligajegdaidaa", sum := "c910a727b38a668fa97541ad66ef7c68e5186b63d8126a08caa9d8d6d4bf9d53", func := "loop.example/g00887/laws.FnExactAllowedTime", spec := "fnExactAllowedTime", apart := false, narrowed := true }
def FnExactAllowedTimeUptoSaid : Prop := fnExactAllowedTimeUptoRow.holds Try.pinned (OpenSpec.upto fnExactAllowedTimeSpec)

/-- 'laws.FnExactCorrectedTime', WHERE WHAT IT READS IS OF BULK AT MOST 1048576: true; the input reads as it did. -/
def fnExactCorrectedTimeUptoRow : OpenClaim := { program := "ytpligajegdaidaa", sum := "c910a727b38a668fa97541ad66ef7c68e5186b63d8126a08caa9d8d6d4bf9d53", func := "loop.example/g00887/laws.FnExactCorrectedTime", spec := "fnExactCorrectedTime", apart := false, narrowed := true }
def FnExactCorrectedTimeUptoSaid : Prop := fnExactCorrectedTimeUptoRow.holds Try.pinned (OpenSpec.upto fnExactCorrectedTimeSpec)

/-- 'laws.FnExactTimeGiven', WHERE WHAT IT READS IS OF BULK AT MOST 1048576: true; the input reads as it did. -/
def fnExactTimeGivenUptoRow : OpenClaim := { program := "ytpligajegdaidaa", sum := "c910a727b38a668fa97541ad66ef7c68e5186b63d8126a08caa9d8d6d4bf9d53", func := "loop.example/g00887/laws.FnExactTimeGiven", spec := "fnExactTimeGiven", apart := false, narrowed := true }
def FnExactTimeGivenUptoSaid : Prop := fnExactTimeGivenUptoRow.holds Try.pinned (OpenSpec.upto fnExactTimeGivenSpec)

/-- 'laws.FnExactTimeToBeat', WHERE WHAT IT READS IS OF BULK AT MOST 1048576: true; the input reads as it did. -/
def fnExactTimeToBeatUptoRow : OpenClaim := { program := "ytpligajegdaidaa", sum := "c910a727b38a668fa97541ad66ef7c68e5186b63d8126a08caa9d8d6d4bf9d53", func := "loop.example/g00887/laws.FnExactTimeToBeat", spec := "fnExactTimeToBeat", apart := false, narrowed := true }
def FnExactTimeToBeatUptoSaid : Prop := fnExactTimeToBeatUptoRow.holds Try.pinned (OpenSpec.upto fnExactTimeToBeatSpec)

/-- 'laws.FnExactCompareCorrected', WHERE WHAT IT READS IS OF BULK AT MOST 1048576: true; the input reads as it did. -/
def fnExactCompareCorrectedUptoRow : OpenClaim := { program := "ytpligajegdaidaa", sum := "c910a727b38a668fa97541ad66ef7c68e5186b63d8126a08caa9d8d6d4bf9d53", func := "loop.example/g00887/laws.FnExactCompareCorrected", spec := "fnExactCompareCorrected", apart := false, narrowed := true }
def FnExactCompareCorrectedUptoSaid : Prop := fnExactCompareCorrectedUptoRow.holds Try.pinned (OpenSpec.upto fnExactCompareCorrectedSpec)

/-- 'laws.FnExactDistanceCorrected', WHERE WHAT IT READS IS OF BULK AT MOST 1048576: true; the input reads as it did. -/
def fnExactDistanceCorrectedUptoRow : OpenClaim := { program := "ytpligajegdaidaa", sum := "c910a727b38a668fa97541ad66ef7c68e5186b63d8126a08caa9d8d6d4bf9d53", func := "loop.example/g00887/laws.FnExactDistanceCorrected", spec := "fnExactDistanceCorrected", apart := false, narrowed := true }
def FnExactDistanceCorrectedUptoSaid : Prop := fnExactDistanceCorrectedUptoRow.holds Try.pinned (OpenSpec.upto fnExactDistanceCorrectedSpec)

/-- 'laws.FnExactFactorToTie', WHERE WHAT IT READS IS OF BULK AT MOST 1048576: true; the input reads as it did. -/
def fnExactFactorToTieUptoRow : OpenClaim := { program := "ytpligajegdaidaa", sum := "c910a727b38a668fa97541ad66ef7c68e5186b63d8126a08caa9d8d6d4bf9d53", func := "loop.example/g00887/laws.FnExactFactorToTie", spec := "fnExactFactorToTie", apart := false, narrowed := true }
def FnExactFactorToTieUptoSaid : Prop := fnExactFactorToTieUptoRow.holds Try.pinned (OpenSpec.upto fnExactFactorToTieSpec)

/-- 'laws.FnExactBreakEven', WHERE WHAT IT READS IS OF BULK AT MOST 1048576: true; the input reads as it did. -/
def fnExactBreakEvenUptoRow : OpenClaim := { program := "ytpligajegdaidaa", sum := "c910a727b38a668fa97541ad66ef7c68e5186b63d8126a08caa9d8d6d4bf9d53", func := "loop.example/g00887/laws.FnExactBreakEven", spec := "fnExactBreakEven", apart := false, narrowed := true }
def FnExactBreakEvenUptoSaid : Prop := fnExactBreakEvenUptoRow.holds Try.pinned (OpenSpec.upto fnExactBreakEvenSpec)

/-- 'laws.FnExactAllowanceFor', WHERE WHAT IT READS IS OF BULK AT MOST 1048576: true; the input reads as it did. -/
def fnExactAllowanceForUptoRow : OpenClaim := { program := "ytpligajegdaidaa", sum := "c910a727b38a668fa97541ad66ef7c68e5186b63d8126a08caa9d8d6d4bf9d53", func := "loop.example/g00887/laws.FnExactAllowanceFor", spec := "fnExactAllowanceFor", apart := false, narrowed := true }
def FnExactAllowanceForUptoSaid : Prop := fnExactAllowanceForUptoRow.holds Try.pinned (OpenSpec.upto fnExactAllowanceForSpec)

/-- 'laws.FnCorrected', WHERE WHAT IT READS IS OF BULK AT MOST 1048576: true; the input reads as it did. -/
def fnCorrectedUptoRow : OpenClaim := { program := "ytpligajegdaidaa", sum := "c910a727b38a668fa97541ad66ef7c68e5186b63d8126a08caa9d8d6d4bf9d53", func := "loop.example/g00887/laws.FnCorrected", spec := "fnCorrected", apart := false, narrowed := true }
def FnCorrectedUptoSaid : Prop := fnCorrectedUptoRow.holds Try.pinned (OpenSpec.upto fnCorrectedSpec)

/-- 'laws.FnAllowed', WHERE WHAT IT READS IS OF BULK AT MOST 1048576: true; the input reads as it did. -/
def fnAllowedUptoRow : OpenClaim := { program := "ytpligajegdaidaa", sum := "c910a727b38a668fa97541ad66ef7c68e5186b63d8126a08caa9d8d6d4bf9d53", func := "loop.example/g00887/laws.FnAllowed", spec := "fnAllowed", apart := false, narrowed := true }
def FnAllowedUptoSaid : Prop := fnAllowedUptoRow.holds Try.pinned (OpenSpec.upto fnAllowedSpec)

/-- 'laws.FnBreakEven', WHERE WHAT IT READS IS OF BULK AT MOST 1048576: true; the input reads as it did. -/
def fnBreakEvenUptoRow : OpenClaim := { program := "ytpligajegdaidaa", sum := "c910a727b38a668fa97541ad66ef7c68e5186b63d8126a08caa9d8d6d4bf9d53", func := "loop.example/g00887/laws.FnBreakEven", spec := "fnBreakEven", apart := false, narrowed := true }
def FnBreakEvenUptoSaid : Prop := fnBreakEvenUptoRow.holds Try.pinned (OpenSpec.upto fnBreakEvenSpec)

/-- 'laws.FnToBeat', WHERE WHAT IT READS IS OF BULK AT MOST 1048576: true; the input reads as it did. -/
def fnToBeatUptoRow : OpenClaim := { program := "ytpligajegdaidaa", sum := "c910a727b38a668fa97541ad66ef7c68e5186b63d8126a08caa9d8d6d4bf9d53", func := "loop.example/g00887/laws.FnToBeat", spec := "fnToBeat", apart := false, narrowed := true }
def FnToBeatUptoSaid : Prop := fnToBeatUptoRow.holds Try.pinned (OpenSpec.upto fnToBeatSpec)

end Rows
end Go.Proofs.Ytpligajegdaidaa
