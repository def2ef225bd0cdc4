/-
  No cell of these rows narrows 'for every input' (looked for: loops, veiled, ifaces, maps, wideKeys, modest, calm, conditions, laid).
  DERIVED. THE GIVEN ROWS OF THIS SEAT. 7 by the template 'for every input the law returns true; each argument reads behind the call as it read before'; 0 by the template 'total and deterministic' (their statements: YtfckoeoohlgmiaaTotals.lean).
  GIVEN WITH THE SEED: the statements are not yours to turn. If you find one false, say at which input.
  Laid BY PROGRAM, IN A SANDBOX (cutbox-rows.mjs): the forced cells as the released guide's own fill.sh prints them over the translation 2495894d87a3a6eb… (all of the seat's roots in one cut). By AI agents, Wed Nov 11 2026. No macro, syntax, notation, axiom, sorry.
-/
import Derived.Test.YtfckoeoohlgmiaaChecked
import GoSem.Claim
import GoSem.ClaimJoined
import GoSem.ClaimMapViews
import Derived.JoinedTies
import Derived.KernelRfl
namespace Go.Proofs.Ytfckoeoohlgmiaa
/- THE CELL 'sum', in the pinned program and in every row, IS THE sha256 OF THE DUMP (.gsa) THAT YtfckoeoohlgmiaaProg.lean LOADS. Nothing in Lean hashes anything: it is a label: what it is worth is what the hold of that sum in a sandbox is worth. -/
noncomputable def Try.pinned : Pinned := { name := "ytfckoeoohlgmiaa", sum := "2495894d87a3a6ebecc5c80339fb782f2250007022448003b6a81b85f472a634", checked := Try.checked }
namespace Rows
def none {H : Type} : Left H := { results := [], args := [] }

/-- 'laws.FnExactFirstUnlawful': WHATEVER THE INPUT: true; the input reads as it did. -/
def fnExactFirstUnlawfulSpec : ChangeSpec := { name := "fnExactFirstUnlawful", fn := fun _ => fun
  | [d] => { results := [.lit (.bool true)], args := [d] }
  | _ => none }
def fnExactFirstUnlawfulRow : OpenClaim := { program := "ytfckoeoohlgmiaa", sum := "2495894d87a3a6ebecc5c80339fb782f2250007022448003b6a81b85f472a634", func := "loop.example/g00887/laws.FnExactFirstUnlawful", spec := "fnExactFirstUnlawful", apart := false }
def FnExactFirstUnlawfulSaid : Prop := fnExactFirstUnlawfulRow.holds Try.pinned (OpenSpec.ofChange fnExactFirstUnlawfulSpec)

/-- ITS FALSE NEIGHBOUR: 'it returns false'. Refute it at one input. -/
def fnExactFirstUnlawfulWrong : ChangeSpec := { name := "fnExactFirstUnlawful", fn := fun _ => fun
  | [d] => { results := [.lit (.bool false)], args := [d] }
  | _ => none }
def FnExactFirstUnlawfulWrongFalsely : Prop := fnExactFirstUnlawfulRow.holds Try.pinned (OpenSpec.ofChange fnExactFirstUnlawfulWrong)

/-- 'laws.FnExactStartTime': WHATEVER THE INPUT: true; the input reads as it did. -/
def fnExactStartTimeSpec : ChangeSpec := { name := "fnExactStartTime", fn := fun _ => fun
  | [d] => { results := [.lit (.bool true)], args := [d] }
  | _ => none }
def fnExactStartTimeRow : OpenClaim := { program := "ytfckoeoohlgmiaa", sum := "2495894d87a3a6ebecc5c80339fb782f2250007022448003b6a81b85f472a634", func := "loop.example/g00887/laws.FnExactStartTime", spec := "fnExactStartTime", apart := false }
def FnExactStartTimeSaid : Prop := fnExactStartTimeRow.holds Try.pinned (OpenSpec.ofChange fnExactStartTimeSpec)

/-- ITS FALSE NEIGHBOUR: 'it returns false'. Refute it at one input. -/
def fnExactStartTimeWrong : ChangeSpec := { name := "fnExactStartTime", fn := fun _ => fun
  | [d] => { results := [.lit (.bool false)], args := [d] }
  | _ => none }
def FnExactStartTimeWrongFalsely : Prop := fnExactStartTimeRow.holds Try.pinned (OpenSpec.ofChange fnExactStartTimeWrong)

/-- 'laws.FnExactCountdownAt': WHATEVER THE INPUT: true; the input reads as it did. -/
def fnExactCountdownAtSpec : ChangeSpec := { name := "fnExactCountdownAt", fn := fun _ => fun
  | [d1, d2] => { results := [.lit (.bool true)], args := [d1, d2] }
  | _ => none }
def fnExactCountdownAtRow : OpenClaim := { program := "ytfckoeoohlgmiaa", sum := "2495894d87a3a6ebecc5c80339fb782f2250007022448003b6a81b85f472a634", func := "loop.example/g00887/laws.FnExactCountdownAt", spec := "fnExactCountdownAt", apart := false }
def FnExactCountdownAtSaid : Prop := fnExactCountdownAtRow.holds Try.pinned (OpenSpec.ofChange fnExactCountdownAtSpec)

/-- ITS FALSE NEIGHBOUR: 'it returns false'. Refute it at one input. -/
def fnExactCountdownAtWrong : ChangeSpec := { name := "fnExactCountdownAt", fn := fun _ => fun
  | [d1, d2] => { results := [.lit (.bool false)], args := [d1, d2] }
  | _ => none }
def FnExactCountdownAtWrongFalsely : Prop := fnExactCountdownAtRow.holds Try.pinned (OpenSpec.ofChange fnExactCountdownAtWrong)

/-- 'laws.FnExactLawfulKinds': WHATEVER THE INPUT: true; the input reads as it did. -/
def fnExactLawfulKindsSpec : ChangeSpec := { name := "fnExactLawfulKinds", fn := fun _ => fun
  | [d1, d2] => { results := [.lit (.bool true)], args := [d1, d2] }
  | _ => none }
def fnExactLawfulKindsRow : OpenClaim := { program := "ytfckoeoohlgmiaa", sum := "2495894d87a3a6ebecc5c80339fb782f2250007022448003b6a81b85f472a634", func := "loop.example/g00887/laws.FnExactLawfulKinds", spec := "fnExactLawfulKinds", apart := false }
def FnExactLawfulKindsSaid : Prop := fnExactLawfulKindsRow.holds Try.pinned (OpenSpec.ofChange fnExactLawfulKindsSpec)

/-- ITS FALSE NEIGHBOUR: 'it returns false'. Refute it at one input. -/
def fnExactLawfulKindsWrong : ChangeSpec := { name := "fnExactLawfulKinds", fn := fun _ => fun
  | [d1, d2] => { results := [.lit (.bool false)], args := [d1, d2] }
  | _ => none }
def FnExactLawfulKindsWrongFalsely : Prop := fnExactLawfulKindsRow.holds Try.pinned (OpenSpec.ofChange fnExactLawfulKindsWrong)

/-- 'laws.FnSignals': WHATEVER THE INPUT: true; the input reads as it did. -/
def fnSignalsSpec : ChangeSpec := { name := "fnSignals", fn := fun _ => fun
  | [d] => { results := [.lit (.bool true)], args := [d] }
  | _ => none }
def fnSignalsRow : OpenClaim := { program := "ytfckoeoohlgmiaa", sum := "2495894d87a3a6ebecc5c80339fb782f2250007022448003b6a81b85f472a634", func := "loop.example/g00887/laws.FnSignals", spec := "fnSignals", apart := false }
def FnSignalsSaid : Prop := fnSignalsRow.holds Try.pinned (OpenSpec.ofChange fnSignalsSpec)

/-- ITS FALSE NEIGHBOUR: 'it returns false'. Refute it at one input. -/
def fnSignalsWrong : ChangeSpec := { name := "fnSignals", fn := fun _ => fun
  | [d] => { results := [.lit (.bool false)], args := [d] }
  | _ => none }
def FnSignalsWrongFalsely : Prop := fnSignalsRow.holds Try.pinned (OpenSpec.ofChange fnSignalsWrong)

/-- 'laws.FnCountdown': WHATEVER THE INPUT: true; the input reads as it did. -/
def fnCountdownSpec : ChangeSpec := { name := "fnCountdown", fn := fun _ => fun
  | [d] => { results := [.lit (.bool true)], args := [d] }
  | _ => none }
def fnCountdownRow : OpenClaim := { program := "ytfckoeoohlgmiaa", sum := "2495894d87a3a6ebecc5c80339fb782f2250007022448003b6a81b85f472a634", func := "loop.example/g00887/laws.FnCountdown", spec := "fnCountdown", apart := false }
def FnCountdownSaid : Prop := fnCountdownRow.holds Try.pinned (OpenSpec.ofChange fnCountdownSpec)

/-- ITS FALSE NEIGHBOUR: 'it returns false'. Refute it at one input. -/
def fnCountdownWrong : ChangeSpec := { name := "fnCountdown", fn := fun _ => fun
  | [d] => { results := [.lit (.bool false)], args := [d] }
  | _ => none }
def FnCountdownWrongFalsely : Prop := fnCountdownRow.holds Try.pinned (OpenSpec.ofChange fnCountdownWrong)

/-- 'laws.FnStart': WHATEVER THE INPUT: true; the input reads as it did. -/
def fnStartSpec : ChangeSpec := { name := "fnStart", fn := fun _ => fun
  | [d] => { results := [.lit (.bool true)], args := [d] }
  | _ => none }
def fnStartRow : OpenClaim := { program := "ytfckoeoohlgmiaa", sum := "2495894d87a3a6ebecc5c80339fb782f2250007022448003b6a81b85f472a634", func := "loop.example/g00887/laws.FnStart", spec := "fnStart", apart := false }
def FnStartSaid : Prop := fnStartRow.holds Try.pinned (OpenSpec.ofChange fnStartSpec)

/-- ITS FALSE NEIGHBOUR: 'it returns false'. Refute it at one input. -/
def fnStartWrong : ChangeSpec := { name := "fnStart", fn := fun _ => fun
  | [d] => { results := [.lit (.bool false)], args := [d] }
  | _ => none }
def FnStartWrongFalsely : Prop := fnStartRow.holds Try.pinned (OpenSpec.ofChange fnStartWrong)

/- THE SECOND FORM. 'bulk': how many values and letters a reading holds, each counted each time it is reached (what is shared counts as often as it is met; a slice's spare places count too). A statement '..UptoSaid' is the law's where the arguments, and the package variables that the reading takes, are together of bulk at most 1048576: NARROWER than '..Said'. Prove '..Said' where nothing that the law and all that it calls make is longer than what came in: it says more and counts as full. Else prove '..UptoSaid'. A law counts once. -/
mutual
def uptoBulk {H : Type} : DataW H → Nat
  | .lit (.string bytes) => bytes.length + 1
  | .lit _ => 1
  | .nil => 1
  | .ptr d => uptoBulk d + 1
  | .slice elems spare => uptoBulkAll elems + uptoBulkAll spare + 1
  | .agg parts => uptoBulkAll parts + 1
  | .iface _ d => uptoBulk d + 1
  | .map entries => uptoBulkEntries entries + 1
  | .held _ => 1
def uptoBulkAll {H : Type} : List (DataW H) → Nat
  | [] => 0
  | d :: r => uptoBulk d + uptoBulkAll r
def uptoBulkEntries {H : Type} : List (Lit × DataW H) → Nat
  | [] => 0
  | x :: r => uptoBulkEntry x + uptoBulkEntries r
def uptoBulkEntry {H : Type} : Lit × DataW H → Nat
  | (.string bytes, d) => bytes.length + uptoBulk d + 1
  | (_, d) => uptoBulk d + 1
 end
def uptoSmall : (H : Type) → List (DataW H) → Bool := fun _ ds => decide (uptoBulkAll ds ≤ 1048576)
def OpenSpec.upto (s : _root_.Go.ChangeSpec) : _root_.Go.OpenSpec := { _root_.Go.OpenSpec.ofChange s with cond := some uptoSmall }

/-- 'laws.FnExactFirstUnlawful', WHERE WHAT IT READS IS OF BULK AT MOST 1048576: true; the input reads as it did. -/
def fnExactFirstUnlawfulUptoRow : OpenClaim := { program := "ytfckoeoohlgmiaa", sum := "2495894d87a3a6ebecc5c80339fb782f2250007022448003b6a81b85f472a634", func := "loop.example/g00887/laws.FnExactFirstUnlawful", spec := "fnExactFirstUnlawful", apart := false, narrowed := true }
def FnExactFirstUnlawfulUptoSaid : Prop := fnExactFirstUnlawfulUptoRow.holds Try.pinned (OpenSpec.upto fnExactFirstUnlawfulSpec)

/-- 'laws.FnExactStartTime', WHERE WHAT IT READS IS OF BULK AT MOST 1048576: true; the input reads as it did. -/
def fnExactStartTimeUptoRow : OpenClaim := { program := "ytfckoeoohlgmiaa", sum := "2495894d87a3a6ebecc5c80339fb782f2250007022448003b6a81b85f472a634", func := "loop.example/g00887/laws.FnExactStartTime", spec := "fnExactStartTime", apart := false, narrowed := true }
def FnExactStartTimeUptoSaid : Prop := fnExactStartTimeUptoRow.holds Try.pinned (OpenSpec.upto fnExactStartTimeSpec)

/-- 'laws.FnExactCountdownAt', WHERE WHAT IT READS IS OF BULK AT MOST 1048576: true; the input reads as it did. -/
def fnExactCountdownAtUptoRow : OpenClaim := { program := "ytfckoeoohlgmiaa", sum := "2495894d87a3a6ebecc5c80339fb782f2250007022448003b6a81b85f472a634", func := "loop.example/g00887/laws.FnExactCountdownAt", spec := "fnExactCountdownAt", apart := false, narrowed := true }
def FnExactCountdownAtUptoSaid : Prop := fnExactCountdownAtUptoRow.holds Try.pinned (OpenSpec.upto fnExactCountdownAtSpec)

/-- 'laws.FnExactLawfulKinds', WHERE WHAT IT READS IS OF BULK AT MOST 1048576: true; the input reads as it did. -/
def fnExactLawfulKindsUptoRow : OpenClaim := { program := "ytfckoeoohlgmiaa", sum := "2495894d87a3a6ebecc5c80339fb782f2250007022448003b6a81b85f472a634", func := "loop.example/g00887/laws.FnExactLawfulKinds", spec := "fnExactLawfulKinds", apart := false, narrowed := true }
def FnExactLawfulKindsUptoSaid : Prop := fnExactLawfulKindsUptoRow.holds Try.pinned (OpenSpec.upto fnExactLawfulKindsSpec)

/-- 'laws.FnSignals', WHERE WHAT IT READS IS OF BULK AT MOST 1048576: true; the input reads as it did. -/
def fnSignalsUptoRow : OpenClaim := { program := "ytfckoeoohlgmiaa", sum := "2495894d87a3a6ebecc5c80339fb782f2250007022448003b6a81b85f472a634", func := "loop.example/g00887/laws.FnSignals", spec := "fnSignals", apart := false, narrowed := true }
def FnSignalsUptoSaid : Prop := fnSignalsUptoRow.holds Try.pinned (OpenSpec.upto fnSignalsSpec)

/-- 'laws.FnCountdown', WHERE WHAT IT READS IS OF BULK AT MOST 1048576: true; the input reads as it did. -/
def fnCountdownUptoRow : OpenClaim := { program := "ytfckoeoohlgmiaa", sum := "2495894d87a3a6ebecc5c80339fb782f2250007022448003b6a81b85f472a634", func := "loop.example/g00887/laws.FnCountdown", spec := "fnCountdown", apart := false, narrowed := true }
def FnCountdownUptoSaid : Prop := fnCountdownUptoRow.holds Try.pinned (OpenSpec.upto fnCountdownSpec)

/-- 'laws.FnStart', WHERE WHAT IT READS IS OF BULK AT MOST 1048576: true; the input reads as it did. -/
def fnStartUptoRow : OpenClaim := { program := "ytfckoeoohlgmiaa", sum := "2495894d87a3a6ebecc5c80339fb782f2250007022448003b6a81b85f472a634", func := "loop.example/g00887/laws.FnStart", spec := "fnStart", apart := false, narrowed := true }
def FnStartUptoSaid : Prop := fnStartUptoRow.holds Try.pinned (OpenSpec.upto fnStartSpec)

end Rows
end Go.Proofs.Ytfckoeoohlgmiaa
