/-
  No cell of these rows narrows 'for every input' (looked for: loops, veiled, ifaces, maps, wideKeys, modest, calm, conditions, laid).
  DERIVED. THE GIVEN ROWS OF THIS SEAT. 8 by the template 'for every input the law returns true; each argument reads behind the call as it read before'; 0 by the template 'total and deterministic' (their statements: YtcilgohjeobamaaTotals.lean).
  GIVEN WITH THE SEED: the statements are not yours to turn. If you find one false, say at which input.
  Laid BY PROGRAM, IN A SANDBOX (cutbox-rows.mjs): the forced cells as the released guide's own fill.sh prints them over the translation 88455e8b4a35973a… (all of the seat's roots in one cut). By AI agents, Wed Nov 11 2026. No macro, syntax, notation, axiom, sorry.
-/
import Derived.Test.YtcilgohjeobamaaChecked
import GoSem.Claim
import GoSem.ClaimJoined
import GoSem.ClaimMapViews
import Derived.JoinedTies
import Derived.KernelRfl
namespace Go.Proofs.Ytcilgohjeobamaa
/- THE CELL 'sum', in the pinned program and in every row, IS THE sha256 OF THE DUMP (.gsa) THAT YtcilgohjeobamaaProg.lean LOADS. Nothing in Lean hashes anything: it is a label: what it is worth is what the hold of that sum in a sandbox is worth. -/
noncomputable def Try.pinned : Pinned := { name := "ytcilgohjeobamaa", sum := "88455e8b4a35973ae5f08cbd02f4cff0afae196220fbf525e1c46b3669411037", checked := Try.checked }
namespace Rows
def none {H : Type} : Left H := { results := [], args := [] }

/-- 'laws.FnExactIsDemands': WHATEVER THE INPUT: true; the input reads as it did. -/
def fnExactIsDemandsSpec : ChangeSpec := { name := "fnExactIsDemands", fn := fun _ => fun
  | [d] => { results := [.lit (.bool true)], args := [d] }
  | _ => none }
def fnExactIsDemandsRow : OpenClaim := { program := "ytcilgohjeobamaa", sum := "88455e8b4a35973ae5f08cbd02f4cff0afae196220fbf525e1c46b3669411037", func := "loop.example/g00887/laws.FnExactIsDemands", spec := "fnExactIsDemands", unfollowed := true, recurses := true, apart := false }
def FnExactIsDemandsSaid : Prop := fnExactIsDemandsRow.holds Try.pinned (OpenSpec.ofChange fnExactIsDemandsSpec)

/-- ITS FALSE NEIGHBOUR: 'it returns false'. Refute it at one input. -/
def fnExactIsDemandsWrong : ChangeSpec := { name := "fnExactIsDemands", fn := fun _ => fun
  | [d] => { results := [.lit (.bool false)], args := [d] }
  | _ => none }
def FnExactIsDemandsWrongFalsely : Prop := fnExactIsDemandsRow.holds Try.pinned (OpenSpec.ofChange fnExactIsDemandsWrong)

/-- 'laws.FnMet': WHATEVER THE INPUT: true; the input reads as it did. -/
def fnMetSpec : ChangeSpec := { name := "fnMet", fn := fun _ => fun
  | [d] => { results := [.lit (.bool true)], args := [d] }
  | _ => none }
def fnMetRow : OpenClaim := { program := "ytcilgohjeobamaa", sum := "88455e8b4a35973ae5f08cbd02f4cff0afae196220fbf525e1c46b3669411037", func := "loop.example/g00887/laws.FnMet", spec := "fnMet", unfollowed := true, recurses := true, apart := false }
def FnMetSaid : Prop := fnMetRow.holds Try.pinned (OpenSpec.ofChange fnMetSpec)

/-- ITS FALSE NEIGHBOUR: 'it returns false'. Refute it at one input. -/
def fnMetWrong : ChangeSpec := { name := "fnMet", fn := fun _ => fun
  | [d] => { results := [.lit (.bool false)], args := [d] }
  | _ => none }
def FnMetWrongFalsely : Prop := fnMetRow.holds Try.pinned (OpenSpec.ofChange fnMetWrong)

/-- 'laws.FnExactFindFacts': WHATEVER THE INPUT: true; the input reads as it did. -/
def fnExactFindFactsSpec : ChangeSpec := { name := "fnExactFindFacts", fn := fun _ => fun
  | [d1, d2, d3] => { results := [.lit (.bool true)], args := [d1, d2, d3] }
  | _ => none }
def fnExactFindFactsRow : OpenClaim := { program := "ytcilgohjeobamaa", sum := "88455e8b4a35973ae5f08cbd02f4cff0afae196220fbf525e1c46b3669411037", func := "loop.example/g00887/laws.FnExactFindFacts", spec := "fnExactFindFacts", unfollowed := true, recurses := true, apart := false }
def FnExactFindFactsSaid : Prop := fnExactFindFactsRow.holds Try.pinned (OpenSpec.ofChange fnExactFindFactsSpec)

/-- ITS FALSE NEIGHBOUR: 'it returns false'. Refute it at one input. -/
def fnExactFindFactsWrong : ChangeSpec := { name := "fnExactFindFacts", fn := fun _ => fun
  | [d1, d2, d3] => { results := [.lit (.bool false)], args := [d1, d2, d3] }
  | _ => none }
def FnExactFindFactsWrongFalsely : Prop := fnExactFindFactsRow.holds Try.pinned (OpenSpec.ofChange fnExactFindFactsWrong)

/-- 'laws.FnFacts': WHATEVER THE INPUT: true; the input reads as it did. -/
def fnFactsSpec : ChangeSpec := { name := "fnFacts", fn := fun _ => fun
  | [d] => { results := [.lit (.bool true)], args := [d] }
  | _ => none }
def fnFactsRow : OpenClaim := { program := "ytcilgohjeobamaa", sum := "88455e8b4a35973ae5f08cbd02f4cff0afae196220fbf525e1c46b3669411037", func := "loop.example/g00887/laws.FnFacts", spec := "fnFacts", unfollowed := true, recurses := true, apart := false }
def FnFactsSaid : Prop := fnFactsRow.holds Try.pinned (OpenSpec.ofChange fnFactsSpec)

/-- ITS FALSE NEIGHBOUR: 'it returns false'. Refute it at one input. -/
def fnFactsWrong : ChangeSpec := { name := "fnFacts", fn := fun _ => fun
  | [d] => { results := [.lit (.bool false)], args := [d] }
  | _ => none }
def FnFactsWrongFalsely : Prop := fnFactsRow.holds Try.pinned (OpenSpec.ofChange fnFactsWrong)

/-- 'laws.FnDecisions': WHATEVER THE INPUT: true; the input reads as it did. -/
def fnDecisionsSpec : ChangeSpec := { name := "fnDecisions", fn := fun _ => fun
  | [d] => { results := [.lit (.bool true)], args := [d] }
  | _ => none }
def fnDecisionsRow : OpenClaim := { program := "ytcilgohjeobamaa", sum := "88455e8b4a35973ae5f08cbd02f4cff0afae196220fbf525e1c46b3669411037", func := "loop.example/g00887/laws.FnDecisions", spec := "fnDecisions", unfollowed := true, recurses := true, apart := false }
def FnDecisionsSaid : Prop := fnDecisionsRow.holds Try.pinned (OpenSpec.ofChange fnDecisionsSpec)

/-- ITS FALSE NEIGHBOUR: 'it returns false'. Refute it at one input. -/
def fnDecisionsWrong : ChangeSpec := { name := "fnDecisions", fn := fun _ => fun
  | [d] => { results := [.lit (.bool false)], args := [d] }
  | _ => none }
def FnDecisionsWrongFalsely : Prop := fnDecisionsRow.holds Try.pinned (OpenSpec.ofChange fnDecisionsWrong)

/-- 'laws.FnExactDecideHearing': WHATEVER THE INPUT: true; the input reads as it did. -/
def fnExactDecideHearingSpec : ChangeSpec := { name := "fnExactDecideHearing", fn := fun _ => fun
  | [d1, d2, d3, d4] => { results := [.lit (.bool true)], args := [d1, d2, d3, d4] }
  | _ => none }
def fnExactDecideHearingRow : OpenClaim := { program := "ytcilgohjeobamaa", sum := "88455e8b4a35973ae5f08cbd02f4cff0afae196220fbf525e1c46b3669411037", func := "loop.example/g00887/laws.FnExactDecideHearing", spec := "fnExactDecideHearing", unfollowed := true, recurses := true, apart := false }
def FnExactDecideHearingSaid : Prop := fnExactDecideHearingRow.holds Try.pinned (OpenSpec.ofChange fnExactDecideHearingSpec)

/-- ITS FALSE NEIGHBOUR: 'it returns false'. Refute it at one input. -/
def fnExactDecideHearingWrong : ChangeSpec := { name := "fnExactDecideHearing", fn := fun _ => fun
  | [d1, d2, d3, d4] => { results := [.lit (.bool false)], args := [d1, d2, d3, d4] }
  | _ => none }
def FnExactDecideHearingWrongFalsely : Prop := fnExactDecideHearingRow.holds Try.pinned (OpenSpec.ofChange fnExactDecideHearingWrong)

/-- 'laws.FnSpeakers': WHATEVER THE INPUT: true; the input reads as it did. -/
def fnSpeakersSpec : ChangeSpec := { name := "fnSpeakers", fn := fun _ => fun
  | [d] => { results := [.lit (.bool true)], args := [d] }
  | _ => none }
def fnSpeakersRow : OpenClaim := { program := "ytcilgohjeobamaa", sum := "88455e8b4a35973ae5f08cbd02f4cff0afae196220fbf525e1c46b3669411037", func := "loop.example/g00887/laws.FnSpeakers", spec := "fnSpeakers", unfollowed := true, recurses := true, apart := false }
def FnSpeakersSaid : Prop := fnSpeakersRow.holds Try.pinned (OpenSpec.ofChange fnSpeakersSpec)

/-- ITS FALSE NEIGHBOUR: 'it returns false'. Refute it at one input. -/
def fnSpeakersWrong : ChangeSpec := { name := "fnSpeakers", fn := fun _ => fun
  | [d] => { results := [.lit (.bool false)], args := [d] }
  | _ => none }
def FnSpeakersWrongFalsely : Prop := fnSpeakersRow.holds Try.pinned (OpenSpec.ofChange fnSpeakersWrong)

/-- 'laws.FnExactDecisiveSpeakers': WHATEVER THE INPUT: true; the input reads as it did. -/
def fnExactDecisiveSpeakersSpec : ChangeSpec := { name := "fnExactDecisiveSpeakers", fn := fun _ => fun
  | [d1, d2, d3, d4] => { results := [.lit (.bool true)], args := [d1, d2, d3, d4] }
  | _ => none }
def fnExactDecisiveSpeakersRow : OpenClaim := { program := "ytcilgohjeobamaa", sum := "88455e8b4a35973ae5f08cbd02f4cff0afae196220fbf525e1c46b3669411037", func := "loop.example/g00887/laws.FnExactDecisiveSpeakers", spec := "fnExactDecisiveSpeakers", unfollowed := true, recurses := true, apart := false }
def FnExactDecisiveSpeakersSaid : Prop := fnExactDecisiveSpeakersRow.holds Try.pinned (OpenSpec.ofChange fnExactDecisiveSpeakersSpec)

/-- ITS FALSE NEIGHBOUR: 'it returns false'. Refute it at one input. -/
def fnExactDecisiveSpeakersWrong : ChangeSpec := { name := "fnExactDecisiveSpeakers", fn := fun _ => fun
  | [d1, d2, d3, d4] => { results := [.lit (.bool false)], args := [d1, d2, d3, d4] }
  | _ => none }
def FnExactDecisiveSpeakersWrongFalsely : Prop := fnExactDecisiveSpeakersRow.holds Try.pinned (OpenSpec.ofChange fnExactDecisiveSpeakersWrong)

/- THE SECOND FORM. 'bulk': how many values and letters a reading holds, each counted each time it is reached (what is shared counts as often as it is met; a slice's spare places count too). A statement '..UptoSaid' is the law's where the arguments, and the package variables that the reading takes, are together of bulk at most 1048576: NARROWER than '..Said'. Prove '..Said' where nothing that the law and all that it calls make is longer than what came in: it says more and counts as full. Else prove '..UptoSaid'. A law counts once. -/
mutual
def uptoBulk {H : Type} : DataW H → Nat
  | .lit (.string bytes) => bytes.length + 1
  | .lit _ => 1
  | .nil => 1
  | .ptr d => uptoBulk d + 1
  | .slice elems spare => uptoBulkAll elems + uptoBulkAll spare + 1
  | .agg parts => uptoBulkAll parts + 1
  | .iface _ d => uptoBulk d + 1
  | .map entries => uptoBulkEntries entries + 1
  | .held _ => 1
def uptoBulkAll {H : Type} : List (DataW H) → Nat
  | [] => 0
  | d :: r => uptoBulk d + uptoBulkAll r
def uptoBulkEntries {H : Type} : List (Lit × DataW H) → Nat
  | [] => 0
  | x :: r => uptoBulkEntry x + uptoBulkEntries r
def uptoBulkEntry {H : Type} : Lit × DataW H → Nat
  | (.string bytes, d) => bytes.length + uptoBulk d + 1
  | (_, d) => uptoBulk d + 1
 end
def uptoSmall : (H : Type) → List (DataW H) → Bool := fun _ ds => decide (uptoBulkAll ds ≤ 1048576)
def OpenSpec.upto (s : _root_.Go.ChangeSpec) : _root_.Go.OpenSpec := { _root_.Go.OpenSpec.ofChange s with cond := some uptoSmall }

/-- 'laws.FnExactIsDemands', WHERE WHAT IT READS IS OF BULK AT MOST 1048576: true; the input reads as it did. -/
def fnExactIsDemandsUptoRow : OpenClaim := { program := "ytcilgohjeobamaa", sum := "88455e8b4a35973ae5f08cbd02f4cff0afae196220fbf525e1c46b3669411037", func := "loop.example/g00887/laws.FnExactIsDemands", spec := "fnExactIsDemands", unfollowed := true, recurses := true, apart := false, narrowed := true }
def FnExactIsDemandsUptoSaid : Prop := fnExactIsDemandsUptoRow.holds Try.pinned (OpenSpec.upto fnExactIsDemandsSpec)

/-- 'laws.FnMet', WHERE WHAT IT READS IS OF BULK AT MOST 1048576: true; the input reads as it did. -/
def fnMetUptoRow : OpenClaim := { program := "ytcilgohjeobamaa", sum := "88455e8b4a35973ae5f08cbd02f4cff0afae196220fbf525e1c46b3669411037", func := "loop.example/g00887/laws.FnMet", spec := "fnMet", unfollowed := true, recurses := true, apart := false, narrowed := true }
def FnMetUptoSaid : Prop := fnMetUptoRow.holds Try.pinned (OpenSpec.upto fnMetSpec)

/-- 'laws.FnExactFindFacts', WHERE WHAT IT READS IS OF BULK AT MOST 1048576: true; the input reads as it did. -/
def fnExactFindFactsUptoRow : OpenClaim := { program := "ytcilgohjeobamaa", sum := "88455e8b4a35973ae5f08cbd02f4cff0afae196220fbf525e1c46b3669411037", func := "loop.example/g00887/laws.FnExactFindFacts", spec := "fnExactFindFacts", unfollowed := true, recurses := true, apart := false, narrowed := true }
def FnExactFindFactsUptoSaid : Prop := fnExactFindFactsUptoRow.holds Try.pinned (OpenSpec.upto fnExactFindFactsSpec)

/-- 'laws.FnFacts', WHERE WHAT IT READS IS OF BULK AT MOST 1048576: true; the input reads as it did. -/
def fnFactsUptoRow : OpenClaim := { program := "ytcilgohjeobamaa", sum := "88455e8b4a35973ae5f08cbd02f4cff0afae196220fbf525e1c46b3669411037", func := "loop.example/g00887/laws.FnFacts", spec := "fnFacts", unfollowed := true, recurses := true, apart := false, narrowed := true }
def FnFactsUptoSaid : Prop := fnFactsUptoRow.holds Try.pinned (OpenSpec.upto fnFactsSpec)

/-- 'laws.FnDecisions', WHERE WHAT IT READS IS OF BULK AT MOST 1048576: true; the input reads as it did. -/
def fnDecisionsUptoRow : OpenClaim := { program := "ytcilgohjeobamaa", sum := "88455e8b4a35973ae5f08cbd02f4cff0afae196220fbf525e1c46b3669411037", func := "loop.example/g00887/laws.FnDecisions", spec := "fnDecisions", unfollowed := true, recurses := true, apart := false, narrowed := true }
def FnDecisionsUptoSaid : Prop := fnDecisionsUptoRow.holds Try.pinned (OpenSpec.upto fnDecisionsSpec)

/-- 'laws.FnExactDecideHearing', WHERE WHAT IT READS IS OF BULK AT MOST 1048576: true; the input reads as it did. -/
def fnExactDecideHearingUptoRow : OpenClaim := { program := "ytcilgohjeobamaa", sum := "88455e8b4a35973ae5f08cbd02f4cff0afae196220fbf525e1c46b3669411037", func := "loop.example/g00887/laws.FnExactDecideHearing", spec := "fnExactDecideHearing", unfollowed := true, recurses := true, apart := false, narrowed := true }
def FnExactDecideHearingUptoSaid : Prop := fnExactDecideHearingUptoRow.holds Try.pinned (OpenSpec.upto fnExactDecideHearingSpec)

/-- 'laws.FnSpeakers', WHERE WHAT IT READS IS OF BULK AT MOST 1048576: true; the input reads as it did. -/
def fnSpeakersUptoRow : OpenClaim := { program := "ytcilgohjeobamaa", sum := "88455e8b4a35973ae5f08cbd02f4cff0afae196220fbf525e1c46b3669411037", func := "loop.example/g00887/laws.FnSpeakers", spec := "fnSpeakers", unfollowed := true, recurses := true, apart := false, narrowed := true }
def FnSpeakersUptoSaid : Prop := fnSpeakersUptoRow.holds Try.pinned (OpenSpec.upto fnSpeakersSpec)

/-- 'laws.FnExactDecisiveSpeakers', WHERE WHAT IT READS IS OF BULK AT MOST 1048576: true; the input reads as it did. -/
def fnExactDecisiveSpeakersUptoRow : OpenClaim := { program := "ytcilgohjeobamaa", sum := "88455e8b4a35973ae5f08cbd02f4cff0afae196220fbf525e1c46b3669411037", func := "loop.example/g00887/laws.FnExactDecisiveSpeakers", spec := "fnExactDecisiveSpeakers", unfollowed := true, recurses := true, apart := false, narrowed := true }
def FnExactDecisiveSpeakersUptoSaid : Prop := fnExactDecisiveSpeakersUptoRow.holds Try.pinned (OpenSpec.upto fnExactDecisiveSpeakersSpec)

end Rows
end Go.Proofs.Ytcilgohjeobamaa
