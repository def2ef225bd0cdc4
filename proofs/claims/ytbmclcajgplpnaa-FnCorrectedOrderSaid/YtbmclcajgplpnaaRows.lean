/-
  No cell of these rows narrows 'for every input' (looked for: loops, veiled, ifaces, maps, wideKeys, modest, calm, conditions, laid).
  DERIVED. THE GIVEN ROWS OF THIS SEAT. 6 by the template 'for every input the law returns true; each argument reads behind the call as it read before'; 0 by the template 'total and deterministic' (their statements: YtbmclcajgplpnaaTotals.lean).
  GIVEN WITH THE SEED: the statements are not yours to turn. If you find one false, say at which input.
  Laid BY PROGRAM, IN A SANDBOX (cutbox-rows.mjs): the forced cells as the released guide's own fill.sh prints them over the translation ac95950d9a63c987… (all of the seat's roots in one cut). By AI agents, Wed Nov 11 2026. No macro, syntax, notation, axiom, sorry.
-/
import Derived.Test.YtbmclcajgplpnaaChecked
import GoSem.Claim
import GoSem.ClaimJoined
import GoSem.ClaimMapViews
import Derived.JoinedTies
import Derived.KernelRfl
namespace Go.Proofs.Ytbmclcajgplpnaa
/- THE CELL 'sum', in the pinned program and in every row, IS THE sha256 OF THE DUMP (.gsa) THAT YtbmclcajgplpnaaProg.lean LOADS. Nothing in Lean hashes anything: it is a label: what it is worth is what the hold of that sum in a sandbox is worth. -/
noncomputable def Try.pinned : Pinned := { name := "ytbmclcajgplpnaa", sum := "ac95950d9a63c987235ebce7335b30b2b7413be9b4ec62cf4d53145a767b12e7", checked := Try.checked }
namespace Rows
def none {H : Type} : Left H := { results := [], args := [] }

/-- 'laws.FnExactIsRatings': WHATEVER THE INPUT: true; the input reads as it did. -/
def fnExactIsRatingsSpec : ChangeSpec := { name := "fnExactIsRatings", fn := fun _ => fun
  | [d1, d2] => { results := [.lit (.bool true)], args := [d1, d2] }
  | _ => none }
def fnExactIsRatingsRow : OpenClaim := { program := "ytbmclcajgplpnaa", sum := "ac95950d9a63c987235ebce7335b30b2b7413be9b4ec62cf4d53145a767b12e7", func := "loop.example/g00887/laws.FnExactIsRatings", spec := "fnExactIsRatings", apart := false }
def FnExactIsRatingsSaid : Prop := fnExactIsRatingsRow.holds Try.pinned (OpenSpec.ofChange fnExactIsRatingsSpec)

/-- ITS FALSE NEIGHBOUR: 'it returns false'. Refute it at one input. -/
def fnExactIsRatingsWrong : ChangeSpec := { name := "fnExactIsRatings", fn := fun _ => fun
  | [d1, d2] => { results := [.lit (.bool false)], args := [d1, d2] }
  | _ => none }
def FnExactIsRatingsWrongFalsely : Prop := fnExactIsRatingsRow.holds Try.pinned (OpenSpec.ofChange fnExactIsRatingsWrong)

/-- 'laws.FnExactCorrectFinishes': WHATEVER THE INPUT: true; the input reads as it did. -/
def fnExactCorrectFinishesSpec : ChangeSpec := { name := "fnExactCorrectFinishes", fn := fun _ => fun
  | [d1, d2, d3] => { results := [.lit (.bool true)], args := [d1, d2, d3] }
  | _ => none }
def fnExactCorrectFinishesRow : OpenClaim := { program := "ytbmclcajgplpnaa", sum := "ac95950d9a63c987235ebce7335b30b2b7413be9b4ec62cf4d53145a767b12e7", func := "loop.example/g00887/laws.FnExactCorrectFinishes", spec := "fnExactCorrectFinishes", apart := false }
def FnExactCorrectFinishesSaid : Prop := fnExactCorrectFinishesRow.holds Try.pinned (OpenSpec.ofChange fnExactCorrectFinishesSpec)

/-- ITS FALSE NEIGHBOUR: 'it returns false'. Refute it at one input. -/
def fnExactCorrectFinishesWrong : ChangeSpec := { name := "fnExactCorrectFinishes", fn := fun _ => fun
  | [d1, d2, d3] => { results := [.lit (.bool false)], args := [d1, d2, d3] }
  | _ => none }
def FnExactCorrectFinishesWrongFalsely : Prop := fnExactCorrectFinishesRow.holds Try.pinned (OpenSpec.ofChange fnExactCorrectFinishesWrong)

/-- 'laws.FnExactCorrectByDistance': WHATEVER THE INPUT: true; the input reads as it did. -/
def fnExactCorrectByDistanceSpec : ChangeSpec := { name := "fnExactCorrectByDistance", fn := fun _ => fun
  | [d1, d2, d3, d4] => { results := [.lit (.bool true)], args := [d1, d2, d3, d4] }
  | _ => none }
def fnExactCorrectByDistanceRow : OpenClaim := { program := "ytbmclcajgplpnaa", sum := "ac95950d9a63c987235ebce7335b30b2b7413be9b4ec62cf4d53145a767b12e7", func := "loop.example/g00887/laws.FnExactCorrectByDistance", spec := "fnExactCorrectByDistance", apart := false }
def FnExactCorrectByDistanceSaid : Prop := fnExactCorrectByDistanceRow.holds Try.pinned (OpenSpec.ofChange fnExactCorrectByDistanceSpec)

/-- ITS FALSE NEIGHBOUR: 'it returns false'. Refute it at one input. -/
def fnExactCorrectByDistanceWrong : ChangeSpec := { name := "fnExactCorrectByDistance", fn := fun _ => fun
  | [d1, d2, d3, d4] => { results := [.lit (.bool false)], args := [d1, d2, d3, d4] }
  | _ => none }
def FnExactCorrectByDistanceWrongFalsely : Prop := fnExactCorrectByDistanceRow.holds Try.pinned (OpenSpec.ofChange fnExactCorrectByDistanceWrong)

/-- 'laws.FnByDistance': WHATEVER THE INPUT: true; the input reads as it did. -/
def fnByDistanceSpec : ChangeSpec := { name := "fnByDistance", fn := fun _ => fun
  | [d] => { results := [.lit (.bool true)], args := [d] }
  | _ => none }
def fnByDistanceRow : OpenClaim := { program := "ytbmclcajgplpnaa", sum := "ac95950d9a63c987235ebce7335b30b2b7413be9b4ec62cf4d53145a767b12e7", func := "loop.example/g00887/laws.FnByDistance", spec := "fnByDistance", apart := false }
def FnByDistanceSaid : Prop := fnByDistanceRow.holds Try.pinned (OpenSpec.ofChange fnByDistanceSpec)

/-- ITS FALSE NEIGHBOUR: 'it returns false'. Refute it at one input. -/
def fnByDistanceWrong : ChangeSpec := { name := "fnByDistance", fn := fun _ => fun
  | [d] => { results := [.lit (.bool false)], args := [d] }
  | _ => none }
def FnByDistanceWrongFalsely : Prop := fnByDistanceRow.holds Try.pinned (OpenSpec.ofChange fnByDistanceWrong)

/-- 'laws.FnExactCorrectedOrder': WHATEVER THE INPUT: true; the input reads as it did. -/
def fnExactCorrectedOrderSpec : ChangeSpec := { name := "fnExactCorrectedOrder", fn := fun _ => fun
  | [d1, d2, d3] => { results := [.lit (.bool true)], args := [d1, d2, d3] }
  | _ => none }
def fnExactCorrectedOrderRow : OpenClaim := { program := "ytbmclcajgplpnaa", sum := "ac95950d9a63c987235ebce7335b30b2b7413be9b4ec62cf4d53145a767b12e7", func := "loop.example/g00887/laws.FnExactCorrectedOrder", spec := "fnExactCorrectedOrder", unfollowed := true, recurses := true, apart := false }
def FnExactCorrectedOrderSaid : Prop := fnExactCorrectedOrderRow.holds Try.pinned (OpenSpec.ofChange fnExactCorrectedOrderSpec)

/-- ITS FALSE NEIGHBOUR: 'it returns false'. Refute it at one input. -/
def fnExactCorrectedOrderWrong : ChangeSpec := { name := "fnExactCorrectedOrder", fn := fun _ => fun
  | [d1, d2, d3] => { results := [.lit (.bool false)], args := [d1, d2, d3] }
  | _ => none }
def FnExactCorrectedOrderWrongFalsely : Prop := fnExactCorrectedOrderRow.holds Try.pinned (OpenSpec.ofChange fnExactCorrectedOrderWrong)

/-- 'laws.FnCorrectedOrder': WHATEVER THE INPUT: true; the input reads as it did. -/
def fnCorrectedOrderSpec : ChangeSpec := { name := "fnCorrectedOrder", fn := fun _ => fun
  | [d] => { results := [.lit (.bool true)], args := [d] }
  | _ => none }
def fnCorrectedOrderRow : OpenClaim := { program := "ytbmclcajgplpnaa", sum := "ac95950d9a63c987235ebce7335b30b2b7413be9b4ec62cf4d53145a767b12e7", func := "loop.example/g00887/laws.FnCorrectedOrder", spec := "fnCorrectedOrder", unfollowed := true, recurses := true, apart := false }
def FnCorrectedOrderSaid : Prop := fnCorrectedOrderRow.holds Try.pinned (OpenSpec.ofChange fnCorrectedOrderSpec)

/-- ITS FALSE NEIGHBOUR: 'it returns false'. Refute it at one input. -/
def fnCorrectedOrderWrong : ChangeSpec := { name := "fnCorrectedOrder", fn := fun _ => fun
  | [d] => { results := [.lit (.bool false)], args := [d] }
  | _ => none }
def FnCorrectedOrderWrongFalsely : Prop := fnCorrectedOrderRow.holds Try.pinned (OpenSpec.ofChange fnCorrectedOrderWrong)

/- THE SECOND FORM. 'bulk': how many values and letters a reading holds, each counted each time it is reached (what is shared counts as often as it is met; a slice's spare places count too). A statement '..UptoSaid' is the law's where the arguments, and the package variables that the reading takes, are together of bulk at most 1048576: NARROWER than '..Said'. Prove '..Said' where nothing that the law and all that it calls make is longer than what came in: it says more and counts as full. Else prove '..UptoSaid'. A law counts once. -/
mutual
def uptoBulk {H : Type} : DataW H → Nat
  | .lit (.string bytes) => bytes.length + 1
  | .lit _ => 1
  | .nil => 1
  | .ptr d => uptoBulk d + 1
  | .slice elems spare => uptoBulkAll elems + uptoBulkAll spare + 1
  | .agg parts => uptoBulkAll parts + 1
  | .iface _ d => uptoBulk d + 1
  | .map entries => uptoBulkEntries entries + 1
  | .held _ => 1
def uptoBulkAll {H : Type} : List (DataW H) → Nat
  | [] => 0
  | d :: r => uptoBulk d + uptoBulkAll r
def uptoBulkEntries {H : Type} : List (Lit × DataW H) → Nat
  | [] => 0
  | x :: r => uptoBulkEntry x + uptoBulkEntries r
def uptoBulkEntry {H : Type} : Lit × DataW H → Nat
  | (.string bytes, d) => bytes.length + uptoBulk d + 1
  | (_, d) => uptoBulk d + 1
 end
def uptoSmall : (H : Type) → List (DataW H) → Bool := fun _ ds => decide (uptoBulkAll ds ≤ 1048576)
def OpenSpec.upto (s : _root_.Go.ChangeSpec) : _root_.Go.OpenSpec := { _root_.Go.OpenSpec.ofChange s with cond := some uptoSmall }

/-- 'laws.FnExactIsRatings', WHERE WHAT IT READS IS OF BULK AT MOST 1048576: true; the input reads as it did. -/
def fnExactIsRatingsUptoRow : OpenClaim := { program := "ytbmclcajgplpnaa", sum := "ac95950d9a63c987235ebce7335b30b2b7413be9b4ec62cf4d53145a767b12e7", func := "loop.example/g00887/laws.FnExactIsRatings", spec := "fnExactIsRatings", apart := false, narrowed := true }
def FnExactIsRatingsUptoSaid : Prop := fnExactIsRatingsUptoRow.holds Try.pinned (OpenSpec.upto fnExactIsRatingsSpec)

/-- 'laws.FnExactCorrectFinishes', WHERE WHAT IT READS IS OF BULK AT MOST 1048576: true; the input reads as it did. -/
def fnExactCorrectFinishesUptoRow : OpenClaim := { program := "ytbmclcajgplpnaa", sum := "ac95950d9a63c987235ebce7335b30b2b7413be9b4ec62cf4d53145a767b12e7", func := "loop.example/g00887/laws.FnExactCorrectFinishes", spec := "fnExactCorrectFinishes", apart := false, narrowed := true }
def FnExactCorrectFinishesUptoSaid : Prop := fnExactCorrectFinishesUptoRow.holds Try.pinned (OpenSpec.upto fnExactCorrectFinishesSpec)

/-- 'laws.FnExactCorrectByDistance', WHERE WHAT IT READS IS OF BULK AT MOST 1048576: true; the input reads as it did. -/
def fnExactCorrectByDistanceUptoRow : OpenClaim := { program := "ytbmclcajgplpnaa", sum := "ac95950d9a63c987235ebce7335b30b2b7413be9b4ec62cf4d53145a767b12e7", func := "loop.example/g00887/laws.FnExactCorrectByDistance", spec := "fnExactCorrectByDistance", apart := false, narrowed := true }
def FnExactCorrectByDistanceUptoSaid : Prop := fnExactCorrectByDistanceUptoRow.holds Try.pinned (OpenSpec.upto fnExactCorrectByDistanceSpec)

/-- 'laws.FnByDistance', WHERE WHAT IT READS IS OF BULK AT MOST 1048576: true; the input reads as it did. -/
def fnByDistanceUptoRow : OpenClaim := { program := "ytbmclcajgplpnaa", sum := "ac95950d9a63c987235ebce7335b30b2b7413be9b4ec62cf4d53145a767b12e7", func := "loop.example/g00887/laws.FnByDistance", spec := "fnByDistance", apart := false, narrowed := true }
def FnByDistanceUptoSaid : Prop := fnByDistanceUptoRow.holds Try.pinned (OpenSpec.upto fnByDistanceSpec)

/-- 'laws.FnExactCorrectedOrder', WHERE WHAT IT READS IS OF BULK AT MOST 1048576: true; the input reads as it did. -/
def fnExactCorrectedOrderUptoRow : OpenClaim := { program := "ytbmclcajgplpnaa", sum := "ac95950d9a63c987235ebce7335b30b2b7413be9b4ec62cf4d53145a767b12e7", func := "loop.example/g00887/laws.FnExactCorrectedOrder", spec := "fnExactCorrectedOrder", unfollowed := true, recurses := true, apart := false, narrowed := true }
def FnExactCorrectedOrderUptoSaid : Prop := fnExactCorrectedOrderUptoRow.holds Try.pinned (OpenSpec.upto fnExactCorrectedOrderSpec)

/-- 'laws.FnCorrectedOrder', WHERE WHAT IT READS IS OF BULK AT MOST 1048576: true; the input reads as it did. -/
def fnCorrectedOrderUptoRow : OpenClaim := { program := "ytbmclcajgplpnaa", sum := "ac95950d9a63c987235ebce7335b30b2b7413be9b4ec62cf4d53145a767b12e7", func := "loop.example/g00887/laws.FnCorrectedOrder", spec := "fnCorrectedOrder", unfollowed := true, recurses := true, apart := false, narrowed := true }
def FnCorrectedOrderUptoSaid : Prop := fnCorrectedOrderUptoRow.holds Try.pinned (OpenSpec.upto fnCorrectedOrderSpec)

end Rows
end Go.Proofs.Ytbmclcajgplpnaa
