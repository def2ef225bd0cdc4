/-
  No cell of these rows narrows 'for every input' (looked for: loops, veiled, ifaces, maps, wideKeys, modest, calm, conditions, laid).
  DERIVED. THE GIVEN ROWS OF THIS SEAT. 10 by the template 'for every input the law returns true; each argument reads behind the call as it read before'; 0 by the template 'total and deterministic' (their statements: YtghpaegabppeaaaTotals.lean).
  GIVEN WITH THE SEED: the statements are not yours to turn. If you find one false, say at which input.
  Laid BY PROGRAM, IN A SANDBOX (cutbox-rows.mjs): the forced cells as the released guide's own fill.sh prints them over the translation 7409d627f8fe47ae… (all of the seat's roots in one cut). By AI agents, Wed Nov 11 2026. No macro, syntax, notation, axiom, sorry.
-/
import Derived.Test.YtghpaegabppeaaaChecked
import GoSem.Claim
import GoSem.ClaimJoined
import GoSem.ClaimMapViews
import Derived.JoinedTies
import Derived.KernelRfl
namespace Go.Proofs.Ytghpaegabppeaaa
/- THE CELL 'sum', in the pinned program and in every row, IS THE sha256 OF THE DUMP (.gsa) THAT YtghpaegabppeaaaProg.lean LOADS. Nothing in Lean hashes anything: it is a label: what it is worth is what the hold of that sum in a sandbox is worth. -/
noncomputable def Try.pinned : Pinned := { name := "ytghpaegabppeaaa", sum := "7409d627f8fe47ae894a3233bc82b4daa5834971ccd77f0a084f12caecb810f2", checked := Try.checked }
namespace Rows
def none {H : Type} : Left H := { results := [], args := [] }

/-- 'laws.FnExactIsWindows': WHATEVER THE INPUT: true; the input reads as it did. -/
def fnExactIsWindowsSpec : ChangeSpec := { name := "fnExactIsWindows", fn := fun _ => fun
  | [d] => { results := [.lit (.bool true)], args := [d] }
  | _ => none }
def fnExactIsWindowsRow : OpenClaim := { program := "ytghpaegabppeaaa", sum := "7409d627f8fe47ae894a3233bc82b4daa5834971ccd77f0a084f12caecb810f2", func := "loop.example/g00887/laws.FnExactIsWindows", spec := "fnExactIsWindows", apart := false }
def FnExactIsWindowsSaid : Prop := fnExactIsWindowsRow.holds Try.pinned (OpenSpec.ofChange fnExactIsWindowsSpec)

/-- ITS FALSE NEIGHBOUR: 'it returns false'. Refute it at one input. -/
def fnExactIsWindowsWrong : ChangeSpec := { name := "fnExactIsWindows", fn := fun _ => fun
  | [d] => { results := [.lit (.bool false)], args := [d] }
  | _ => none }
def FnExactIsWindowsWrongFalsely : Prop := fnExactIsWindowsRow.holds Try.pinned (OpenSpec.ofChange fnExactIsWindowsWrong)

/-- 'laws.FnExactOpenTime': WHATEVER THE INPUT: true; the input reads as it did. -/
def fnExactOpenTimeSpec : ChangeSpec := { name := "fnExactOpenTime", fn := fun _ => fun
  | [d1, d2, d3] => { results := [.lit (.bool true)], args := [d1, d2, d3] }
  | _ => none }
def fnExactOpenTimeRow : OpenClaim := { program := "ytghpaegabppeaaa", sum := "7409d627f8fe47ae894a3233bc82b4daa5834971ccd77f0a084f12caecb810f2", func := "loop.example/g00887/laws.FnExactOpenTime", spec := "fnExactOpenTime", apart := false }
def FnExactOpenTimeSaid : Prop := fnExactOpenTimeRow.holds Try.pinned (OpenSpec.ofChange fnExactOpenTimeSpec)

/-- ITS FALSE NEIGHBOUR: 'it returns false'. Refute it at one input. -/
def fnExactOpenTimeWrong : ChangeSpec := { name := "fnExactOpenTime", fn := fun _ => fun
  | [d1, d2, d3] => { results := [.lit (.bool false)], args := [d1, d2, d3] }
  | _ => none }
def FnExactOpenTimeWrongFalsely : Prop := fnExactOpenTimeRow.holds Try.pinned (OpenSpec.ofChange fnExactOpenTimeWrong)

/-- 'laws.FnExactNextOpening': WHATEVER THE INPUT: true; the input reads as it did. -/
def fnExactNextOpeningSpec : ChangeSpec := { name := "fnExactNextOpening", fn := fun _ => fun
  | [d1, d2] => { results := [.lit (.bool true)], args := [d1, d2] }
  | _ => none }
def fnExactNextOpeningRow : OpenClaim := { program := "ytghpaegabppeaaa", sum := "7409d627f8fe47ae894a3233bc82b4daa5834971ccd77f0a084f12caecb810f2", func := "loop.example/g00887/laws.FnExactNextOpening", spec := "fnExactNextOpening", apart := false }
def FnExactNextOpeningSaid : Prop := fnExactNextOpeningRow.holds Try.pinned (OpenSpec.ofChange fnExactNextOpeningSpec)

/-- ITS FALSE NEIGHBOUR: 'it returns false'. Refute it at one input. -/
def fnExactNextOpeningWrong : ChangeSpec := { name := "fnExactNextOpening", fn := fun _ => fun
  | [d1, d2] => { results := [.lit (.bool false)], args := [d1, d2] }
  | _ => none }
def FnExactNextOpeningWrongFalsely : Prop := fnExactNextOpeningRow.holds Try.pinned (OpenSpec.ofChange fnExactNextOpeningWrong)

/-- 'laws.FnExactIsOpenAt': WHATEVER THE INPUT: true; the input reads as it did. -/
def fnExactIsOpenAtSpec : ChangeSpec := { name := "fnExactIsOpenAt", fn := fun _ => fun
  | [d1, d2] => { results := [.lit (.bool true)], args := [d1, d2] }
  | _ => none }
def fnExactIsOpenAtRow : OpenClaim := { program := "ytghpaegabppeaaa", sum := "7409d627f8fe47ae894a3233bc82b4daa5834971ccd77f0a084f12caecb810f2", func := "loop.example/g00887/laws.FnExactIsOpenAt", spec := "fnExactIsOpenAt", unfollowed := true, recurses := true, apart := false }
def FnExactIsOpenAtSaid : Prop := fnExactIsOpenAtRow.holds Try.pinned (OpenSpec.ofChange fnExactIsOpenAtSpec)

/-- ITS FALSE NEIGHBOUR: 'it returns false'. Refute it at one input. -/
def fnExactIsOpenAtWrong : ChangeSpec := { name := "fnExactIsOpenAt", fn := fun _ => fun
  | [d1, d2] => { results := [.lit (.bool false)], args := [d1, d2] }
  | _ => none }
def FnExactIsOpenAtWrongFalsely : Prop := fnExactIsOpenAtRow.holds Try.pinned (OpenSpec.ofChange fnExactIsOpenAtWrong)

/-- 'laws.FnExactDeadlineAfter': WHATEVER THE INPUT: true; the input reads as it did. -/
def fnExactDeadlineAfterSpec : ChangeSpec := { name := "fnExactDeadlineAfter", fn := fun _ => fun
  | [d1, d2, d3] => { results := [.lit (.bool true)], args := [d1, d2, d3] }
  | _ => none }
def fnExactDeadlineAfterRow : OpenClaim := { program := "ytghpaegabppeaaa", sum := "7409d627f8fe47ae894a3233bc82b4daa5834971ccd77f0a084f12caecb810f2", func := "loop.example/g00887/laws.FnExactDeadlineAfter", spec := "fnExactDeadlineAfter", apart := false }
def FnExactDeadlineAfterSaid : Prop := fnExactDeadlineAfterRow.holds Try.pinned (OpenSpec.ofChange fnExactDeadlineAfterSpec)

/-- ITS FALSE NEIGHBOUR: 'it returns false'. Refute it at one input. -/
def fnExactDeadlineAfterWrong : ChangeSpec := { name := "fnExactDeadlineAfter", fn := fun _ => fun
  | [d1, d2, d3] => { results := [.lit (.bool false)], args := [d1, d2, d3] }
  | _ => none }
def FnExactDeadlineAfterWrongFalsely : Prop := fnExactDeadlineAfterRow.holds Try.pinned (OpenSpec.ofChange fnExactDeadlineAfterWrong)

/-- 'laws.FnExactIsInTime': WHATEVER THE INPUT: true; the input reads as it did. -/
def fnExactIsInTimeSpec : ChangeSpec := { name := "fnExactIsInTime", fn := fun _ => fun
  | [d1, d2, d3, d4] => { results := [.lit (.bool true)], args := [d1, d2, d3, d4] }
  | _ => none }
def fnExactIsInTimeRow : OpenClaim := { program := "ytghpaegabppeaaa", sum := "7409d627f8fe47ae894a3233bc82b4daa5834971ccd77f0a084f12caecb810f2", func := "loop.example/g00887/laws.FnExactIsInTime", spec := "fnExactIsInTime", apart := false }
def FnExactIsInTimeSaid : Prop := fnExactIsInTimeRow.holds Try.pinned (OpenSpec.ofChange fnExactIsInTimeSpec)

/-- ITS FALSE NEIGHBOUR: 'it returns false'. Refute it at one input. -/
def fnExactIsInTimeWrong : ChangeSpec := { name := "fnExactIsInTime", fn := fun _ => fun
  | [d1, d2, d3, d4] => { results := [.lit (.bool false)], args := [d1, d2, d3, d4] }
  | _ => none }
def FnExactIsInTimeWrongFalsely : Prop := fnExactIsInTimeRow.holds Try.pinned (OpenSpec.ofChange fnExactIsInTimeWrong)

/-- 'laws.FnDeadlines': WHATEVER THE INPUT: true; the input reads as it did. -/
def fnDeadlinesSpec : ChangeSpec := { name := "fnDeadlines", fn := fun _ => fun
  | [d] => { results := [.lit (.bool true)], args := [d] }
  | _ => none }
def fnDeadlinesRow : OpenClaim := { program := "ytghpaegabppeaaa", sum := "7409d627f8fe47ae894a3233bc82b4daa5834971ccd77f0a084f12caecb810f2", func := "loop.example/g00887/laws.FnDeadlines", spec := "fnDeadlines", apart := false }
def FnDeadlinesSaid : Prop := fnDeadlinesRow.holds Try.pinned (OpenSpec.ofChange fnDeadlinesSpec)

/-- ITS FALSE NEIGHBOUR: 'it returns false'. Refute it at one input. -/
def fnDeadlinesWrong : ChangeSpec := { name := "fnDeadlines", fn := fun _ => fun
  | [d] => { results := [.lit (.bool false)], args := [d] }
  | _ => none }
def FnDeadlinesWrongFalsely : Prop := fnDeadlinesRow.holds Try.pinned (OpenSpec.ofChange fnDeadlinesWrong)

/-- 'laws.FnOpenTime': WHATEVER THE INPUT: true; the input reads as it did. -/
def fnOpenTimeSpec : ChangeSpec := { name := "fnOpenTime", fn := fun _ => fun
  | [d] => { results := [.lit (.bool true)], args := [d] }
  | _ => none }
def fnOpenTimeRow : OpenClaim := { program := "ytghpaegabppeaaa", sum := "7409d627f8fe47ae894a3233bc82b4daa5834971ccd77f0a084f12caecb810f2", func := "loop.example/g00887/laws.FnOpenTime", spec := "fnOpenTime", unfollowed := true, recurses := true, apart := false }
def FnOpenTimeSaid : Prop := fnOpenTimeRow.holds Try.pinned (OpenSpec.ofChange fnOpenTimeSpec)

/-- ITS FALSE NEIGHBOUR: 'it returns false'. Refute it at one input. -/
def fnOpenTimeWrong : ChangeSpec := { name := "fnOpenTime", fn := fun _ => fun
  | [d] => { results := [.lit (.bool false)], args := [d] }
  | _ => none }
def FnOpenTimeWrongFalsely : Prop := fnOpenTimeRow.holds Try.pinned (OpenSpec.ofChange fnOpenTimeWrong)

/-- 'laws.FnExactMergeWindows': WHATEVER THE INPUT: true; the input reads as it did. -/
def fnExactMergeWindowsSpec : ChangeSpec := { name := "fnExactMergeWindows", fn := fun _ => fun
  | [d] => { results := [.lit (.bool true)], args := [d] }
  | _ => none }
def fnExactMergeWindowsRow : OpenClaim := { program := "ytghpaegabppeaaa", sum := "7409d627f8fe47ae894a3233bc82b4daa5834971ccd77f0a084f12caecb810f2", func := "loop.example/g00887/laws.FnExactMergeWindows", spec := "fnExactMergeWindows", unfollowed := true, recurses := true, apart := false }
def FnExactMergeWindowsSaid : Prop := fnExactMergeWindowsRow.holds Try.pinned (OpenSpec.ofChange fnExactMergeWindowsSpec)

/-- ITS FALSE NEIGHBOUR: 'it returns false'. Refute it at one input. -/
def fnExactMergeWindowsWrong : ChangeSpec := { name := "fnExactMergeWindows", fn := fun _ => fun
  | [d] => { results := [.lit (.bool false)], args := [d] }
  | _ => none }
def FnExactMergeWindowsWrongFalsely : Prop := fnExactMergeWindowsRow.holds Try.pinned (OpenSpec.ofChange fnExactMergeWindowsWrong)

/-- 'laws.FnMerged': WHATEVER THE INPUT: true; the input reads as it did. -/
def fnMergedSpec : ChangeSpec := { name := "fnMerged", fn := fun _ => fun
  | [d] => { results := [.lit (.bool true)], args := [d] }
  | _ => none }
def fnMergedRow : OpenClaim := { program := "ytghpaegabppeaaa", sum := "7409d627f8fe47ae894a3233bc82b4daa5834971ccd77f0a084f12caecb810f2", func := "loop.example/g00887/laws.FnMerged", spec := "fnMerged", unfollowed := true, recurses := true, apart := false }
def FnMergedSaid : Prop := fnMergedRow.holds Try.pinned (OpenSpec.ofChange fnMergedSpec)

/-- ITS FALSE NEIGHBOUR: 'it returns false'. Refute it at one input. -/
def fnMergedWrong : ChangeSpec := { name := "fnMerged", fn := fun _ => fun
  | [d] => { results := [.lit (.bool false)], args := [d] }
  | _ => none }
def FnMergedWrongFalsely : Prop := fnMergedRow.holds Try.pinned (OpenSpec.ofChange fnMergedWrong)

/- THE SECOND FORM. 'bulk': how many values and letters a reading holds, each counted each time it is reached (what is shared counts as often as it is met; a slice's spare places count too). A statement '..UptoSaid' is the law's where the arguments, and the package variables that the reading takes, are together of bulk at most 1048576: NARROWER than '..Said'. Prove '..Said' where nothing that the law and all that it calls make is longer than what came in: it says more and counts as full. Else prove '..UptoSaid'. A law counts once. -/
mutual
def uptoBulk {H : Type} : DataW H → Nat
  | .lit (.string bytes) => bytes.length + 1
  | .lit _ => 1
  | .nil => 1
  | .ptr d => uptoBulk d + 1
  | .slice elems spare => uptoBulkAll elems + uptoBulkAll spare + 1
  | .agg parts => uptoBulkAll parts + 1
  | .iface _ d => uptoBulk d + 1
  | .map entries => uptoBulkEntries entries + 1
  | .held _ => 1
def uptoBulkAll {H : Type} : List (DataW H) → Nat
  | [] => 0
  | d :: r => uptoBulk d + uptoBulkAll r
def uptoBulkEntries {H : Type} : List (Lit × DataW H) → Nat
  | [] => 0
  | x :: r => uptoBulkEntry x + uptoBulkEntries r
def uptoBulkEntry {H : Type} : Lit × DataW H → Nat
  | (.string bytes, d) => bytes.length + uptoBulk d + 1
  | (_, d) => uptoBulk d + 1
 end
def uptoSmall : (H : Type) → List (DataW H) → Bool := fun _ ds => decide (uptoBulkAll ds ≤ 1048576)
def OpenSpec.upto (s : _root_.Go.ChangeSpec) : _root_.Go.OpenSpec := { _root_.Go.OpenSpec.ofChange s with cond := some uptoSmall }

/-- 'laws.FnExactIsWindows', WHERE WHAT IT READS IS OF BULK AT MOST 1048576: true; the input reads as it did. -/
def fnExactIsWindowsUptoRow : OpenClaim := { program := "ytghpaegabppeaaa", sum := "7409d627f8fe47ae894a3233bc82b4daa5834971ccd77f0a084f12caecb810f2", func := "loop.example/g00887/laws.FnExactIsWindows", spec := "fnExactIsWindows", apart := false, narrowed := true }
def FnExactIsWindowsUptoSaid : Prop := fnExactIsWindowsUptoRow.holds Try.pinned (OpenSpec.upto fnExactIsWindowsSpec)

/-- 'laws.FnExactOpenTime', WHERE WHAT IT READS IS OF BULK AT MOST 1048576: true; the input reads as it did. -/
def fnExactOpenTimeUptoRow : OpenClaim := { program := "ytghpaegabppeaaa", sum := "7409d627f8fe47ae894a3233bc82b4daa5834971ccd77f0a084f12caecb810f2", func := "loop.example/g00887/laws.FnExactOpenTime", spec := "fnExactOpenTime", apart := false, narrowed := true }
def FnExactOpenTimeUptoSaid : Prop := fnExactOpenTimeUptoRow.holds Try.pinned (OpenSpec.upto fnExactOpenTimeSpec)

/-- 'laws.FnExactNextOpening', WHERE WHAT IT READS IS OF BULK AT MOST 1048576: true; the input reads as it did. -/
def fnExactNextOpeningUptoRow : OpenClaim := { program := "ytghpaegabppeaaa", sum := "7409d627f8fe47ae894a3233bc82b4daa5834971ccd77f0a084f12caecb810f2", func := "loop.example/g00887/laws.FnExactNextOpening", spec := "fnExactNextOpening", apart := false, narrowed := true }
def FnExactNextOpeningUptoSaid : Prop := fnExactNextOpeningUptoRow.holds Try.pinned (OpenSpec.upto fnExactNextOpeningSpec)

/-- 'laws.FnExactIsOpenAt', WHERE WHAT IT READS IS OF BULK AT MOST 1048576: true; the input reads as it did. -/
def fnExactIsOpenAtUptoRow : OpenClaim := { program := "ytghpaegabppeaaa", sum := "7409d627f8fe47ae894a3233bc82b4daa5834971ccd77f0a084f12caecb810f2", func := "loop.example/g00887/laws.FnExactIsOpenAt", spec := "fnExactIsOpenAt", unfollowed := true, recurses := true, apart := false, narrowed := true }
def FnExactIsOpenAtUptoSaid : Prop := fnExactIsOpenAtUptoRow.holds Try.pinned (OpenSpec.upto fnExactIsOpenAtSpec)

/-- 'laws.FnExactDeadlineAfter', WHERE WHAT IT READS IS OF BULK AT MOST 1048576: true; the input reads as it did. -/
def fnExactDeadlineAfterUptoRow : OpenClaim := { program := "ytghpaegabppeaaa", sum := "7409d627f8fe47ae894a3233bc82b4daa5834971ccd77f0a084f12caecb810f2", func := "loop.example/g00887/laws.FnExactDeadlineAfter", spec := "fnExactDeadlineAfter", apart := false, narrowed := true }
def FnExactDeadlineAfterUptoSaid : Prop := fnExactDeadlineAfterUptoRow.holds Try.pinned (OpenSpec.upto fnExactDeadlineAfterSpec)

/-- 'laws.FnExactIsInTime', WHERE WHAT IT READS IS OF BULK AT MOST 1048576: true; the input reads as it did. -/
def fnExactIsInTimeUptoRow : OpenClaim := { program := "ytghpaegabppeaaa", sum := "7409d627f8fe47ae894a3233bc82b4daa5834971ccd77f0a084f12caecb810f2", func := "loop.example/g00887/laws.FnExactIsInTime", spec := "fnExactIsInTime", apart := false, narrowed := true }
def FnExactIsInTimeUptoSaid : Prop := fnExactIsInTimeUptoRow.holds Try.pinned (OpenSpec.upto fnExactIsInTimeSpec)

/-- 'laws.FnDeadlines', WHERE WHAT IT READS IS OF BULK AT MOST 1048576: true; the input reads as it did. -/
def fnDeadlinesUptoRow : OpenClaim := { program := "ytghpaegabppeaaa", sum := "7409d627f8fe47ae894a3233bc82b4daa5834971ccd77f0a084f12caecb810f2", func := "loop.example/g00887/laws.FnDeadlines", spec := "fnDeadlines", apart := false, narrowed := true }
def FnDeadlinesUptoSaid : Prop := fnDeadlinesUptoRow.holds Try.pinned (OpenSpec.upto fnDeadlinesSpec)

/-- 'laws.FnOpenTime', WHERE WHAT IT READS IS OF BULK AT MOST 1048576: true; the input reads as it did. -/
def fnOpenTimeUptoRow : OpenClaim := { program := "ytghpaegabppeaaa", sum := "7409d627f8fe47ae894a3233bc82b4daa5834971ccd77f0a084f12caecb810f2", func := "loop.example/g00887/laws.FnOpenTime", spec := "fnOpenTime", unfollowed := true, recurses := true, apart := false, narrowed := true }
def FnOpenTimeUptoSaid : Prop := fnOpenTimeUptoRow.holds Try.pinned (OpenSpec.upto fnOpenTimeSpec)

/-- 'laws.FnExactMergeWindows', WHERE WHAT IT READS IS OF BULK AT MOST 1048576: true; the input reads as it did. -/
def fnExactMergeWindowsUptoRow : OpenClaim := { program := "ytghpaegabppeaaa", sum := "7409d627f8fe47ae894a3233bc82b4daa5834971ccd77f0a084f12caecb810f2", func := "loop.example/g00887/laws.FnExactMergeWindows", spec := "fnExactMergeWindows", unfollowed := true, recurses := true, apart := false, narrowed := true }
def FnExactMergeWindowsUptoSaid : Prop := fnExactMergeWindowsUptoRow.holds Try.pinned (OpenSpec.upto fnExactMergeWindowsSpec)

/-- 'laws.FnMerged', WHERE WHAT IT READS IS OF BULK AT MOST 1048576: true; the input reads as it did. -/
def fnMergedUptoRow : OpenClaim := { program := "ytghpaegabppeaaa", sum := "7409d627f8fe47ae894a3233bc82b4daa5834971ccd77f0a084f12caecb810f2", func := "loop.example/g00887/laws.FnMerged", spec := "fnMerged", unfollowed := true, recurses := true, apart := false, narrowed := true }
def FnMergedUptoSaid : Prop := fnMergedUptoRow.holds Try.pinned (OpenSpec.upto fnMergedSpec)

end Rows
end Go.Proofs.Ytghpaegabppeaaa
