/-
  No cell of these rows narrows 'for every input' (looked for: loops, veiled, ifaces, maps, wideKeys, modest, calm, conditions, laid).
  DERIVED. THE GIVEN ROWS OF THIS SEAT. 7 by the template 'for every input the law returns true; each argument reads behind the call as it read before'; 0 by the template 'total and deterministic' (their statements: YteacjoemlobmoaaTotals.lean).
  GIVEN WITH THE SEED: the statements are not yours to turn. If you find one false, say at which input.
  Laid BY PROGRAM, IN A SANDBOX (cutbox-rows.mjs): the forced cells as the released guide's own fill.sh prints them over the translation 306bf14dfb77eba5… (all of the seat's roots in one cut). By AI agents, Wed Nov 11 2026. No macro, syntax, notation, axiom, sorry.
-/
import Derived.Test.YteacjoemlobmoaaChecked
import GoSem.Claim
import GoSem.ClaimJoined
import GoSem.ClaimMapViews
import Derived.JoinedTies
import Derived.KernelRfl
namespace Go.Proofs.Yteacjoemlobmoaa
/- THE CELL 'sum', in the pinned program and in every row, IS THE sha256 OF THE DUMP (.gsa) THAT YteacjoemlobmoaaProg.lean LOADS. Nothing in Lean hashes anything: it is a label: what it is worth is what the hold of that sum in a sandbox is worth. -/
noncomputable def Try.pinned : Pinned := { name := "yteacjoemlobmoaa", sum := "306bf14dfb77eba5c7e3095f0861c545a11ab1914b1b51917e2358e8e92b0dd6", checked := Try.checked }
namespace Rows
def none {H : Type} : Left H := { results := [], args := [] }

/-- 'laws.FnExactIsHistory': WHATEVER THE INPUT: true; the input reads as it did. -/
def fnExactIsHistorySpec : ChangeSpec := { name := "fnExactIsHistory", fn := fun _ => fun
  | [d] => { results := [.lit (.bool true)], args := [d] }
  | _ => none }
def fnExactIsHistoryRow : OpenClaim := { program := "yteacjoemlobmoaa", sum := "306bf14dfb77eba5c7e3095f0861c545a11ab1914b1b51917e2358e8e92b0dd6", func := "loop.example/g00887/laws.FnExactIsHistory", spec := "fnExactIsHistory", apart := false }
def FnExactIsHistorySaid : Prop := fnExactIsHistoryRow.holds Try.pinned (OpenSpec.ofChange fnExactIsHistorySpec)

/-- ITS FALSE NEIGHBOUR: 'it returns false'. Refute it at one input. -/
def fnExactIsHistoryWrong : ChangeSpec := { name := "fnExactIsHistory", fn := fun _ => fun
  | [d] => { results := [.lit (.bool false)], args := [d] }
  | _ => none }
def FnExactIsHistoryWrongFalsely : Prop := fnExactIsHistoryRow.holds Try.pinned (OpenSpec.ofChange fnExactIsHistoryWrong)

/-- 'laws.FnExactIsOpenCase': WHATEVER THE INPUT: true; the input reads as it did. -/
def fnExactIsOpenCaseSpec : ChangeSpec := { name := "fnExactIsOpenCase", fn := fun _ => fun
  | [d] => { results := [.lit (.bool true)], args := [d] }
  | _ => none }
def fnExactIsOpenCaseRow : OpenClaim := { program := "yteacjoemlobmoaa", sum := "306bf14dfb77eba5c7e3095f0861c545a11ab1914b1b51917e2358e8e92b0dd6", func := "loop.example/g00887/laws.FnExactIsOpenCase", spec := "fnExactIsOpenCase", apart := false }
def FnExactIsOpenCaseSaid : Prop := fnExactIsOpenCaseRow.holds Try.pinned (OpenSpec.ofChange fnExactIsOpenCaseSpec)

/-- ITS FALSE NEIGHBOUR: 'it returns false'. Refute it at one input. -/
def fnExactIsOpenCaseWrong : ChangeSpec := { name := "fnExactIsOpenCase", fn := fun _ => fun
  | [d] => { results := [.lit (.bool false)], args := [d] }
  | _ => none }
def FnExactIsOpenCaseWrongFalsely : Prop := fnExactIsOpenCaseRow.holds Try.pinned (OpenSpec.ofChange fnExactIsOpenCaseWrong)

/-- 'laws.FnExactOutcomeOf': WHATEVER THE INPUT: true; the input reads as it did. -/
def fnExactOutcomeOfSpec : ChangeSpec := { name := "fnExactOutcomeOf", fn := fun _ => fun
  | [d] => { results := [.lit (.bool true)], args := [d] }
  | _ => none }
def fnExactOutcomeOfRow : OpenClaim := { program := "yteacjoemlobmoaa", sum := "306bf14dfb77eba5c7e3095f0861c545a11ab1914b1b51917e2358e8e92b0dd6", func := "loop.example/g00887/laws.FnExactOutcomeOf", spec := "fnExactOutcomeOf", unfollowed := true, recurses := true, apart := false }
def FnExactOutcomeOfSaid : Prop := fnExactOutcomeOfRow.holds Try.pinned (OpenSpec.ofChange fnExactOutcomeOfSpec)

/-- ITS FALSE NEIGHBOUR: 'it returns false'. Refute it at one input. -/
def fnExactOutcomeOfWrong : ChangeSpec := { name := "fnExactOutcomeOf", fn := fun _ => fun
  | [d] => { results := [.lit (.bool false)], args := [d] }
  | _ => none }
def FnExactOutcomeOfWrongFalsely : Prop := fnExactOutcomeOfRow.holds Try.pinned (OpenSpec.ofChange fnExactOutcomeOfWrong)

/-- 'laws.FnExactFinalFrom': WHATEVER THE INPUT: true; the input reads as it did. -/
def fnExactFinalFromSpec : ChangeSpec := { name := "fnExactFinalFrom", fn := fun _ => fun
  | [d] => { results := [.lit (.bool true)], args := [d] }
  | _ => none }
def fnExactFinalFromRow : OpenClaim := { program := "yteacjoemlobmoaa", sum := "306bf14dfb77eba5c7e3095f0861c545a11ab1914b1b51917e2358e8e92b0dd6", func := "loop.example/g00887/laws.FnExactFinalFrom", spec := "fnExactFinalFrom", apart := false }
def FnExactFinalFromSaid : Prop := fnExactFinalFromRow.holds Try.pinned (OpenSpec.ofChange fnExactFinalFromSpec)

/-- ITS FALSE NEIGHBOUR: 'it returns false'. Refute it at one input. -/
def fnExactFinalFromWrong : ChangeSpec := { name := "fnExactFinalFrom", fn := fun _ => fun
  | [d] => { results := [.lit (.bool false)], args := [d] }
  | _ => none }
def FnExactFinalFromWrongFalsely : Prop := fnExactFinalFromRow.holds Try.pinned (OpenSpec.ofChange fnExactFinalFromWrong)

/-- 'laws.FnExactRulingsAfter': WHATEVER THE INPUT: true; the input reads as it did. -/
def fnExactRulingsAfterSpec : ChangeSpec := { name := "fnExactRulingsAfter", fn := fun _ => fun
  | [d1, d2] => { results := [.lit (.bool true)], args := [d1, d2] }
  | _ => none }
def fnExactRulingsAfterRow : OpenClaim := { program := "yteacjoemlobmoaa", sum := "306bf14dfb77eba5c7e3095f0861c545a11ab1914b1b51917e2358e8e92b0dd6", func := "loop.example/g00887/laws.FnExactRulingsAfter", spec := "fnExactRulingsAfter", apart := false }
def FnExactRulingsAfterSaid : Prop := fnExactRulingsAfterRow.holds Try.pinned (OpenSpec.ofChange fnExactRulingsAfterSpec)

/-- ITS FALSE NEIGHBOUR: 'it returns false'. Refute it at one input. -/
def fnExactRulingsAfterWrong : ChangeSpec := { name := "fnExactRulingsAfter", fn := fun _ => fun
  | [d1, d2] => { results := [.lit (.bool false)], args := [d1, d2] }
  | _ => none }
def FnExactRulingsAfterWrongFalsely : Prop := fnExactRulingsAfterRow.holds Try.pinned (OpenSpec.ofChange fnExactRulingsAfterWrong)

/-- 'laws.FnExactAddRuling': WHATEVER THE INPUT: true; the input reads as it did. -/
def fnExactAddRulingSpec : ChangeSpec := { name := "fnExactAddRuling", fn := fun _ => fun
  | [d1, d2] => { results := [.lit (.bool true)], args := [d1, d2] }
  | _ => none }
def fnExactAddRulingRow : OpenClaim := { program := "yteacjoemlobmoaa", sum := "306bf14dfb77eba5c7e3095f0861c545a11ab1914b1b51917e2358e8e92b0dd6", func := "loop.example/g00887/laws.FnExactAddRuling", spec := "fnExactAddRuling", apart := false }
def FnExactAddRulingSaid : Prop := fnExactAddRulingRow.holds Try.pinned (OpenSpec.ofChange fnExactAddRulingSpec)

/-- ITS FALSE NEIGHBOUR: 'it returns false'. Refute it at one input. -/
def fnExactAddRulingWrong : ChangeSpec := { name := "fnExactAddRuling", fn := fun _ => fun
  | [d1, d2] => { results := [.lit (.bool false)], args := [d1, d2] }
  | _ => none }
def FnExactAddRulingWrongFalsely : Prop := fnExactAddRulingRow.holds Try.pinned (OpenSpec.ofChange fnExactAddRulingWrong)

/-- 'laws.FnOutcomes': WHATEVER THE INPUT: true; the input reads as it did. -/
def fnOutcomesSpec : ChangeSpec := { name := "fnOutcomes", fn := fun _ => fun
  | [d] => { results := [.lit (.bool true)], args := [d] }
  | _ => none }
def fnOutcomesRow : OpenClaim := { program := "yteacjoemlobmoaa", sum := "306bf14dfb77eba5c7e3095f0861c545a11ab1914b1b51917e2358e8e92b0dd6", func := "loop.example/g00887/laws.FnOutcomes", spec := "fnOutcomes", unfollowed := true, recurses := true, apart := false }
def FnOutcomesSaid : Prop := fnOutcomesRow.holds Try.pinned (OpenSpec.ofChange fnOutcomesSpec)

/-- ITS FALSE NEIGHBOUR: 'it returns false'. Refute it at one input. -/
def fnOutcomesWrong : ChangeSpec := { name := "fnOutcomes", fn := fun _ => fun
  | [d] => { results := [.lit (.bool false)], args := [d] }
  | _ => none }
def FnOutcomesWrongFalsely : Prop := fnOutcomesRow.holds Try.pinned (OpenSpec.ofChange fnOutcomesWrong)

/- THE SECOND FORM. 'bulk': how many values and letters a reading holds, each counted each time it is reached (what is shared counts as often as it is met; a slice's spare places count too). A statement '..UptoSaid' is the law's where the arguments, and the package variables that the reading takes, are together of bulk at most 1048576: NARROWER than '..Said'. Prove '..Said' where nothing that the law and all that it calls make is longer than what came in: it says more and counts as full. Else prove '..UptoSaid'. A law counts once. -/
mutual
def uptoBulk {H : Type} : DataW H → Nat
  | .lit (.string bytes) => bytes.length + 1
  | .lit _ => 1
  | .nil => 1
  | .ptr d => uptoBulk d + 1
  | .slice elems spare => uptoBulkAll elems + uptoBulkAll spare + 1
  | .agg parts => uptoBulkAll parts + 1
  | .iface _ d => uptoBulk d + 1
  | .map entries => uptoBulkEntries entries + 1
  | .held _ => 1
def uptoBulkAll {H : Type} : List (DataW H) → Nat
  | [] => 0
  | d :: r => uptoBulk d + uptoBulkAll r
def uptoBulkEntries {H : Type} : List (Lit × DataW H) → Nat
  | [] => 0
  | x :: r => uptoBulkEntry x + uptoBulkEntries r
def uptoBulkEntry {H : Type} : Lit × DataW H → Nat
  | (.string bytes, d) => bytes.length + uptoBulk d + 1
  | (_, d) => uptoBulk d + 1
 end
def uptoSmall : (H : Type) → List (DataW H) → Bool := fun _ ds => decide (uptoBulkAll ds ≤ 1048576)
def OpenSpec.upto (s : _root_.Go.ChangeSpec) : _root_.Go.OpenSpec := { _root_.Go.OpenSpec.ofChange s with cond := some uptoSmall }

/-- 'laws.FnExactIsHistory', WHERE WHAT IT READS IS OF BULK AT MOST 1048576: true; the input reads as it did. -/
def fnExactIsHistoryUptoRow : OpenClaim := { program := "yteacjoemlobmoaa", sum := "306bf14dfb77eba5c7e3095f0861c545a11ab1914b1b51917e2358e8e92b0dd6", func := "loop.example/g00887/laws.FnExactIsHistory", spec := "fnExactIsHistory", apart := false, narrowed := true }
def FnExactIsHistoryUptoSaid : Prop := fnExactIsHistoryUptoRow.holds Try.pinned (OpenSpec.upto fnExactIsHistorySpec)

/-- 'laws.FnExactIsOpenCase', WHERE WHAT IT READS IS OF BULK AT MOST 1048576: true; the input reads as it did. -/
def fnExactIsOpenCaseUptoRow : OpenClaim := { program := "yteacjoemlobmoaa", sum := "306bf14dfb77eba5c7e3095f0861c545a11ab1914b1b51917e2358e8e92b0dd6", func := "loop.example/g00887/laws.FnExactIsOpenCase", spec := "fnExactIsOpenCase", apart := false, narrowed := true }
def FnExactIsOpenCaseUptoSaid : Prop := fnExactIsOpenCaseUptoRow.holds Try.pinned (OpenSpec.upto fnExactIsOpenCaseSpec)

/-- 'laws.FnExactOutcomeOf', WHERE WHAT IT READS IS OF BULK AT MOST 1048576: true; the input reads as it did. -/
def fnExactOutcomeOfUptoRow : OpenClaim := { program := "yteacjoemlobmoaa", sum := "306bf14dfb77eba5c7e3095f0861c545a11ab1914b1b51917e2358e8e92b0dd6", func := "loop.example/g00887/laws.FnExactOutcomeOf", spec := "fnExactOutcomeOf", unfollowed := true, recurses := true, apart := false, narrowed := true }
def FnExactOutcomeOfUptoSaid : Prop := fnExactOutcomeOfUptoRow.holds Try.pinned (OpenSpec.upto fnExactOutcomeOfSpec)

/-- 'laws.FnExactFinalFrom', WHERE WHAT IT READS IS OF BULK AT MOST 1048576: true; the input reads as it did. -/
def fnExactFinalFromUptoRow : OpenClaim := { program := "yteacjoemlobmoaa", sum := "306bf14dfb77eba5c7e3095f0861c545a11ab1914b1b51917e2358e8e92b0dd6", func := "loop.example/g00887/laws.FnExactFinalFrom", spec := "fnExactFinalFrom", apart := false, narrowed := true }
def FnExactFinalFromUptoSaid : Prop := fnExactFinalFromUptoRow.holds Try.pinned (OpenSpec.upto fnExactFinalFromSpec)

/-- 'laws.FnExactRulingsAfter', WHERE WHAT IT READS IS OF BULK AT MOST 1048576: true; the input reads as it did. -/
def fnExactRulingsAfterUptoRow : OpenClaim := { program := "yteacjoemlobmoaa", sum := "306bf14dfb77eba5c7e3095f0861c545a11ab1914b1b51917e2358e8e92b0dd6", func := "loop.example/g00887/laws.FnExactRulingsAfter", spec := "fnExactRulingsAfter", apart := false, narrowed := true }
def FnExactRulingsAfterUptoSaid : Prop := fnExactRulingsAfterUptoRow.holds Try.pinned (OpenSpec.upto fnExactRulingsAfterSpec)

/-- 'laws.FnExactAddRuling', WHERE WHAT IT READS IS OF BULK AT MOST 1048576: true; the input reads as it did. -/
def fnExactAddRulingUptoRow : OpenClaim := { program := "yteacjoemlobmoaa", sum := "306bf14dfb77eba5c7e3095f0861c545a11ab1914b1b51917e2358e8e92b0dd6", func := "loop.example/g00887/laws.FnExactAddRuling", spec := "fnExactAddRuling", apart := false, narrowed := true }
def FnExactAddRulingUptoSaid : Prop := fnExactAddRulingUptoRow.holds Try.pinned (OpenSpec.upto fnExactAddRulingSpec)

/-- 'laws.FnOutcomes', WHERE WHAT IT READS IS OF BULK AT MOST 1048576: true; the input reads as it did. -/
def fnOutcomesUptoRow : OpenClaim := { program := "yteacjoemlobmoaa", sum := "306bf14dfb77eba5c7e3095f0861c545a11ab1914b1b51917e2358e8e92b0dd6", func := "loop.example/g00887/laws.FnOutcomes", spec := "fnOutcomes", unfollowed := true, recurses := true, apart := false, narrowed := true }
def FnOutcomesUptoSaid : Prop := fnOutcomesUptoRow.holds Try.pinned (OpenSpec.upto fnOutcomesSpec)

end Rows
end Go.Proofs.Yteacjoemlobmoaa
