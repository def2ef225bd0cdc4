/-
  DERIVED. GIVEN WITH THE SEED: THE CARDS: each row of YtfllbhgngolfnaaDoorRows.lean that lists a variable, with what it lists TIED to the program's text (the seventh form; the later family's looks); each row that meets fmt, with fmt's text TOLD by the authors' own Lean function (tested against real Go, not proved from fmt's source: count such statements apart). THE CARD IS WHAT COUNTS. Prove the row's statement (the work); the ties are given (YtfllbhgngolfnaaDoorTie.lean); close each card by the builder's one call (the guide's Derived/Test/ToyasCard.lean, 'card_holds'). Laid BY PROGRAM, IN A SANDBOX (cutbox-door.mjs). By AI agents, Wed Nov 11 2026. No macro, syntax, notation, axiom, sorry.
-/
import Derived.Test.YtfllbhgngolfnaaDoorRows
import GoSem.ClaimSeven
namespace Go.Proofs.YtfllbhgngolfnaaDoor
namespace Rows

/-- THE TIED CARD OF 'laws.FnExactCourseDistance'. -/
def fnExactCourseDistanceCard : Claim7 := { stood := { row := fnExactCourseDistanceRow, standIns := [], harness := (true, "55438b772cbb6454839c92a36cb34a1a53adfbc20e25478efe27acc1f56a7a40"), looks := false }, kinds := [], alts := [], laidByText := true, laidKinds := [.data, .pinned], laidTests := true, laidLooks := .later }
def FnExactCourseDistanceCardSaid : Prop := Claim7.holds Tryd.pinned (.plain (OpenSpec.ofChange fnExactCourseDistanceSpec)) fnExactCourseDistanceCard

/-- THE SECOND FORM's CARD OF 'laws.FnExactCourseDistance'. -/
def fnExactCourseDistanceUptoCard : Claim7 := { stood := { row := fnExactCourseDistanceUptoRow, standIns := [], harness := (true, "55438b772cbb6454839c92a36cb34a1a53adfbc20e25478efe27acc1f56a7a40"), looks := false }, kinds := [], alts := [], laidByText := true, laidKinds := [.data, .pinned], laidTests := true, laidLooks := .later }
def FnExactCourseDistanceUptoCardSaid : Prop := Claim7.holds Tryd.pinned (.plain (OpenSpec.upto fnExactCourseDistanceSpec)) fnExactCourseDistanceUptoCard
end Rows
end Go.Proofs.YtfllbhgngolfnaaDoor
