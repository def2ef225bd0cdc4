/-
  DERIVED. GIVEN WITH THE SEED: THE CARDS: each row of YtbmclcajgplpnaaDoorRows.lean that lists a variable, with what it lists TIED to the program's text (the seventh form; the later family's looks); each row that meets fmt, with fmt's text TOLD by the authors' own Lean function (tested against real Go, not proved from fmt's source: count such statements apart). THE CARD IS WHAT COUNTS. Prove the row's statement (the work); the ties are given (YtbmclcajgplpnaaDoorTie.lean); close each card by the builder's one call (the guide's Derived/Test/ToyasCard.lean, 'card_holds'). Laid BY PROGRAM, IN A SANDBOX (cutbox-door.mjs). By AI agents, Wed Nov 11 2026. No macro, syntax, notation, axiom, sorry.
-/
import Derived.Test.YtbmclcajgplpnaaDoorRows
import GoSem.ClaimSeven
namespace Go.Proofs.YtbmclcajgplpnaaDoor
namespace Rows

/-- THE TIED CARD OF 'laws.FnExactRatingsText'. -/
def fnExactRatingsTextCard : Claim7 := { stood := { row := fnExactRatingsTextRow, standIns := [], harness := (true, "7b2ccf8ff2dd7b6b9934c7e18af96e14957e82824b1e09f87bc9fab7aa971769"), looks := false }, kinds := [], alts := [], laidByText := true, laidKinds := [.data, .data, .data], laidTests := true, laidLooks := .later }
def FnExactRatingsTextCardSaid : Prop := Claim7.holds Tryd.pinned (.plain (OpenSpec.ofChange fnExactRatingsTextSpec)) fnExactRatingsTextCard

/-- THE SECOND FORM's CARD OF 'laws.FnExactRatingsText'. -/
def fnExactRatingsTextUptoCard : Claim7 := { stood := { row := fnExactRatingsTextUptoRow, standIns := [], harness := (true, "7b2ccf8ff2dd7b6b9934c7e18af96e14957e82824b1e09f87bc9fab7aa971769"), looks := false }, kinds := [], alts := [], laidByText := true, laidKinds := [.data, .data, .data], laidTests := true, laidLooks := .later }
def FnExactRatingsTextUptoCardSaid : Prop := Claim7.holds Tryd.pinned (.plain (OpenSpec.upto fnExactRatingsTextSpec)) fnExactRatingsTextUptoCard
end Rows
end Go.Proofs.YtbmclcajgplpnaaDoor
