/-
  DERIVED. GIVEN WITH THE SEED: THE CARDS: each row of YteacjoemlobmoaaDoorRows.lean that lists a variable, with what it lists TIED to the program's text (the seventh form; the later family's looks); each row that meets fmt, with fmt's text TOLD by the authors' own Lean function (tested against real Go, not proved from fmt's source: count such statements apart). THE CARD IS WHAT COUNTS. Prove the row's statement (the work); the ties are given (YteacjoemlobmoaaDoorTie.lean); close each card by the builder's one call (the guide's Derived/Test/ToyasCard.lean, 'card_holds'). Laid BY PROGRAM, IN A SANDBOX (cutbox-door.mjs). By AI agents, Wed Nov 11 2026. No macro, syntax, notation, axiom, sorry.
-/
import Derived.Test.YteacjoemlobmoaaDoorRows
import GoSem.ClaimSeven
namespace Go.Proofs.YteacjoemlobmoaaDoor
namespace Rows

/-- THE TIED CARD OF 'laws.FnExactAppealText'. -/
def fnExactAppealTextCard : Claim7 := { stood := { row := fnExactAppealTextRow, standIns := [], harness := (true, "37addde3e4124c8c292dab7a36e961d8f942bd72bb8e0175d1c7a9806e6cabb8"), looks := false }, kinds := [], alts := [], laidByText := true, laidKinds := [.data, .data, .data], laidTests := true, laidLooks := .later }
def FnExactAppealTextCardSaid : Prop := Claim7.holds Tryd.pinned (.plain (OpenSpec.ofChange fnExactAppealTextSpec)) fnExactAppealTextCard

/-- THE TIED CARD OF 'laws.FnRulings'. -/
def fnRulingsCard : Claim7 := { stood := { row := fnRulingsRow, standIns := [], harness := (true, "37addde3e4124c8c292dab7a36e961d8f942bd72bb8e0175d1c7a9806e6cabb8"), looks := false }, kinds := [], alts := [], laidByText := true, laidKinds := [.data, .data, .data], laidTests := true, laidLooks := .later }
def FnRulingsCardSaid : Prop := Claim7.holds Tryd.pinned (.plain (OpenSpec.ofChange fnRulingsSpec)) fnRulingsCard

/-- THE SECOND FORM's CARD OF 'laws.FnExactAppealText'. -/
def fnExactAppealTextUptoCard : Claim7 := { stood := { row := fnExactAppealTextUptoRow, standIns := [], harness := (true, "37addde3e4124c8c292dab7a36e961d8f942bd72bb8e0175d1c7a9806e6cabb8"), looks := false }, kinds := [], alts := [], laidByText := true, laidKinds := [.data, .data, .data], laidTests := true, laidLooks := .later }
def FnExactAppealTextUptoCardSaid : Prop := Claim7.holds Tryd.pinned (.plain (OpenSpec.upto fnExactAppealTextSpec)) fnExactAppealTextUptoCard

/-- THE SECOND FORM's CARD OF 'laws.FnRulings'. -/
def fnRulingsUptoCard : Claim7 := { stood := { row := fnRulingsUptoRow, standIns := [], harness := (true, "37addde3e4124c8c292dab7a36e961d8f942bd72bb8e0175d1c7a9806e6cabb8"), looks := false }, kinds := [], alts := [], laidByText := true, laidKinds := [.data, .data, .data], laidTests := true, laidLooks := .later }
def FnRulingsUptoCardSaid : Prop := Claim7.holds Tryd.pinned (.plain (OpenSpec.upto fnRulingsSpec)) fnRulingsUptoCard
end Rows
end Go.Proofs.YteacjoemlobmoaaDoor
