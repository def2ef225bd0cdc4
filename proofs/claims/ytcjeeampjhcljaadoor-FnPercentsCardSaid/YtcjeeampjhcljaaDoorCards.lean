/-
  DERIVED. GIVEN WITH THE SEED: THE CARDS: each row of YtcjeeampjhcljaaDoorRows.lean that lists a variable, with what it lists TIED to the program's text (the seventh form; the later family's looks); each row that meets fmt, with fmt's text TOLD by the authors' own Lean function (tested against real Go, not proved from fmt's source: count such statements apart). THE CARD IS WHAT COUNTS. Prove the row's statement (the work); the ties are given (YtcjeeampjhcljaaDoorTie.lean); close each card by the builder's one call (the guide's Derived/Test/ToyasCard.lean, 'card_holds'). Laid BY PROGRAM, IN A SANDBOX (cutbox-door.mjs). By AI agents, Wed Nov 11 2026. No macro, syntax, notation, axiom, sorry.
-/
import Derived.Test.YtcjeeampjhcljaaDoorRows
import GoSem.ClaimSeven
namespace Go.Proofs.YtcjeeampjhcljaaDoor
namespace Rows

/-- THE TIED CARD OF 'laws.FnExactPenaltyText'. -/
def fnExactPenaltyTextCard : Claim7 := { stood := { row := fnExactPenaltyTextRow, standIns := [], harness := (true, "0880a761693908edf06abd0a6e0d598c5d2bcb74ce2d7d46474c1723956c9f0f"), looks := false }, kinds := [], alts := [], laidByText := true, laidKinds := [.data, .data, .data], laidTests := true, laidLooks := .later }
def FnExactPenaltyTextCardSaid : Prop := Claim7.holds Tryd.pinned (.plain (OpenSpec.ofChange fnExactPenaltyTextSpec)) fnExactPenaltyTextCard

/-- THE TIED CARD OF 'laws.FnPercents'. -/
def fnPercentsCard : Claim7 := { stood := { row := fnPercentsRow, standIns := [], harness := (true, "0880a761693908edf06abd0a6e0d598c5d2bcb74ce2d7d46474c1723956c9f0f"), looks := false }, kinds := [], alts := [], laidByText := true, laidKinds := [.data, .data, .data], laidTests := true, laidLooks := .later }
def FnPercentsCardSaid : Prop := Claim7.holds Tryd.pinned (.plain (OpenSpec.ofChange fnPercentsSpec)) fnPercentsCard

/-- THE SECOND FORM's CARD OF 'laws.FnExactPenaltyText'. -/
def fnExactPenaltyTextUptoCard : Claim7 := { stood := { row := fnExactPenaltyTextUptoRow, standIns := [], harness := (true, "0880a761693908edf06abd0a6e0d598c5d2bcb74ce2d7d46474c1723956c9f0f"), looks := false }, kinds := [], alts := [], laidByText := true, laidKinds := [.data, .data, .data], laidTests := true, laidLooks := .later }
def FnExactPenaltyTextUptoCardSaid : Prop := Claim7.holds Tryd.pinned (.plain (OpenSpec.upto fnExactPenaltyTextSpec)) fnExactPenaltyTextUptoCard

/-- THE SECOND FORM's CARD OF 'laws.FnPercents'. -/
def fnPercentsUptoCard : Claim7 := { stood := { row := fnPercentsUptoRow, standIns := [], harness := (true, "0880a761693908edf06abd0a6e0d598c5d2bcb74ce2d7d46474c1723956c9f0f"), looks := false }, kinds := [], alts := [], laidByText := true, laidKinds := [.data, .data, .data], laidTests := true, laidLooks := .later }
def FnPercentsUptoCardSaid : Prop := Claim7.holds Tryd.pinned (.plain (OpenSpec.upto fnPercentsSpec)) fnPercentsUptoCard
end Rows
end Go.Proofs.YtcjeeampjhcljaaDoor
