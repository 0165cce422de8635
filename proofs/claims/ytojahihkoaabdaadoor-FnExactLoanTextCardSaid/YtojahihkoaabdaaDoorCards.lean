/-
  DERIVED. GIVEN WITH THE SEED: THE CARDS: each row of YtojahihkoaabdaaDoorRows.lean that lists a variable, with what it lists TIED to the program's text (the seventh form; the later family's looks); each row that meets fmt, with fmt's text TOLD by the authors' own Lean function (tested against real Go, not proved from fmt's source: count such statements apart). THE CARD IS WHAT COUNTS. Prove the row's statement (the work); the ties are given (YtojahihkoaabdaaDoorTie.lean); close each card by the builder's one call (the guide's Derived/Test/ToyasCard.lean, 'card_holds'). Laid BY PROGRAM, IN A SANDBOX (cutbox-door.mjs). By AI agents, Wed Nov 11 2026. No macro, syntax, notation, axiom, sorry.
-/
import Derived.Test.YtojahihkoaabdaaDoorRows
import GoSem.ClaimSeven
namespace Go.Proofs.YtojahihkoaabdaaDoor
namespace Rows

/-- THE TIED CARD OF 'laws.FnExactLoanText'. -/
def fnExactLoanTextCard : Claim7 := { stood := { row := fnExactLoanTextRow, standIns := [], harness := (true, "0547222a2a6720ec1ab00b86ac61aebe1a75a80069bf3f245470d6d7a0e8665a"), looks := false }, kinds := [], alts := [], laidByText := true, laidKinds := [.data, .data, .data], laidTests := true, laidLooks := .later }
def FnExactLoanTextCardSaid : Prop := Claim7.holds Tryd.pinned (.plain (OpenSpec.ofChange fnExactLoanTextSpec)) fnExactLoanTextCard

/-- THE SECOND FORM's CARD OF 'laws.FnExactLoanText'. -/
def fnExactLoanTextUptoCard : Claim7 := { stood := { row := fnExactLoanTextUptoRow, standIns := [], harness := (true, "0547222a2a6720ec1ab00b86ac61aebe1a75a80069bf3f245470d6d7a0e8665a"), looks := false }, kinds := [], alts := [], laidByText := true, laidKinds := [.data, .data, .data], laidTests := true, laidLooks := .later }
def FnExactLoanTextUptoCardSaid : Prop := Claim7.holds Tryd.pinned (.plain (OpenSpec.upto fnExactLoanTextSpec)) fnExactLoanTextUptoCard
end Rows
end Go.Proofs.YtojahihkoaabdaaDoor
