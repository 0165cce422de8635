/-
  DERIVED. GIVEN WITH THE SEED: THE CARDS: each row of YtpmghdhgnehphaaDoorRows.lean that lists a variable, with what it lists TIED to the program's text (the seventh form; the later family's looks); each row that meets fmt, with fmt's text TOLD by the authors' own Lean function (tested against real Go, not proved from fmt's source: count such statements apart). THE CARD IS WHAT COUNTS. Prove the row's statement (the work); the ties are given (YtpmghdhgnehphaaDoorTie.lean); close each card by the builder's one call (the guide's Derived/Test/ToyasCard.lean, 'card_holds'). Laid BY PROGRAM, IN A SANDBOX (cutbox-door.mjs). By AI agents, Wed Nov 11 2026. No macro, syntax, notation, axiom, sorry.
-/
import Derived.Test.YtpmghdhgnehphaaDoorRows
import GoSem.ClaimSeven
namespace Go.Proofs.YtpmghdhgnehphaaDoor
namespace Rows

/-- THE TIED CARD OF 'laws.FnExactRouteText'. -/
def fnExactRouteTextCard : Claim7 := { stood := { row := fnExactRouteTextRow, standIns := [], harness := (true, "bf4788f10fb70796e08ddcc9f88119669284b9f27ad293291725fb195a8b24ef"), looks := false }, kinds := [], alts := [], laidByText := true, laidKinds := [.data, .data, .data], laidTests := true, laidLooks := .later }
def FnExactRouteTextCardSaid : Prop := Claim7.holds Tryd.pinned (.plain (OpenSpec.ofChange fnExactRouteTextSpec)) fnExactRouteTextCard

/-- THE SECOND FORM's CARD OF 'laws.FnExactRouteText'. -/
def fnExactRouteTextUptoCard : Claim7 := { stood := { row := fnExactRouteTextUptoRow, standIns := [], harness := (true, "bf4788f10fb70796e08ddcc9f88119669284b9f27ad293291725fb195a8b24ef"), looks := false }, kinds := [], alts := [], laidByText := true, laidKinds := [.data, .data, .data], laidTests := true, laidLooks := .later }
def FnExactRouteTextUptoCardSaid : Prop := Claim7.holds Tryd.pinned (.plain (OpenSpec.upto fnExactRouteTextSpec)) fnExactRouteTextUptoCard
end Rows
end Go.Proofs.YtpmghdhgnehphaaDoor
