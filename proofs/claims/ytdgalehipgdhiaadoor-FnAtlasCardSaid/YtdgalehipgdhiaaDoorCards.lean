/-
  DERIVED. GIVEN WITH THE SEED: THE CARDS: each row of YtdgalehipgdhiaaDoorRows.lean that lists a variable, with what it lists TIED to the program's text (the seventh form; the later family's looks); each row that meets fmt, with fmt's text TOLD by the authors' own Lean function (tested against real Go, not proved from fmt's source: count such statements apart). THE CARD IS WHAT COUNTS. Prove the row's statement (the work); the ties are given (YtdgalehipgdhiaaDoorTie.lean); close each card by the builder's one call (the guide's Derived/Test/ToyasCard.lean, 'card_holds'). Laid BY PROGRAM, IN A SANDBOX (cutbox-door.mjs). By AI agents, Wed Nov 11 2026. No macro, syntax, notation, axiom, sorry.
-/
import Derived.Test.YtdgalehipgdhiaaDoorRows
import GoSem.ClaimSeven
namespace Go.Proofs.YtdgalehipgdhiaaDoor
namespace Rows

/-- THE TIED CARD OF 'laws.FnAtlas'. -/
def fnAtlasCard : Claim7 := { stood := { row := fnAtlasRow, standIns := [], harness := (true, "0c955886b28ccb26d3875ddc0e358ac6c4550d3e3d901dd851293185e46f1718"), looks := false }, kinds := [], alts := [], laidByText := true, laidKinds := [.data, .data, .data], laidTests := true, laidLooks := .later }
def FnAtlasCardSaid : Prop := Claim7.holds Tryd.pinned (.plain (OpenSpec.ofChange fnAtlasSpec)) fnAtlasCard

/-- THE TIED CARD OF 'laws.FnExactAtlasText'. -/
def fnExactAtlasTextCard : Claim7 := { stood := { row := fnExactAtlasTextRow, standIns := [], harness := (true, "0c955886b28ccb26d3875ddc0e358ac6c4550d3e3d901dd851293185e46f1718"), looks := false }, kinds := [], alts := [], laidByText := true, laidKinds := [.data, .data, .data], laidTests := true, laidLooks := .later }
def FnExactAtlasTextCardSaid : Prop := Claim7.holds Tryd.pinned (.plain (OpenSpec.ofChange fnExactAtlasTextSpec)) fnExactAtlasTextCard

/-- THE SECOND FORM's CARD OF 'laws.FnAtlas'. -/
def fnAtlasUptoCard : Claim7 := { stood := { row := fnAtlasUptoRow, standIns := [], harness := (true, "0c955886b28ccb26d3875ddc0e358ac6c4550d3e3d901dd851293185e46f1718"), looks := false }, kinds := [], alts := [], laidByText := true, laidKinds := [.data, .data, .data], laidTests := true, laidLooks := .later }
def FnAtlasUptoCardSaid : Prop := Claim7.holds Tryd.pinned (.plain (OpenSpec.upto fnAtlasSpec)) fnAtlasUptoCard

/-- THE SECOND FORM's CARD OF 'laws.FnExactAtlasText'. -/
def fnExactAtlasTextUptoCard : Claim7 := { stood := { row := fnExactAtlasTextUptoRow, standIns := [], harness := (true, "0c955886b28ccb26d3875ddc0e358ac6c4550d3e3d901dd851293185e46f1718"), looks := false }, kinds := [], alts := [], laidByText := true, laidKinds := [.data, .data, .data], laidTests := true, laidLooks := .later }
def FnExactAtlasTextUptoCardSaid : Prop := Claim7.holds Tryd.pinned (.plain (OpenSpec.upto fnExactAtlasTextSpec)) fnExactAtlasTextUptoCard
end Rows
end Go.Proofs.YtdgalehipgdhiaaDoor
