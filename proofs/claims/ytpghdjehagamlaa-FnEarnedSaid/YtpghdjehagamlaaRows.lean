/-
  No cell of these rows narrows 'for every input' (looked for: loops, veiled, ifaces, maps, wideKeys, modest, calm, conditions, laid).
  DERIVED. THE GIVEN ROWS OF THIS SEAT. 4 by the template 'for every input the law returns true; each argument reads behind the call as it read before'; 0 by the template 'total and deterministic' (their statements: YtpghdjehagamlaaTotals.lean).
  GIVEN WITH THE SEED: the statements are not yours to turn. If you find one false, say at which input.
  Laid BY PROGRAM, IN A SANDBOX (cutbox-rows.mjs): the forced cells as the released guide's own fill.sh prints them over the translation 455e6d7470df75fe… (all of the seat's roots in one cut). By AI agents, Wed Nov 11 2026. No macro, syntax, notation, axiom, sorry.
-/
import Derived.Test.YtpghdjehagamlaaChecked
import GoSem.Claim
import GoSem.ClaimJoined
import GoSem.ClaimMapViews
import Derived.JoinedTies
import Derived.KernelRfl
namespace Go.Proofs.Ytpghdjehagamlaa
/- THE CELL 'sum', in the pinned program and in every row, IS THE sha256 OF THE DUMP (.gsa) THAT YtpghdjehagamlaaProg.lean LOADS. Nothing in Lean hashes anything: it is a label: what it is worth is what the hold of that sum in a sandbox is worth. -/
noncomputable def Try.pinned : Pinned := { name := "ytpghdjehagamlaa", sum := "455e6d7470df75fed262dc681eec2315c9563f3b6d60ecc9f2e0613ca52682f8", checked := Try.checked }
namespace Rows
def none {H : Type} : Left H := { results := [], args := [] }

/-- 'laws.FnExactCopySheet': WHATEVER THE INPUT: true; the input reads as it did. -/
def fnExactCopySheetSpec : ChangeSpec := { name := "fnExactCopySheet", fn := fun _ => fun
  | [d1, d2, d3] => { results := [.lit (.bool true)], args := [d1, d2, d3] }
  | _ => none }
def fnExactCopySheetRow : OpenClaim := { program := "ytpghdjehagamlaa", sum := "455e6d7470df75fed262dc681eec2315c9563f3b6d60ecc9f2e0613ca52682f8", func := "loop.example/g01060/laws.FnExactCopySheet", spec := "fnExactCopySheet", unfollowed := true, recurses := true, apart := false }
def FnExactCopySheetSaid : Prop := fnExactCopySheetRow.holds Try.pinned (OpenSpec.ofChange fnExactCopySheetSpec)

/-- ITS FALSE NEIGHBOUR: 'it returns false'. Refute it at one input. -/
def fnExactCopySheetWrong : ChangeSpec := { name := "fnExactCopySheet", fn := fun _ => fun
  | [d1, d2, d3] => { results := [.lit (.bool false)], args := [d1, d2, d3] }
  | _ => none }
def FnExactCopySheetWrongFalsely : Prop := fnExactCopySheetRow.holds Try.pinned (OpenSpec.ofChange fnExactCopySheetWrong)

/-- 'laws.FnRights': WHATEVER THE INPUT: true; the input reads as it did. -/
def fnRightsSpec : ChangeSpec := { name := "fnRights", fn := fun _ => fun
  | [d] => { results := [.lit (.bool true)], args := [d] }
  | _ => none }
def fnRightsRow : OpenClaim := { program := "ytpghdjehagamlaa", sum := "455e6d7470df75fed262dc681eec2315c9563f3b6d60ecc9f2e0613ca52682f8", func := "loop.example/g01060/laws.FnRights", spec := "fnRights", unfollowed := true, recurses := true, apart := false }
def FnRightsSaid : Prop := fnRightsRow.holds Try.pinned (OpenSpec.ofChange fnRightsSpec)

/-- ITS FALSE NEIGHBOUR: 'it returns false'. Refute it at one input. -/
def fnRightsWrong : ChangeSpec := { name := "fnRights", fn := fun _ => fun
  | [d] => { results := [.lit (.bool false)], args := [d] }
  | _ => none }
def FnRightsWrongFalsely : Prop := fnRightsRow.holds Try.pinned (OpenSpec.ofChange fnRightsWrong)

/-- 'laws.FnExactBestEarners': WHATEVER THE INPUT: true; the input reads as it did. -/
def fnExactBestEarnersSpec : ChangeSpec := { name := "fnExactBestEarners", fn := fun _ => fun
  | [d1, d2, d3] => { results := [.lit (.bool true)], args := [d1, d2, d3] }
  | _ => none }
def fnExactBestEarnersRow : OpenClaim := { program := "ytpghdjehagamlaa", sum := "455e6d7470df75fed262dc681eec2315c9563f3b6d60ecc9f2e0613ca52682f8", func := "loop.example/g01060/laws.FnExactBestEarners", spec := "fnExactBestEarners", unfollowed := true, recurses := true, apart := false }
def FnExactBestEarnersSaid : Prop := fnExactBestEarnersRow.holds Try.pinned (OpenSpec.ofChange fnExactBestEarnersSpec)

/-- ITS FALSE NEIGHBOUR: 'it returns false'. Refute it at one input. -/
def fnExactBestEarnersWrong : ChangeSpec := { name := "fnExactBestEarners", fn := fun _ => fun
  | [d1, d2, d3] => { results := [.lit (.bool false)], args := [d1, d2, d3] }
  | _ => none }
def FnExactBestEarnersWrongFalsely : Prop := fnExactBestEarnersRow.holds Try.pinned (OpenSpec.ofChange fnExactBestEarnersWrong)

/-- 'laws.FnEarned': WHATEVER THE INPUT: true; the input reads as it did. -/
def fnEarnedSpec : ChangeSpec := { name := "fnEarned", fn := fun _ => fun
  | [d] => { results := [.lit (.bool true)], args := [d] }
  | _ => none }
def fnEarnedRow : OpenClaim := { program := "ytpghdjehagamlaa", sum := "455e6d7470df75fed262dc681eec2315c9563f3b6d60ecc9f2e0613ca52682f8", func := "loop.example/g01060/laws.FnEarned", spec := "fnEarned", unfollowed := true, recurses := true, apart := false }
def FnEarnedSaid : Prop := fnEarnedRow.holds Try.pinned (OpenSpec.ofChange fnEarnedSpec)

/-- ITS FALSE NEIGHBOUR: 'it returns false'. Refute it at one input. -/
def fnEarnedWrong : ChangeSpec := { name := "fnEarned", fn := fun _ => fun
  | [d] => { results := [.lit (.bool false)], args := [d] }
  | _ => none }
def FnEarnedWrongFalsely : Prop := fnEarnedRow.holds Try.pinned (OpenSpec.ofChange fnEarnedWrong)

/- THE SECOND FORM. 'bulk': how many values and letters a reading holds, each counted each time it is reached (what is shared counts as often as it is met; a slice's spare places count too). A statement '..UptoSaid' is the law's where the arguments, and the package variables that the reading takes, are together of bulk at most 1048576: NARROWER than '..Said'. Prove '..Said' where nothing that the law and all that it calls make is longer than what came in: it says more and counts as full. Else prove '..UptoSaid'. A law counts once. -/
mutual
def uptoBulk {H : Type} : DataW H → Nat
  | .lit (.string bytes) => bytes.length + 1
  | .lit _ => 1
  | .nil => 1
  | .ptr d => uptoBulk d + 1
  | .slice elems spare => uptoBulkAll elems + uptoBulkAll spare + 1
  | .agg parts => uptoBulkAll parts + 1
  | .iface _ d => uptoBulk d + 1
  | .map entries => uptoBulkEntries entries + 1
  | .held _ => 1
def uptoBulkAll {H : Type} : List (DataW H) → Nat
  | [] => 0
  | d :: r => uptoBulk d + uptoBulkAll r
def uptoBulkEntries {H : Type} : List (Lit × DataW H) → Nat
  | [] => 0
  | x :: r => uptoBulkEntry x + uptoBulkEntries r
def uptoBulkEntry {H : Type} : Lit × DataW H → Nat
  | (.string bytes, d) => bytes.length + uptoBulk d + 1
  | (_, d) => uptoBulk d + 1
 end
def uptoSmall : (H : Type) → List (DataW H) → Bool := fun _ ds => decide (uptoBulkAll ds ≤ 1048576)
def OpenSpec.upto (s : _root_.Go.ChangeSpec) : _root_.Go.OpenSpec := { _root_.Go.OpenSpec.ofChange s with cond := some uptoSmall }

/-- 'laws.FnExactCopySheet', WHERE WHAT IT READS IS OF BULK AT MOST 1048576: true; the input reads as it did. -/
def fnExactCopySheetUptoRow : OpenClaim := { program := "ytpghdjehagamlaa", sum := "455e6d7470df75fed262dc681eec2315c9563f3b6d60ecc9f2e0613ca52682f8", func := "loop.example/g01060/laws.FnExactCopySheet", spec := "fnExactCopySheet", unfollowed := true, recurses := true, apart := false, narrowed := true }
def FnExactCopySheetUptoSaid : Prop := fnExactCopySheetUptoRow.holds Try.pinned (OpenSpec.upto fnExactCopySheetSpec)

/-- 'laws.FnRights', WHERE WHAT IT READS IS OF BULK AT MOST 1048576: true; the input reads as it did. -/
def fnRightsUptoRow : OpenClaim := { program := "ytpghdjehagamlaa", sum := "455e6d7470df75fed262dc681eec2315c9563f3b6d60ecc9f2e0613ca52682f8", func := "loop.example/g01060/laws.FnRights", spec := "fnRights", unfollowed := true, recurses := true, apart := false, narrowed := true }
def FnRightsUptoSaid : Prop := fnRightsUptoRow.holds Try.pinned (OpenSpec.upto fnRightsSpec)

/-- 'laws.FnExactBestEarners', WHERE WHAT IT READS IS OF BULK AT MOST 1048576: true; the input reads as it did. -/
def fnExactBestEarnersUptoRow : OpenClaim := { program := "ytpghdjehagamlaa", sum := "455e6d7470df75fed262dc681eec2315c9563f3b6d60ecc9f2e0613ca52682f8", func := "loop.example/g01060/laws.FnExactBestEarners", spec := "fnExactBestEarners", unfollowed := true, recurses := true, apart := false, narrowed := true }
def FnExactBestEarnersUptoSaid : Prop := fnExactBestEarnersUptoRow.holds Try.pinned (OpenSpec.upto fnExactBestEarnersSpec)

/-- 'laws.FnEarned', WHERE WHAT IT READS IS OF BULK AT MOST 1048576: true; the input reads as it did. -/
def fnEarnedUptoRow : OpenClaim := { program := "ytpghdjehagamlaa", sum := "455e6d7470df75fed262dc681eec2315c9563f3b6d60ecc9f2e0613ca52682f8", func := "loop.example/g01060/laws.FnEarned", spec := "fnEarned", unfollowed := true, recurses := true, apart := false, narrowed := true }
def FnEarnedUptoSaid : Prop := fnEarnedUptoRow.holds Try.pinned (OpenSpec.upto fnEarnedSpec)

end Rows
end Go.Proofs.Ytpghdjehagamlaa
