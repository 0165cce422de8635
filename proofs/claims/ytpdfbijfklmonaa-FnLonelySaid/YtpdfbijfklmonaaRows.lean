/-
  No cell of these rows narrows 'for every input' (looked for: loops, veiled, ifaces, maps, wideKeys, modest, calm, conditions, laid).
  DERIVED. THE GIVEN ROWS OF THIS SEAT. 9 by the template 'for every input the law returns true; each argument reads behind the call as it read before'; 0 by the template 'total and deterministic' (their statements: YtpdfbijfklmonaaTotals.lean).
  GIVEN WITH THE SEED: the statements are not yours to turn. If you find one false, say at which input.
  Laid BY PROGRAM, IN A SANDBOX (cutbox-rows.mjs): the forced cells as the released guide's own fill.sh prints them over the translation 7f835dfab39adf42… (all of the seat's roots in one cut). By AI agents, Wed Nov 11 2026. No macro, syntax, notation, axiom, sorry.
-/
import Derived.Test.YtpdfbijfklmonaaChecked
import GoSem.Claim
import GoSem.ClaimJoined
import GoSem.ClaimMapViews
import Derived.JoinedTies
import Derived.KernelRfl
namespace Go.Proofs.Ytpdfbijfklmonaa
/- THE CELL 'sum', in the pinned program and in every row, IS THE sha256 OF THE DUMP (.gsa) THAT YtpdfbijfklmonaaProg.lean LOADS. Nothing in Lean hashes anything: it is a label: what it is worth is what the hold of that sum in a sandbox is worth. -/
noncomputable def Try.pinned : Pinned := { name := "ytpdfbijfklmonaa", sum := "7f835dfab39adf4272701fe1da395ede41a488b24afae9fca40a3b18d37ca9a7", checked := Try.checked }
namespace Rows
def none {H : Type} : Left H := { results := [], args := [] }

/-- 'laws.FnExactOnlyShownBy': WHATEVER THE INPUT: true; the input reads as it did. -/
def fnExactOnlyShownBySpec : ChangeSpec := { name := "fnExactOnlyShownBy", fn := fun _ => fun
  | [d1, d2, d3, d4] => { results := [.lit (.bool true)], args := [d1, d2, d3, d4] }
  | _ => none }
def fnExactOnlyShownByRow : OpenClaim := { program := "ytpdfbijfklmonaa", sum := "7f835dfab39adf4272701fe1da395ede41a488b24afae9fca40a3b18d37ca9a7", func := "loop.example/g01060/laws.FnExactOnlyShownBy", spec := "fnExactOnlyShownBy", unfollowed := true, recurses := true, apart := false }
def FnExactOnlyShownBySaid : Prop := fnExactOnlyShownByRow.holds Try.pinned (OpenSpec.ofChange fnExactOnlyShownBySpec)

/-- ITS FALSE NEIGHBOUR: 'it returns false'. Refute it at one input. -/
def fnExactOnlyShownByWrong : ChangeSpec := { name := "fnExactOnlyShownBy", fn := fun _ => fun
  | [d1, d2, d3, d4] => { results := [.lit (.bool false)], args := [d1, d2, d3, d4] }
  | _ => none }
def FnExactOnlyShownByWrongFalsely : Prop := fnExactOnlyShownByRow.holds Try.pinned (OpenSpec.ofChange fnExactOnlyShownByWrong)

/-- 'laws.FnExactIsMosaic': WHATEVER THE INPUT: true; the input reads as it did. -/
def fnExactIsMosaicSpec : ChangeSpec := { name := "fnExactIsMosaic", fn := fun _ => fun
  | [d1, d2, d3, d4] => { results := [.lit (.bool true)], args := [d1, d2, d3, d4] }
  | _ => none }
def fnExactIsMosaicRow : OpenClaim := { program := "ytpdfbijfklmonaa", sum := "7f835dfab39adf4272701fe1da395ede41a488b24afae9fca40a3b18d37ca9a7", func := "loop.example/g01060/laws.FnExactIsMosaic", spec := "fnExactIsMosaic", unfollowed := true, recurses := true, apart := false }
def FnExactIsMosaicSaid : Prop := fnExactIsMosaicRow.holds Try.pinned (OpenSpec.ofChange fnExactIsMosaicSpec)

/-- ITS FALSE NEIGHBOUR: 'it returns false'. Refute it at one input. -/
def fnExactIsMosaicWrong : ChangeSpec := { name := "fnExactIsMosaic", fn := fun _ => fun
  | [d1, d2, d3, d4] => { results := [.lit (.bool false)], args := [d1, d2, d3, d4] }
  | _ => none }
def FnExactIsMosaicWrongFalsely : Prop := fnExactIsMosaicRow.holds Try.pinned (OpenSpec.ofChange fnExactIsMosaicWrong)

/-- 'laws.FnExactAreLonely': WHATEVER THE INPUT: true; the input reads as it did. -/
def fnExactAreLonelySpec : ChangeSpec := { name := "fnExactAreLonely", fn := fun _ => fun
  | [d1, d2, d3, d4] => { results := [.lit (.bool true)], args := [d1, d2, d3, d4] }
  | _ => none }
def fnExactAreLonelyRow : OpenClaim := { program := "ytpdfbijfklmonaa", sum := "7f835dfab39adf4272701fe1da395ede41a488b24afae9fca40a3b18d37ca9a7", func := "loop.example/g01060/laws.FnExactAreLonely", spec := "fnExactAreLonely", unfollowed := true, recurses := true, apart := false }
def FnExactAreLonelySaid : Prop := fnExactAreLonelyRow.holds Try.pinned (OpenSpec.ofChange fnExactAreLonelySpec)

/-- ITS FALSE NEIGHBOUR: 'it returns false'. Refute it at one input. -/
def fnExactAreLonelyWrong : ChangeSpec := { name := "fnExactAreLonely", fn := fun _ => fun
  | [d1, d2, d3, d4] => { results := [.lit (.bool false)], args := [d1, d2, d3, d4] }
  | _ => none }
def FnExactAreLonelyWrongFalsely : Prop := fnExactAreLonelyRow.holds Try.pinned (OpenSpec.ofChange fnExactAreLonelyWrong)

/-- 'laws.FnExactProvesFewest': WHATEVER THE INPUT: true; the input reads as it did. -/
def fnExactProvesFewestSpec : ChangeSpec := { name := "fnExactProvesFewest", fn := fun _ => fun
  | [d1, d2, d3, d4, d5] => { results := [.lit (.bool true)], args := [d1, d2, d3, d4, d5] }
  | _ => none }
def fnExactProvesFewestRow : OpenClaim := { program := "ytpdfbijfklmonaa", sum := "7f835dfab39adf4272701fe1da395ede41a488b24afae9fca40a3b18d37ca9a7", func := "loop.example/g01060/laws.FnExactProvesFewest", spec := "fnExactProvesFewest", unfollowed := true, recurses := true, apart := false }
def FnExactProvesFewestSaid : Prop := fnExactProvesFewestRow.holds Try.pinned (OpenSpec.ofChange fnExactProvesFewestSpec)

/-- ITS FALSE NEIGHBOUR: 'it returns false'. Refute it at one input. -/
def fnExactProvesFewestWrong : ChangeSpec := { name := "fnExactProvesFewest", fn := fun _ => fun
  | [d1, d2, d3, d4, d5] => { results := [.lit (.bool false)], args := [d1, d2, d3, d4, d5] }
  | _ => none }
def FnExactProvesFewestWrongFalsely : Prop := fnExactProvesFewestRow.holds Try.pinned (OpenSpec.ofChange fnExactProvesFewestWrong)

/-- 'laws.FnExactNeedlessCovers': WHATEVER THE INPUT: true; the input reads as it did. -/
def fnExactNeedlessCoversSpec : ChangeSpec := { name := "fnExactNeedlessCovers", fn := fun _ => fun
  | [d1, d2, d3, d4] => { results := [.lit (.bool true)], args := [d1, d2, d3, d4] }
  | _ => none }
def fnExactNeedlessCoversRow : OpenClaim := { program := "ytpdfbijfklmonaa", sum := "7f835dfab39adf4272701fe1da395ede41a488b24afae9fca40a3b18d37ca9a7", func := "loop.example/g01060/laws.FnExactNeedlessCovers", spec := "fnExactNeedlessCovers", unfollowed := true, recurses := true, apart := false }
def FnExactNeedlessCoversSaid : Prop := fnExactNeedlessCoversRow.holds Try.pinned (OpenSpec.ofChange fnExactNeedlessCoversSpec)

/-- ITS FALSE NEIGHBOUR: 'it returns false'. Refute it at one input. -/
def fnExactNeedlessCoversWrong : ChangeSpec := { name := "fnExactNeedlessCovers", fn := fun _ => fun
  | [d1, d2, d3, d4] => { results := [.lit (.bool false)], args := [d1, d2, d3, d4] }
  | _ => none }
def FnExactNeedlessCoversWrongFalsely : Prop := fnExactNeedlessCoversRow.holds Try.pinned (OpenSpec.ofChange fnExactNeedlessCoversWrong)

/-- 'laws.FnExactFewestCovers': WHATEVER THE INPUT: true; the input reads as it did. -/
def fnExactFewestCoversSpec : ChangeSpec := { name := "fnExactFewestCovers", fn := fun _ => fun
  | [d1, d2, d3] => { results := [.lit (.bool true)], args := [d1, d2, d3] }
  | _ => none }
def fnExactFewestCoversRow : OpenClaim := { program := "ytpdfbijfklmonaa", sum := "7f835dfab39adf4272701fe1da395ede41a488b24afae9fca40a3b18d37ca9a7", func := "loop.example/g01060/laws.FnExactFewestCovers", spec := "fnExactFewestCovers", unfollowed := true, recurses := true, apart := false }
def FnExactFewestCoversSaid : Prop := fnExactFewestCoversRow.holds Try.pinned (OpenSpec.ofChange fnExactFewestCoversSpec)

/-- ITS FALSE NEIGHBOUR: 'it returns false'. Refute it at one input. -/
def fnExactFewestCoversWrong : ChangeSpec := { name := "fnExactFewestCovers", fn := fun _ => fun
  | [d1, d2, d3] => { results := [.lit (.bool false)], args := [d1, d2, d3] }
  | _ => none }
def FnExactFewestCoversWrongFalsely : Prop := fnExactFewestCoversRow.holds Try.pinned (OpenSpec.ofChange fnExactFewestCoversWrong)

/-- 'laws.FnExactCheapestCovers': WHATEVER THE INPUT: true; the input reads as it did. -/
def fnExactCheapestCoversSpec : ChangeSpec := { name := "fnExactCheapestCovers", fn := fun _ => fun
  | [d1, d2, d3] => { results := [.lit (.bool true)], args := [d1, d2, d3] }
  | _ => none }
def fnExactCheapestCoversRow : OpenClaim := { program := "ytpdfbijfklmonaa", sum := "7f835dfab39adf4272701fe1da395ede41a488b24afae9fca40a3b18d37ca9a7", func := "loop.example/g01060/laws.FnExactCheapestCovers", spec := "fnExactCheapestCovers", unfollowed := true, recurses := true, apart := false }
def FnExactCheapestCoversSaid : Prop := fnExactCheapestCoversRow.holds Try.pinned (OpenSpec.ofChange fnExactCheapestCoversSpec)

/-- ITS FALSE NEIGHBOUR: 'it returns false'. Refute it at one input. -/
def fnExactCheapestCoversWrong : ChangeSpec := { name := "fnExactCheapestCovers", fn := fun _ => fun
  | [d1, d2, d3] => { results := [.lit (.bool false)], args := [d1, d2, d3] }
  | _ => none }
def FnExactCheapestCoversWrongFalsely : Prop := fnExactCheapestCoversRow.holds Try.pinned (OpenSpec.ofChange fnExactCheapestCoversWrong)

/-- 'laws.FnMosaics': WHATEVER THE INPUT: true; the input reads as it did. -/
def fnMosaicsSpec : ChangeSpec := { name := "fnMosaics", fn := fun _ => fun
  | [d] => { results := [.lit (.bool true)], args := [d] }
  | _ => none }
def fnMosaicsRow : OpenClaim := { program := "ytpdfbijfklmonaa", sum := "7f835dfab39adf4272701fe1da395ede41a488b24afae9fca40a3b18d37ca9a7", func := "loop.example/g01060/laws.FnMosaics", spec := "fnMosaics", unfollowed := true, recurses := true, apart := false }
def FnMosaicsSaid : Prop := fnMosaicsRow.holds Try.pinned (OpenSpec.ofChange fnMosaicsSpec)

/-- ITS FALSE NEIGHBOUR: 'it returns false'. Refute it at one input. -/
def fnMosaicsWrong : ChangeSpec := { name := "fnMosaics", fn := fun _ => fun
  | [d] => { results := [.lit (.bool false)], args := [d] }
  | _ => none }
def FnMosaicsWrongFalsely : Prop := fnMosaicsRow.holds Try.pinned (OpenSpec.ofChange fnMosaicsWrong)

/-- 'laws.FnLonely': WHATEVER THE INPUT: true; the input reads as it did. -/
def fnLonelySpec : ChangeSpec := { name := "fnLonely", fn := fun _ => fun
  | [d] => { results := [.lit (.bool true)], args := [d] }
  | _ => none }
def fnLonelyRow : OpenClaim := { program := "ytpdfbijfklmonaa", sum := "7f835dfab39adf4272701fe1da395ede41a488b24afae9fca40a3b18d37ca9a7", func := "loop.example/g01060/laws.FnLonely", spec := "fnLonely", unfollowed := true, recurses := true, apart := false }
def FnLonelySaid : Prop := fnLonelyRow.holds Try.pinned (OpenSpec.ofChange fnLonelySpec)

/-- ITS FALSE NEIGHBOUR: 'it returns false'. Refute it at one input. -/
def fnLonelyWrong : ChangeSpec := { name := "fnLonely", fn := fun _ => fun
  | [d] => { results := [.lit (.bool false)], args := [d] }
  | _ => none }
def FnLonelyWrongFalsely : Prop := fnLonelyRow.holds Try.pinned (OpenSpec.ofChange fnLonelyWrong)

/- THE SECOND FORM. 'bulk': how many values and letters a reading holds, each counted each time it is reached (what is shared counts as often as it is met; a slice's spare places count too). A statement '..UptoSaid' is the law's where the arguments, and the package variables that the reading takes, are together of bulk at most 1048576: NARROWER than '..Said'. Prove '..Said' where nothing that the law and all that it calls make is longer than what came in: it says more and counts as full. Else prove '..UptoSaid'. A law counts once. -/
mutual
def uptoBulk {H : Type} : DataW H → Nat
  | .lit (.string bytes) => bytes.length + 1
  | .lit _ => 1
  | .nil => 1
  | .ptr d => uptoBulk d + 1
  | .slice elems spare => uptoBulkAll elems + uptoBulkAll spare + 1
  | .agg parts => uptoBulkAll parts + 1
  | .iface _ d => uptoBulk d + 1
  | .map entries => uptoBulkEntries entries + 1
  | .held _ => 1
def uptoBulkAll {H : Type} : List (DataW H) → Nat
  | [] => 0
  | d :: r => uptoBulk d + uptoBulkAll r
def uptoBulkEntries {H : Type} : List (Lit × DataW H) → Nat
  | [] => 0
  | x :: r => uptoBulkEntry x + uptoBulkEntries r
def uptoBulkEntry {H : Type} : Lit × DataW H → Nat
  | (.string bytes, d) => bytes.length + uptoBulk d + 1
  | (_, d) => uptoBulk d + 1
 end
def uptoSmall : (H : Type) → List (DataW H) → Bool := fun _ ds => decide (uptoBulkAll ds ≤ 1048576)
def OpenSpec.upto (s : _root_.Go.ChangeSpec) : _root_.Go.OpenSpec := { _root_.Go.OpenSpec.ofChange s with cond := some uptoSmall }

/-- 'laws.FnExactOnlyShownBy', WHERE WHAT IT READS IS OF BULK AT MOST 1048576: true; the input reads as it did. -/
def fnExactOnlyShownByUptoRow : OpenClaim := { program := "ytpdfbijfklmonaa", sum := "7f835dfab39adf4272701fe1da395ede41a488b24afae9fca40a3b18d37ca9a7", func := "loop.example/g01060/laws.FnExactOnlyShownBy", spec := "fnExactOnlyShownBy", unfollowed := true, recurses := true, apart := false, narrowed := true }
def FnExactOnlyShownByUptoSaid : Prop := fnExactOnlyShownByUptoRow.holds Try.pinned (OpenSpec.upto fnExactOnlyShownBySpec)

/-- 'laws.FnExactIsMosaic', WHERE WHAT IT READS IS OF BULK AT MOST 1048576: true; the input reads as it did. -/
def fnExactIsMosaicUptoRow : OpenClaim := { program := "ytpdfbijfklmonaa", sum := "7f835dfab39adf4272701fe1da395ede41a488b24afae9fca40a3b18d37ca9a7", func := "loop.example/g01060/laws.FnExactIsMosaic", spec := "fnExactIsMosaic", unfollowed := true, recurses := true, apart := false, narrowed := true }
def FnExactIsMosaicUptoSaid : Prop := fnExactIsMosaicUptoRow.holds Try.pinned (OpenSpec.upto fnExactIsMosaicSpec)

/-- 'laws.FnExactAreLonely', WHERE WHAT IT READS IS OF BULK AT MOST 1048576: true; the input reads as it did. -/
def fnExactAreLonelyUptoRow : OpenClaim := { program := "ytpdfbijfklmonaa", sum := "7f835dfab39adf4272701fe1da395ede41a488b24afae9fca40a3b18d37ca9a7", func := "loop.example/g01060/laws.FnExactAreLonely", spec := "fnExactAreLonely", unfollowed := true, recurses := true, apart := false, narrowed := true }
def FnExactAreLonelyUptoSaid : Prop := fnExactAreLonelyUptoRow.holds Try.pinned (OpenSpec.upto fnExactAreLonelySpec)

/-- 'laws.FnExactProvesFewest', WHERE WHAT IT READS IS OF BULK AT MOST 1048576: true; the input reads as it did. -/
def fnExactProvesFewestUptoRow : OpenClaim := { program := "ytpdfbijfklmonaa", sum := "7f835dfab39adf4272701fe1da395ede41a488b24afae9fca40a3b18d37ca9a7", func := "loop.example/g01060/laws.FnExactProvesFewest", spec := "fnExactProvesFewest", unfollowed := true, recurses := true, apart := false, narrowed := true }
def FnExactProvesFewestUptoSaid : Prop := fnExactProvesFewestUptoRow.holds Try.pinned (OpenSpec.upto fnExactProvesFewestSpec)

/-- 'laws.FnExactNeedlessCovers', WHERE WHAT IT READS IS OF BULK AT MOST 1048576: true; the input reads as it did. -/
def fnExactNeedlessCoversUptoRow : OpenClaim := { program := "ytpdfbijfklmonaa", sum := "7f835dfab39adf4272701fe1da395ede41a488b24afae9fca40a3b18d37ca9a7", func := "loop.example/g01060/laws.FnExactNeedlessCovers", spec := "fnExactNeedlessCovers", unfollowed := true, recurses := true, apart := false, narrowed := true }
def FnExactNeedlessCoversUptoSaid : Prop := fnExactNeedlessCoversUptoRow.holds Try.pinned (OpenSpec.upto fnExactNeedlessCoversSpec)

/-- 'laws.FnExactFewestCovers', WHERE WHAT IT READS IS OF BULK AT MOST 1048576: true; the input reads as it did. -/
def fnExactFewestCoversUptoRow : OpenClaim := { program := "ytpdfbijfklmonaa", sum := "7f835dfab39adf4272701fe1da395ede41a488b24afae9fca40a3b18d37ca9a7", func := "loop.example/g01060/laws.FnExactFewestCovers", spec := "fnExactFewestCovers", unfollowed := true, recurses := true, apart := false, narrowed := true }
def FnExactFewestCoversUptoSaid : Prop := fnExactFewestCoversUptoRow.holds Try.pinned (OpenSpec.upto fnExactFewestCoversSpec)

/-- 'laws.FnExactCheapestCovers', WHERE WHAT IT READS IS OF BULK AT MOST 1048576: true; the input reads as it did. -/
def fnExactCheapestCoversUptoRow : OpenClaim := { program := "ytpdfbijfklmonaa", sum := "7f835dfab39adf4272701fe1da395ede41a488b24afae9fca40a3b18d37ca9a7", func := "loop.example/g01060/laws.FnExactCheapestCovers", spec := "fnExactCheapestCovers", unfollowed := true, recurses := true, apart := false, narrowed := true }
def FnExactCheapestCoversUptoSaid : Prop := fnExactCheapestCoversUptoRow.holds Try.pinned (OpenSpec.upto fnExactCheapestCoversSpec)

/-- 'laws.FnMosaics', WHERE WHAT IT READS IS OF BULK AT MOST 1048576: true; the input reads as it did. -/
def fnMosaicsUptoRow : OpenClaim := { program := "ytpdfbijfklmonaa", sum := "7f835dfab39adf4272701fe1da395ede41a488b24afae9fca40a3b18d37ca9a7", func := "loop.example/g01060/laws.FnMosaics", spec := "fnMosaics", unfollowed := true, recurses := true, apart := false, narrowed := true }
def FnMosaicsUptoSaid : Prop := fnMosaicsUptoRow.holds Try.pinned (OpenSpec.upto fnMosaicsSpec)

/-- 'laws.FnLonely', WHERE WHAT IT READS IS OF BULK AT MOST 1048576: true; the input reads as it did. -/
def fnLonelyUptoRow : OpenClaim := { program := "ytpdfbijfklmonaa", sum := "7f835dfab39adf4272701fe1da395ede41a488b24afae9fca40a3b18d37ca9a7", func := "loop.example/g01060/laws.FnLonely", spec := "fnLonely", unfollowed := true, recurses := true, apart := false, narrowed := true }
def FnLonelyUptoSaid : Prop := fnLonelyUptoRow.holds Try.pinned (OpenSpec.upto fnLonelySpec)

end Rows
end Go.Proofs.Ytpdfbijfklmonaa
