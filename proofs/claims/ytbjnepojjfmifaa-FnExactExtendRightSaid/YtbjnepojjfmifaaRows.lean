/-
  No cell of these rows narrows 'for every input' (looked for: loops, veiled, ifaces, maps, wideKeys, modest, calm, conditions, laid).
  DERIVED. THE GIVEN ROWS OF THIS SEAT. 12 by the template 'for every input the law returns true; each argument reads behind the call as it read before'; 0 by the template 'total and deterministic' (their statements: YtbjnepojjfmifaaTotals.lean).
  GIVEN WITH THE SEED: the statements are not yours to turn. If you find one false, say at which input.
  Laid BY PROGRAM, IN A SANDBOX (cutbox-rows.mjs): the forced cells as the released guide's own fill.sh prints them over the translation 5a956ddd8be81d7f… (all of the seat's roots in one cut). By AI agents, Wed Nov 11 2026. No macro, syntax, notation, axiom, sorry.
-/
import Derived.Test.YtbjnepojjfmifaaChecked
import GoSem.Claim
import GoSem.ClaimJoined
import GoSem.ClaimMapViews
import Derived.JoinedTies
import Derived.KernelRfl
namespace Go.Proofs.Ytbjnepojjfmifaa
/- THE CELL 'sum', in the pinned program and in every row, IS THE sha256 OF THE DUMP (.gsa) THAT YtbjnepojjfmifaaProg.lean LOADS. Nothing in Lean hashes anything: it is a label: what it is worth is what the hold of that sum in a sandbox is worth. -/
noncomputable def Try.pinned : Pinned := { name := "ytbjnepojjfmifaa", sum := "5a956ddd8be81d7ff2d56fd38d149fa623c03543727e44ea23fdaa207fa84b40", checked := Try.checked }
namespace Rows
def none {H : Type} : Left H := { results := [], args := [] }

/-- 'laws.FnExactAreRights': WHATEVER THE INPUT: true; the input reads as it did. -/
def fnExactAreRightsSpec : ChangeSpec := { name := "fnExactAreRights", fn := fun _ => fun
  | [d] => { results := [.lit (.bool true)], args := [d] }
  | _ => none }
def fnExactAreRightsRow : OpenClaim := { program := "ytbjnepojjfmifaa", sum := "5a956ddd8be81d7ff2d56fd38d149fa623c03543727e44ea23fdaa207fa84b40", func := "loop.example/g01060/laws.FnExactAreRights", spec := "fnExactAreRights", apart := false }
def FnExactAreRightsSaid : Prop := fnExactAreRightsRow.holds Try.pinned (OpenSpec.ofChange fnExactAreRightsSpec)

/-- ITS FALSE NEIGHBOUR: 'it returns false'. Refute it at one input. -/
def fnExactAreRightsWrong : ChangeSpec := { name := "fnExactAreRights", fn := fun _ => fun
  | [d] => { results := [.lit (.bool false)], args := [d] }
  | _ => none }
def FnExactAreRightsWrongFalsely : Prop := fnExactAreRightsRow.holds Try.pinned (OpenSpec.ofChange fnExactAreRightsWrong)

/-- 'laws.FnExactIsFree': WHATEVER THE INPUT: true; the input reads as it did. -/
def fnExactIsFreeSpec : ChangeSpec := { name := "fnExactIsFree", fn := fun _ => fun
  | [d1, d2, d3] => { results := [.lit (.bool true)], args := [d1, d2, d3] }
  | _ => none }
def fnExactIsFreeRow : OpenClaim := { program := "ytbjnepojjfmifaa", sum := "5a956ddd8be81d7ff2d56fd38d149fa623c03543727e44ea23fdaa207fa84b40", func := "loop.example/g01060/laws.FnExactIsFree", spec := "fnExactIsFree", unfollowed := true, recurses := true, apart := false }
def FnExactIsFreeSaid : Prop := fnExactIsFreeRow.holds Try.pinned (OpenSpec.ofChange fnExactIsFreeSpec)

/-- ITS FALSE NEIGHBOUR: 'it returns false'. Refute it at one input. -/
def fnExactIsFreeWrong : ChangeSpec := { name := "fnExactIsFree", fn := fun _ => fun
  | [d1, d2, d3] => { results := [.lit (.bool false)], args := [d1, d2, d3] }
  | _ => none }
def FnExactIsFreeWrongFalsely : Prop := fnExactIsFreeRow.holds Try.pinned (OpenSpec.ofChange fnExactIsFreeWrong)

/-- 'laws.FnExactFreeFrom': WHATEVER THE INPUT: true; the input reads as it did. -/
def fnExactFreeFromSpec : ChangeSpec := { name := "fnExactFreeFrom", fn := fun _ => fun
  | [d1, d2] => { results := [.lit (.bool true)], args := [d1, d2] }
  | _ => none }
def fnExactFreeFromRow : OpenClaim := { program := "ytbjnepojjfmifaa", sum := "5a956ddd8be81d7ff2d56fd38d149fa623c03543727e44ea23fdaa207fa84b40", func := "loop.example/g01060/laws.FnExactFreeFrom", spec := "fnExactFreeFrom", unfollowed := true, recurses := true, apart := false }
def FnExactFreeFromSaid : Prop := fnExactFreeFromRow.holds Try.pinned (OpenSpec.ofChange fnExactFreeFromSpec)

/-- ITS FALSE NEIGHBOUR: 'it returns false'. Refute it at one input. -/
def fnExactFreeFromWrong : ChangeSpec := { name := "fnExactFreeFrom", fn := fun _ => fun
  | [d1, d2] => { results := [.lit (.bool false)], args := [d1, d2] }
  | _ => none }
def FnExactFreeFromWrongFalsely : Prop := fnExactFreeFromRow.holds Try.pinned (OpenSpec.ofChange fnExactFreeFromWrong)

/-- 'laws.FnExactAreLawful': WHATEVER THE INPUT: true; the input reads as it did. -/
def fnExactAreLawfulSpec : ChangeSpec := { name := "fnExactAreLawful", fn := fun _ => fun
  | [d1, d2] => { results := [.lit (.bool true)], args := [d1, d2] }
  | _ => none }
def fnExactAreLawfulRow : OpenClaim := { program := "ytbjnepojjfmifaa", sum := "5a956ddd8be81d7ff2d56fd38d149fa623c03543727e44ea23fdaa207fa84b40", func := "loop.example/g01060/laws.FnExactAreLawful", spec := "fnExactAreLawful", unfollowed := true, recurses := true, apart := false }
def FnExactAreLawfulSaid : Prop := fnExactAreLawfulRow.holds Try.pinned (OpenSpec.ofChange fnExactAreLawfulSpec)

/-- ITS FALSE NEIGHBOUR: 'it returns false'. Refute it at one input. -/
def fnExactAreLawfulWrong : ChangeSpec := { name := "fnExactAreLawful", fn := fun _ => fun
  | [d1, d2] => { results := [.lit (.bool false)], args := [d1, d2] }
  | _ => none }
def FnExactAreLawfulWrongFalsely : Prop := fnExactAreLawfulRow.holds Try.pinned (OpenSpec.ofChange fnExactAreLawfulWrong)

/-- 'laws.FnExactPartLeft': WHATEVER THE INPUT: true; the input reads as it did. -/
def fnExactPartLeftSpec : ChangeSpec := { name := "fnExactPartLeft", fn := fun _ => fun
  | [d1, d2, d3, d4, d5] => { results := [.lit (.bool true)], args := [d1, d2, d3, d4, d5] }
  | _ => none }
def fnExactPartLeftRow : OpenClaim := { program := "ytbjnepojjfmifaa", sum := "5a956ddd8be81d7ff2d56fd38d149fa623c03543727e44ea23fdaa207fa84b40", func := "loop.example/g01060/laws.FnExactPartLeft", spec := "fnExactPartLeft", unfollowed := true, recurses := true, apart := false }
def FnExactPartLeftSaid : Prop := fnExactPartLeftRow.holds Try.pinned (OpenSpec.ofChange fnExactPartLeftSpec)

/-- ITS FALSE NEIGHBOUR: 'it returns false'. Refute it at one input. -/
def fnExactPartLeftWrong : ChangeSpec := { name := "fnExactPartLeft", fn := fun _ => fun
  | [d1, d2, d3, d4, d5] => { results := [.lit (.bool false)], args := [d1, d2, d3, d4, d5] }
  | _ => none }
def FnExactPartLeftWrongFalsely : Prop := fnExactPartLeftRow.holds Try.pinned (OpenSpec.ofChange fnExactPartLeftWrong)

/-- 'laws.FnExactPaidBy': WHATEVER THE INPUT: true; the input reads as it did. -/
def fnExactPaidBySpec : ChangeSpec := { name := "fnExactPaidBy", fn := fun _ => fun
  | [d1, d2, d3] => { results := [.lit (.bool true)], args := [d1, d2, d3] }
  | _ => none }
def fnExactPaidByRow : OpenClaim := { program := "ytbjnepojjfmifaa", sum := "5a956ddd8be81d7ff2d56fd38d149fa623c03543727e44ea23fdaa207fa84b40", func := "loop.example/g01060/laws.FnExactPaidBy", spec := "fnExactPaidBy", unfollowed := true, recurses := true, apart := false }
def FnExactPaidBySaid : Prop := fnExactPaidByRow.holds Try.pinned (OpenSpec.ofChange fnExactPaidBySpec)

/-- ITS FALSE NEIGHBOUR: 'it returns false'. Refute it at one input. -/
def fnExactPaidByWrong : ChangeSpec := { name := "fnExactPaidBy", fn := fun _ => fun
  | [d1, d2, d3] => { results := [.lit (.bool false)], args := [d1, d2, d3] }
  | _ => none }
def FnExactPaidByWrongFalsely : Prop := fnExactPaidByRow.holds Try.pinned (OpenSpec.ofChange fnExactPaidByWrong)

/-- 'laws.FnExactEarnedBy': WHATEVER THE INPUT: true; the input reads as it did. -/
def fnExactEarnedBySpec : ChangeSpec := { name := "fnExactEarnedBy", fn := fun _ => fun
  | [d1, d2, d3] => { results := [.lit (.bool true)], args := [d1, d2, d3] }
  | _ => none }
def fnExactEarnedByRow : OpenClaim := { program := "ytbjnepojjfmifaa", sum := "5a956ddd8be81d7ff2d56fd38d149fa623c03543727e44ea23fdaa207fa84b40", func := "loop.example/g01060/laws.FnExactEarnedBy", spec := "fnExactEarnedBy", unfollowed := true, recurses := true, apart := false }
def FnExactEarnedBySaid : Prop := fnExactEarnedByRow.holds Try.pinned (OpenSpec.ofChange fnExactEarnedBySpec)

/-- ITS FALSE NEIGHBOUR: 'it returns false'. Refute it at one input. -/
def fnExactEarnedByWrong : ChangeSpec := { name := "fnExactEarnedBy", fn := fun _ => fun
  | [d1, d2, d3] => { results := [.lit (.bool false)], args := [d1, d2, d3] }
  | _ => none }
def FnExactEarnedByWrongFalsely : Prop := fnExactEarnedByRow.holds Try.pinned (OpenSpec.ofChange fnExactEarnedByWrong)

/-- 'laws.FnExactExtendRight': WHATEVER THE INPUT: true; the input reads as it did. -/
def fnExactExtendRightSpec : ChangeSpec := { name := "fnExactExtendRight", fn := fun _ => fun
  | [d1, d2, d3, d4] => { results := [.lit (.bool true)], args := [d1, d2, d3, d4] }
  | _ => none }
def fnExactExtendRightRow : OpenClaim := { program := "ytbjnepojjfmifaa", sum := "5a956ddd8be81d7ff2d56fd38d149fa623c03543727e44ea23fdaa207fa84b40", func := "loop.example/g01060/laws.FnExactExtendRight", spec := "fnExactExtendRight", unfollowed := true, recurses := true, apart := false }
def FnExactExtendRightSaid : Prop := fnExactExtendRightRow.holds Try.pinned (OpenSpec.ofChange fnExactExtendRightSpec)

/-- ITS FALSE NEIGHBOUR: 'it returns false'. Refute it at one input. -/
def fnExactExtendRightWrong : ChangeSpec := { name := "fnExactExtendRight", fn := fun _ => fun
  | [d1, d2, d3, d4] => { results := [.lit (.bool false)], args := [d1, d2, d3, d4] }
  | _ => none }
def FnExactExtendRightWrongFalsely : Prop := fnExactExtendRightRow.holds Try.pinned (OpenSpec.ofChange fnExactExtendRightWrong)

/-- 'laws.FnExactClosedFor': WHATEVER THE INPUT: true; the input reads as it did. -/
def fnExactClosedForSpec : ChangeSpec := { name := "fnExactClosedFor", fn := fun _ => fun
  | [d1, d2, d3, d4] => { results := [.lit (.bool true)], args := [d1, d2, d3, d4] }
  | _ => none }
def fnExactClosedForRow : OpenClaim := { program := "ytbjnepojjfmifaa", sum := "5a956ddd8be81d7ff2d56fd38d149fa623c03543727e44ea23fdaa207fa84b40", func := "loop.example/g01060/laws.FnExactClosedFor", spec := "fnExactClosedFor", unfollowed := true, recurses := true, apart := false }
def FnExactClosedForSaid : Prop := fnExactClosedForRow.holds Try.pinned (OpenSpec.ofChange fnExactClosedForSpec)

/-- ITS FALSE NEIGHBOUR: 'it returns false'. Refute it at one input. -/
def fnExactClosedForWrong : ChangeSpec := { name := "fnExactClosedFor", fn := fun _ => fun
  | [d1, d2, d3, d4] => { results := [.lit (.bool false)], args := [d1, d2, d3, d4] }
  | _ => none }
def FnExactClosedForWrongFalsely : Prop := fnExactClosedForRow.holds Try.pinned (OpenSpec.ofChange fnExactClosedForWrong)

/-- 'laws.FnExactCopySheet': WHATEVER THE INPUT: true; the input reads as it did. -/
def fnExactCopySheetSpec : ChangeSpec := { name := "fnExactCopySheet", fn := fun _ => fun
  | [d1, d2, d3] => { results := [.lit (.bool true)], args := [d1, d2, d3] }
  | _ => none }
def fnExactCopySheetRow : OpenClaim := { program := "ytbjnepojjfmifaa", sum := "5a956ddd8be81d7ff2d56fd38d149fa623c03543727e44ea23fdaa207fa84b40", func := "loop.example/g01060/laws.FnExactCopySheet", spec := "fnExactCopySheet", unfollowed := true, recurses := true, apart := false }
def FnExactCopySheetSaid : Prop := fnExactCopySheetRow.holds Try.pinned (OpenSpec.ofChange fnExactCopySheetSpec)

/-- ITS FALSE NEIGHBOUR: 'it returns false'. Refute it at one input. -/
def fnExactCopySheetWrong : ChangeSpec := { name := "fnExactCopySheet", fn := fun _ => fun
  | [d1, d2, d3] => { results := [.lit (.bool false)], args := [d1, d2, d3] }
  | _ => none }
def FnExactCopySheetWrongFalsely : Prop := fnExactCopySheetRow.holds Try.pinned (OpenSpec.ofChange fnExactCopySheetWrong)

/-- 'laws.FnRights': WHATEVER THE INPUT: true; the input reads as it did. -/
def fnRightsSpec : ChangeSpec := { name := "fnRights", fn := fun _ => fun
  | [d] => { results := [.lit (.bool true)], args := [d] }
  | _ => none }
def fnRightsRow : OpenClaim := { program := "ytbjnepojjfmifaa", sum := "5a956ddd8be81d7ff2d56fd38d149fa623c03543727e44ea23fdaa207fa84b40", func := "loop.example/g01060/laws.FnRights", spec := "fnRights", unfollowed := true, recurses := true, apart := false }
def FnRightsSaid : Prop := fnRightsRow.holds Try.pinned (OpenSpec.ofChange fnRightsSpec)

/-- ITS FALSE NEIGHBOUR: 'it returns false'. Refute it at one input. -/
def fnRightsWrong : ChangeSpec := { name := "fnRights", fn := fun _ => fun
  | [d] => { results := [.lit (.bool false)], args := [d] }
  | _ => none }
def FnRightsWrongFalsely : Prop := fnRightsRow.holds Try.pinned (OpenSpec.ofChange fnRightsWrong)

/-- 'laws.FnExactBestEarners': WHATEVER THE INPUT: true; the input reads as it did. -/
def fnExactBestEarnersSpec : ChangeSpec := { name := "fnExactBestEarners", fn := fun _ => fun
  | [d1, d2, d3] => { results := [.lit (.bool true)], args := [d1, d2, d3] }
  | _ => none }
def fnExactBestEarnersRow : OpenClaim := { program := "ytbjnepojjfmifaa", sum := "5a956ddd8be81d7ff2d56fd38d149fa623c03543727e44ea23fdaa207fa84b40", func := "loop.example/g01060/laws.FnExactBestEarners", spec := "fnExactBestEarners", unfollowed := true, recurses := true, apart := false }
def FnExactBestEarnersSaid : Prop := fnExactBestEarnersRow.holds Try.pinned (OpenSpec.ofChange fnExactBestEarnersSpec)

/-- ITS FALSE NEIGHBOUR: 'it returns false'. Refute it at one input. -/
def fnExactBestEarnersWrong : ChangeSpec := { name := "fnExactBestEarners", fn := fun _ => fun
  | [d1, d2, d3] => { results := [.lit (.bool false)], args := [d1, d2, d3] }
  | _ => none }
def FnExactBestEarnersWrongFalsely : Prop := fnExactBestEarnersRow.holds Try.pinned (OpenSpec.ofChange fnExactBestEarnersWrong)

/- THE SECOND FORM. 'bulk': how many values and letters a reading holds, each counted each time it is reached (what is shared counts as often as it is met; a slice's spare places count too). A statement '..UptoSaid' is the law's where the arguments, and the package variables that the reading takes, are together of bulk at most 1048576: NARROWER than '..Said'. Prove '..Said' where nothing that the law and all that it calls make is longer than what came in: it says more and counts as full. Else prove '..UptoSaid'. A law counts once. -/
mutual
def uptoBulk {H : Type} : DataW H → Nat
  | .lit (.string bytes) => bytes.length + 1
  | .lit _ => 1
  | .nil => 1
  | .ptr d => uptoBulk d + 1
  | .slice elems spare => uptoBulkAll elems + uptoBulkAll spare + 1
  | .agg parts => uptoBulkAll parts + 1
  | .iface _ d => uptoBulk d + 1
  | .map entries => uptoBulkEntries entries + 1
  | .held _ => 1
def uptoBulkAll {H : Type} : List (DataW H) → Nat
  | [] => 0
  | d :: r => uptoBulk d + uptoBulkAll r
def uptoBulkEntries {H : Type} : List (Lit × DataW H) → Nat
  | [] => 0
  | x :: r => uptoBulkEntry x + uptoBulkEntries r
def uptoBulkEntry {H : Type} : Lit × DataW H → Nat
  | (.string bytes, d) => bytes.length + uptoBulk d + 1
  | (_, d) => uptoBulk d + 1
 end
def uptoSmall : (H : Type) → List (DataW H) → Bool := fun _ ds => decide (uptoBulkAll ds ≤ 1048576)
def OpenSpec.upto (s : _root_.Go.ChangeSpec) : _root_.Go.OpenSpec := { _root_.Go.OpenSpec.ofChange s with cond := some uptoSmall }

/-- 'laws.FnExactAreRights', WHERE WHAT IT READS IS OF BULK AT MOST 1048576: true; the input reads as it did. -/
def fnExactAreRightsUptoRow : OpenClaim := { program := "ytbjnepojjfmifaa", sum := "5a956ddd8be81d7ff2d56fd38d149fa623c03543727e44ea23fdaa207fa84b40", func := "loop.example/g01060/laws.FnExactAreRights", spec := "fnExactAreRights", apart := false, narrowed := true }
def FnExactAreRightsUptoSaid : Prop := fnExactAreRightsUptoRow.holds Try.pinned (OpenSpec.upto fnExactAreRightsSpec)

/-- 'laws.FnExactIsFree', WHERE WHAT IT READS IS OF BULK AT MOST 1048576: true; the input reads as it did. -/
def fnExactIsFreeUptoRow : OpenClaim := { program := "ytbjnepojjfmifaa", sum := "5a956ddd8be81d7ff2d56fd38d149fa623c03543727e44ea23fdaa207fa84b40", func := "loop.example/g01060/laws.FnExactIsFree", spec := "fnExactIsFree", unfollowed := true, recurses := true, apart := false, narrowed := true }
def FnExactIsFreeUptoSaid : Prop := fnExactIsFreeUptoRow.holds Try.pinned (OpenSpec.upto fnExactIsFreeSpec)

/-- 'laws.FnExactFreeFrom', WHERE WHAT IT READS IS OF BULK AT MOST 1048576: true; the input reads as it did. -/
def fnExactFreeFromUptoRow : OpenClaim := { program := "ytbjnepojjfmifaa", sum := "5a956ddd8be81d7ff2d56fd38d149fa623c03543727e44ea23fdaa207fa84b40", func := "loop.example/g01060/laws.FnExactFreeFrom", spec := "fnExactFreeFrom", unfollowed := true, recurses := true, apart := false, narrowed := true }
def FnExactFreeFromUptoSaid : Prop := fnExactFreeFromUptoRow.holds Try.pinned (OpenSpec.upto fnExactFreeFromSpec)

/-- 'laws.FnExactAreLawful', WHERE WHAT IT READS IS OF BULK AT MOST 1048576: true; the input reads as it did. -/
def fnExactAreLawfulUptoRow : OpenClaim := { program := "ytbjnepojjfmifaa", sum := "5a956ddd8be81d7ff2d56fd38d149fa623c03543727e44ea23fdaa207fa84b40", func := "loop.example/g01060/laws.FnExactAreLawful", spec := "fnExactAreLawful", unfollowed := true, recurses := true, apart := false, narrowed := true }
def FnExactAreLawfulUptoSaid : Prop := fnExactAreLawfulUptoRow.holds Try.pinned (OpenSpec.upto fnExactAreLawfulSpec)

/-- 'laws.FnExactPartLeft', WHERE WHAT IT READS IS OF BULK AT MOST 1048576: true; the input reads as it did. -/
def fnExactPartLeftUptoRow : OpenClaim := { program := "ytbjnepojjfmifaa", sum := "5a956ddd8be81d7ff2d56fd38d149fa623c03543727e44ea23fdaa207fa84b40", func := "loop.example/g01060/laws.FnExactPartLeft", spec := "fnExactPartLeft", unfollowed := true, recurses := true, apart := false, narrowed := true }
def FnExactPartLeftUptoSaid : Prop := fnExactPartLeftUptoRow.holds Try.pinned (OpenSpec.upto fnExactPartLeftSpec)

/-- 'laws.FnExactPaidBy', WHERE WHAT IT READS IS OF BULK AT MOST 1048576: true; the input reads as it did. -/
def fnExactPaidByUptoRow : OpenClaim := { program := "ytbjnepojjfmifaa", sum := "5a956ddd8be81d7ff2d56fd38d149fa623c03543727e44ea23fdaa207fa84b40", func := "loop.example/g01060/laws.FnExactPaidBy", spec := "fnExactPaidBy", unfollowed := true, recurses := true, apart := false, narrowed := true }
def FnExactPaidByUptoSaid : Prop := fnExactPaidByUptoRow.holds Try.pinned (OpenSpec.upto fnExactPaidBySpec)

/-- 'laws.FnExactEarnedBy', WHERE WHAT IT READS IS OF BULK AT MOST 1048576: true; the input reads as it did. -/
def fnExactEarnedByUptoRow : OpenClaim := { program := "ytbjnepojjfmifaa", sum := "5a956ddd8be81d7ff2d56fd38d149fa623c03543727e44ea23fdaa207fa84b40", func := "loop.example/g01060/laws.FnExactEarnedBy", spec := "fnExactEarnedBy", unfollowed := true, recurses := true, apart := false, narrowed := true }
def FnExactEarnedByUptoSaid : Prop := fnExactEarnedByUptoRow.holds Try.pinned (OpenSpec.upto fnExactEarnedBySpec)

/-- 'laws.FnExactExtendRight', WHERE WHAT IT READS IS OF BULK AT MOST 1048576: true; the input reads as it did. -/
def fnExactExtendRightUptoRow : OpenClaim := { program := "ytbjnepojjfmifaa", sum := "5a956ddd8be81d7ff2d56fd38d149fa623c03543727e44ea23fdaa207fa84b40", func := "loop.example/g01060/laws.FnExactExtendRight", spec := "fnExactExtendRight", unfollowed := true, recurses := true, apart := false, narrowed := true }
def FnExactExtendRightUptoSaid : Prop := fnExactExtendRightUptoRow.holds Try.pinned (OpenSpec.upto fnExactExtendRightSpec)

/-- 'laws.FnExactClosedFor', WHERE WHAT IT READS IS OF BULK AT MOST 1048576: true; the input reads as it did. -/
def fnExactClosedForUptoRow : OpenClaim := { program := "ytbjnepojjfmifaa", sum := "5a956ddd8be81d7ff2d56fd38d149fa623c03543727e44ea23fdaa207fa84b40", func := "loop.example/g01060/laws.FnExactClosedFor", spec := "fnExactClosedFor", unfollowed := true, recurses := true, apart := false, narrowed := true }
def FnExactClosedForUptoSaid : Prop := fnExactClosedForUptoRow.holds Try.pinned (OpenSpec.upto fnExactClosedForSpec)

/-- 'laws.FnExactCopySheet', WHERE WHAT IT READS IS OF BULK AT MOST 1048576: true; the input reads as it did. -/
def fnExactCopySheetUptoRow : OpenClaim := { program := "ytbjnepojjfmifaa", sum := "5a956ddd8be81d7ff2d56fd38d149fa623c03543727e44ea23fdaa207fa84b40", func := "loop.example/g01060/laws.FnExactCopySheet", spec := "fnExactCopySheet", unfollowed := true, recurses := true, apart := false, narrowed := true }
def FnExactCopySheetUptoSaid : Prop := fnExactCopySheetUptoRow.holds Try.pinned (OpenSpec.upto fnExactCopySheetSpec)

/-- 'laws.FnRights', WHERE WHAT IT READS IS OF BULK AT MOST 1048576: true; the input reads as it did. -/
def fnRightsUptoRow : OpenClaim := { program := "ytbjnepojjfmifaa", sum := "5a956ddd8be81d7ff2d56fd38d149fa623c03543727e44ea23fdaa207fa84b40", func := "loop.example/g01060/laws.FnRights", spec := "fnRights", unfollowed := true, recurses := true, apart := false, narrowed := true }
def FnRightsUptoSaid : Prop := fnRightsUptoRow.holds Try.pinned (OpenSpec.upto fnRightsSpec)

/-- 'laws.FnExactBestEarners', WHERE WHAT IT READS IS OF BULK AT MOST 1048576: true; the input reads as it did. -/
def fnExactBestEarnersUptoRow : OpenClaim := { program := "ytbjnepojjfmifaa", sum := "5a956ddd8be81d7ff2d56fd38d149fa623c03543727e44ea23fdaa207fa84b40", func := "loop.example/g01060/laws.FnExactBestEarners", spec := "fnExactBestEarners", unfollowed := true, recurses := true, apart := false, narrowed := true }
def FnExactBestEarnersUptoSaid : Prop := fnExactBestEarnersUptoRow.holds Try.pinned (OpenSpec.upto fnExactBestEarnersSpec)

end Rows
end Go.Proofs.Ytbjnepojjfmifaa
