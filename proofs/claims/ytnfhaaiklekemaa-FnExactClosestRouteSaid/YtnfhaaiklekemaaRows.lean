/-
  No cell of these rows narrows 'for every input' (looked for: loops, veiled, ifaces, maps, wideKeys, modest, calm, conditions, laid).
  DERIVED. THE GIVEN ROWS OF THIS SEAT. 12 by the template 'for every input the law returns true; each argument reads behind the call as it read before'; 0 by the template 'total and deterministic' (their statements: YtnfhaaiklekemaaTotals.lean).
  GIVEN WITH THE SEED: the statements are not yours to turn. If you find one false, say at which input.
  Laid BY PROGRAM, IN A SANDBOX (cutbox-rows.mjs): the forced cells as the released guide's own fill.sh prints them over the translation 99a63a9e1cd32f10… (all of the seat's roots in one cut). By AI agents, Wed Nov 11 2026. No macro, syntax, notation, axiom, sorry.
-/
import Derived.Test.YtnfhaaiklekemaaChecked
import GoSem.Claim
import GoSem.ClaimJoined
import GoSem.ClaimMapViews
import Derived.JoinedTies
import Derived.KernelRfl
namespace Go.Proofs.Ytnfhaaiklekemaa
/- THE CELL 'sum', in the pinned program and in every row, IS THE sha256 OF THE DUMP (.gsa) THAT YtnfhaaiklekemaaProg.lean LOADS. Nothing in Lean hashes anything: it is a label: what it is worth is what the hold of that sum in a sandbox is worth. -/
noncomputable def Try.pinned : Pinned := { name := "ytnfhaaiklekemaa", sum := "99a63a9e1cd32f1067033615db9747b03862b692f3edf46a3265125ecc663bfa", checked := Try.checked }
namespace Rows
def none {H : Type} : Left H := { results := [], args := [] }

/-- 'laws.FnExactFaultName': WHATEVER THE INPUT: true; the input reads as it did. -/
def fnExactFaultNameSpec : ChangeSpec := { name := "fnExactFaultName", fn := fun _ => fun
  | [d] => { results := [.lit (.bool true)], args := [d] }
  | _ => none }
def fnExactFaultNameRow : OpenClaim := { program := "ytnfhaaiklekemaa", sum := "99a63a9e1cd32f1067033615db9747b03862b692f3edf46a3265125ecc663bfa", func := "loop.example/g01060/laws.FnExactFaultName", spec := "fnExactFaultName", apart := false }
def FnExactFaultNameSaid : Prop := fnExactFaultNameRow.holds Try.pinned (OpenSpec.ofChange fnExactFaultNameSpec)

/-- ITS FALSE NEIGHBOUR: 'it returns false'. Refute it at one input. -/
def fnExactFaultNameWrong : ChangeSpec := { name := "fnExactFaultName", fn := fun _ => fun
  | [d] => { results := [.lit (.bool false)], args := [d] }
  | _ => none }
def FnExactFaultNameWrongFalsely : Prop := fnExactFaultNameRow.holds Try.pinned (OpenSpec.ofChange fnExactFaultNameWrong)

/-- 'laws.FnExactIsRoute': WHATEVER THE INPUT: true; the input reads as it did. -/
def fnExactIsRouteSpec : ChangeSpec := { name := "fnExactIsRoute", fn := fun _ => fun
  | [d] => { results := [.lit (.bool true)], args := [d] }
  | _ => none }
def fnExactIsRouteRow : OpenClaim := { program := "ytnfhaaiklekemaa", sum := "99a63a9e1cd32f1067033615db9747b03862b692f3edf46a3265125ecc663bfa", func := "loop.example/g01060/laws.FnExactIsRoute", spec := "fnExactIsRoute", unfollowed := true, recurses := true, apart := false }
def FnExactIsRouteSaid : Prop := fnExactIsRouteRow.holds Try.pinned (OpenSpec.ofChange fnExactIsRouteSpec)

/-- ITS FALSE NEIGHBOUR: 'it returns false'. Refute it at one input. -/
def fnExactIsRouteWrong : ChangeSpec := { name := "fnExactIsRoute", fn := fun _ => fun
  | [d] => { results := [.lit (.bool false)], args := [d] }
  | _ => none }
def FnExactIsRouteWrongFalsely : Prop := fnExactIsRouteRow.holds Try.pinned (OpenSpec.ofChange fnExactIsRouteWrong)

/-- 'laws.FnExactIsLand': WHATEVER THE INPUT: true; the input reads as it did. -/
def fnExactIsLandSpec : ChangeSpec := { name := "fnExactIsLand", fn := fun _ => fun
  | [d] => { results := [.lit (.bool true)], args := [d] }
  | _ => none }
def fnExactIsLandRow : OpenClaim := { program := "ytnfhaaiklekemaa", sum := "99a63a9e1cd32f1067033615db9747b03862b692f3edf46a3265125ecc663bfa", func := "loop.example/g01060/laws.FnExactIsLand", spec := "fnExactIsLand", apart := false }
def FnExactIsLandSaid : Prop := fnExactIsLandRow.holds Try.pinned (OpenSpec.ofChange fnExactIsLandSpec)

/-- ITS FALSE NEIGHBOUR: 'it returns false'. Refute it at one input. -/
def fnExactIsLandWrong : ChangeSpec := { name := "fnExactIsLand", fn := fun _ => fun
  | [d] => { results := [.lit (.bool false)], args := [d] }
  | _ => none }
def FnExactIsLandWrongFalsely : Prop := fnExactIsLandRow.holds Try.pinned (OpenSpec.ofChange fnExactIsLandWrong)

/-- 'laws.FnExactWalkOf': WHATEVER THE INPUT: true; the input reads as it did. -/
def fnExactWalkOfSpec : ChangeSpec := { name := "fnExactWalkOf", fn := fun _ => fun
  | [d] => { results := [.lit (.bool true)], args := [d] }
  | _ => none }
def fnExactWalkOfRow : OpenClaim := { program := "ytnfhaaiklekemaa", sum := "99a63a9e1cd32f1067033615db9747b03862b692f3edf46a3265125ecc663bfa", func := "loop.example/g01060/laws.FnExactWalkOf", spec := "fnExactWalkOf", unfollowed := true, recurses := true, apart := false }
def FnExactWalkOfSaid : Prop := fnExactWalkOfRow.holds Try.pinned (OpenSpec.ofChange fnExactWalkOfSpec)

/-- ITS FALSE NEIGHBOUR: 'it returns false'. Refute it at one input. -/
def fnExactWalkOfWrong : ChangeSpec := { name := "fnExactWalkOf", fn := fun _ => fun
  | [d] => { results := [.lit (.bool false)], args := [d] }
  | _ => none }
def FnExactWalkOfWrongFalsely : Prop := fnExactWalkOfRow.holds Try.pinned (OpenSpec.ofChange fnExactWalkOfWrong)

/-- 'laws.FnExactEndOfRoute': WHATEVER THE INPUT: true; the input reads as it did. -/
def fnExactEndOfRouteSpec : ChangeSpec := { name := "fnExactEndOfRoute", fn := fun _ => fun
  | [d] => { results := [.lit (.bool true)], args := [d] }
  | _ => none }
def fnExactEndOfRouteRow : OpenClaim := { program := "ytnfhaaiklekemaa", sum := "99a63a9e1cd32f1067033615db9747b03862b692f3edf46a3265125ecc663bfa", func := "loop.example/g01060/laws.FnExactEndOfRoute", spec := "fnExactEndOfRoute", unfollowed := true, recurses := true, apart := false }
def FnExactEndOfRouteSaid : Prop := fnExactEndOfRouteRow.holds Try.pinned (OpenSpec.ofChange fnExactEndOfRouteSpec)

/-- ITS FALSE NEIGHBOUR: 'it returns false'. Refute it at one input. -/
def fnExactEndOfRouteWrong : ChangeSpec := { name := "fnExactEndOfRoute", fn := fun _ => fun
  | [d] => { results := [.lit (.bool false)], args := [d] }
  | _ => none }
def FnExactEndOfRouteWrongFalsely : Prop := fnExactEndOfRouteRow.holds Try.pinned (OpenSpec.ofChange fnExactEndOfRouteWrong)

/-- 'laws.FnExactWayBack': WHATEVER THE INPUT: true; the input reads as it did. -/
def fnExactWayBackSpec : ChangeSpec := { name := "fnExactWayBack", fn := fun _ => fun
  | [d] => { results := [.lit (.bool true)], args := [d] }
  | _ => none }
def fnExactWayBackRow : OpenClaim := { program := "ytnfhaaiklekemaa", sum := "99a63a9e1cd32f1067033615db9747b03862b692f3edf46a3265125ecc663bfa", func := "loop.example/g01060/laws.FnExactWayBack", spec := "fnExactWayBack", unfollowed := true, recurses := true, apart := false }
def FnExactWayBackSaid : Prop := fnExactWayBackRow.holds Try.pinned (OpenSpec.ofChange fnExactWayBackSpec)

/-- ITS FALSE NEIGHBOUR: 'it returns false'. Refute it at one input. -/
def fnExactWayBackWrong : ChangeSpec := { name := "fnExactWayBack", fn := fun _ => fun
  | [d] => { results := [.lit (.bool false)], args := [d] }
  | _ => none }
def FnExactWayBackWrongFalsely : Prop := fnExactWayBackRow.holds Try.pinned (OpenSpec.ofChange fnExactWayBackWrong)

/-- 'laws.FnExactClosestRoute': WHATEVER THE INPUT: true; the input reads as it did. -/
def fnExactClosestRouteSpec : ChangeSpec := { name := "fnExactClosestRoute", fn := fun _ => fun
  | [d1, d2] => { results := [.lit (.bool true)], args := [d1, d2] }
  | _ => none }
def fnExactClosestRouteRow : OpenClaim := { program := "ytnfhaaiklekemaa", sum := "99a63a9e1cd32f1067033615db9747b03862b692f3edf46a3265125ecc663bfa", func := "loop.example/g01060/laws.FnExactClosestRoute", spec := "fnExactClosestRoute", apart := false }
def FnExactClosestRouteSaid : Prop := fnExactClosestRouteRow.holds Try.pinned (OpenSpec.ofChange fnExactClosestRouteSpec)

/-- ITS FALSE NEIGHBOUR: 'it returns false'. Refute it at one input. -/
def fnExactClosestRouteWrong : ChangeSpec := { name := "fnExactClosestRoute", fn := fun _ => fun
  | [d1, d2] => { results := [.lit (.bool false)], args := [d1, d2] }
  | _ => none }
def FnExactClosestRouteWrongFalsely : Prop := fnExactClosestRouteRow.holds Try.pinned (OpenSpec.ofChange fnExactClosestRouteWrong)

/-- 'laws.FnExactEnoughMinutes': WHATEVER THE INPUT: true; the input reads as it did. -/
def fnExactEnoughMinutesSpec : ChangeSpec := { name := "fnExactEnoughMinutes", fn := fun _ => fun
  | [d] => { results := [.lit (.bool true)], args := [d] }
  | _ => none }
def fnExactEnoughMinutesRow : OpenClaim := { program := "ytnfhaaiklekemaa", sum := "99a63a9e1cd32f1067033615db9747b03862b692f3edf46a3265125ecc663bfa", func := "loop.example/g01060/laws.FnExactEnoughMinutes", spec := "fnExactEnoughMinutes", unfollowed := true, recurses := true, apart := false }
def FnExactEnoughMinutesSaid : Prop := fnExactEnoughMinutesRow.holds Try.pinned (OpenSpec.ofChange fnExactEnoughMinutesSpec)

/-- ITS FALSE NEIGHBOUR: 'it returns false'. Refute it at one input. -/
def fnExactEnoughMinutesWrong : ChangeSpec := { name := "fnExactEnoughMinutes", fn := fun _ => fun
  | [d] => { results := [.lit (.bool false)], args := [d] }
  | _ => none }
def FnExactEnoughMinutesWrongFalsely : Prop := fnExactEnoughMinutesRow.holds Try.pinned (OpenSpec.ofChange fnExactEnoughMinutesWrong)

/-- 'laws.FnExactStretchRoute': WHATEVER THE INPUT: true; the input reads as it did. -/
def fnExactStretchRouteSpec : ChangeSpec := { name := "fnExactStretchRoute", fn := fun _ => fun
  | [d1, d2, d3] => { results := [.lit (.bool true)], args := [d1, d2, d3] }
  | _ => none }
def fnExactStretchRouteRow : OpenClaim := { program := "ytnfhaaiklekemaa", sum := "99a63a9e1cd32f1067033615db9747b03862b692f3edf46a3265125ecc663bfa", func := "loop.example/g01060/laws.FnExactStretchRoute", spec := "fnExactStretchRoute", unfollowed := true, recurses := true, apart := false }
def FnExactStretchRouteSaid : Prop := fnExactStretchRouteRow.holds Try.pinned (OpenSpec.ofChange fnExactStretchRouteSpec)

/-- ITS FALSE NEIGHBOUR: 'it returns false'. Refute it at one input. -/
def fnExactStretchRouteWrong : ChangeSpec := { name := "fnExactStretchRoute", fn := fun _ => fun
  | [d1, d2, d3] => { results := [.lit (.bool false)], args := [d1, d2, d3] }
  | _ => none }
def FnExactStretchRouteWrongFalsely : Prop := fnExactStretchRouteRow.holds Try.pinned (OpenSpec.ofChange fnExactStretchRouteWrong)

/-- 'laws.FnExactPlainRoute': WHATEVER THE INPUT: true; the input reads as it did. -/
def fnExactPlainRouteSpec : ChangeSpec := { name := "fnExactPlainRoute", fn := fun _ => fun
  | [d] => { results := [.lit (.bool true)], args := [d] }
  | _ => none }
def fnExactPlainRouteRow : OpenClaim := { program := "ytnfhaaiklekemaa", sum := "99a63a9e1cd32f1067033615db9747b03862b692f3edf46a3265125ecc663bfa", func := "loop.example/g01060/laws.FnExactPlainRoute", spec := "fnExactPlainRoute", unfollowed := true, recurses := true, apart := false }
def FnExactPlainRouteSaid : Prop := fnExactPlainRouteRow.holds Try.pinned (OpenSpec.ofChange fnExactPlainRouteSpec)

/-- ITS FALSE NEIGHBOUR: 'it returns false'. Refute it at one input. -/
def fnExactPlainRouteWrong : ChangeSpec := { name := "fnExactPlainRoute", fn := fun _ => fun
  | [d] => { results := [.lit (.bool false)], args := [d] }
  | _ => none }
def FnExactPlainRouteWrongFalsely : Prop := fnExactPlainRouteRow.holds Try.pinned (OpenSpec.ofChange fnExactPlainRouteWrong)

/-- 'laws.FnExactMinutesOf': WHATEVER THE INPUT: true; the input reads as it did. -/
def fnExactMinutesOfSpec : ChangeSpec := { name := "fnExactMinutesOf", fn := fun _ => fun
  | [d] => { results := [.lit (.bool true)], args := [d] }
  | _ => none }
def fnExactMinutesOfRow : OpenClaim := { program := "ytnfhaaiklekemaa", sum := "99a63a9e1cd32f1067033615db9747b03862b692f3edf46a3265125ecc663bfa", func := "loop.example/g01060/laws.FnExactMinutesOf", spec := "fnExactMinutesOf", unfollowed := true, recurses := true, apart := false }
def FnExactMinutesOfSaid : Prop := fnExactMinutesOfRow.holds Try.pinned (OpenSpec.ofChange fnExactMinutesOfSpec)

/-- ITS FALSE NEIGHBOUR: 'it returns false'. Refute it at one input. -/
def fnExactMinutesOfWrong : ChangeSpec := { name := "fnExactMinutesOf", fn := fun _ => fun
  | [d] => { results := [.lit (.bool false)], args := [d] }
  | _ => none }
def FnExactMinutesOfWrongFalsely : Prop := fnExactMinutesOfRow.holds Try.pinned (OpenSpec.ofChange fnExactMinutesOfWrong)

/-- 'laws.FnExactPlacesOn': WHATEVER THE INPUT: true; the input reads as it did. -/
def fnExactPlacesOnSpec : ChangeSpec := { name := "fnExactPlacesOn", fn := fun _ => fun
  | [d] => { results := [.lit (.bool true)], args := [d] }
  | _ => none }
def fnExactPlacesOnRow : OpenClaim := { program := "ytnfhaaiklekemaa", sum := "99a63a9e1cd32f1067033615db9747b03862b692f3edf46a3265125ecc663bfa", func := "loop.example/g01060/laws.FnExactPlacesOn", spec := "fnExactPlacesOn", unfollowed := true, recurses := true, apart := false }
def FnExactPlacesOnSaid : Prop := fnExactPlacesOnRow.holds Try.pinned (OpenSpec.ofChange fnExactPlacesOnSpec)

/-- ITS FALSE NEIGHBOUR: 'it returns false'. Refute it at one input. -/
def fnExactPlacesOnWrong : ChangeSpec := { name := "fnExactPlacesOn", fn := fun _ => fun
  | [d] => { results := [.lit (.bool false)], args := [d] }
  | _ => none }
def FnExactPlacesOnWrongFalsely : Prop := fnExactPlacesOnRow.holds Try.pinned (OpenSpec.ofChange fnExactPlacesOnWrong)

/- THE SECOND FORM. 'bulk': how many values and letters a reading holds, each counted each time it is reached (what is shared counts as often as it is met; a slice's spare places count too). A statement '..UptoSaid' is the law's where the arguments, and the package variables that the reading takes, are together of bulk at most 1048576: NARROWER than '..Said'. Prove '..Said' where nothing that the law and all that it calls make is longer than what came in: it says more and counts as full. Else prove '..UptoSaid'. A law counts once. -/
mutual
def uptoBulk {H : Type} : DataW H → Nat
  | .lit (.string bytes) => bytes.length + 1
  | .lit _ => 1
  | .nil => 1
  | .ptr d => uptoBulk d + 1
  | .slice elems spare => uptoBulkAll elems + uptoBulkAll spare + 1
  | .agg parts => uptoBulkAll parts + 1
  | .iface _ d => uptoBulk d + 1
  | .map entries => uptoBulkEntries entries + 1
  | .held _ => 1
def uptoBulkAll {H : Type} : List (DataW H) → Nat
  | [] => 0
  | d :: r => uptoBulk d + uptoBulkAll r
def uptoBulkEntries {H : Type} : List (Lit × DataW H) → Nat
  | [] => 0
  | x :: r => uptoBulkEntry x + uptoBulkEntries r
def uptoBulkEntry {H : Type} : Lit × DataW H → Nat
  | (.string bytes, d) => bytes.length + uptoBulk d + 1
  | (_, d) => uptoBulk d + 1
 end
def uptoSmall : (H : Type) → List (DataW H) → Bool := fun _ ds => decide (uptoBulkAll ds ≤ 1048576)
def OpenSpec.upto (s : _root_.Go.ChangeSpec) : _root_.Go.OpenSpec := { _root_.Go.OpenSpec.ofChange s with cond := some uptoSmall }

/-- 'laws.FnExactFaultName', WHERE WHAT IT READS IS OF BULK AT MOST 1048576: true; the input reads as it did. -/
def fnExactFaultNameUptoRow : OpenClaim := { program := "ytnfhaaiklekemaa", sum := "99a63a9e1cd32f1067033615db9747b03862b692f3edf46a3265125ecc663bfa", func := "loop.example/g01060/laws.FnExactFaultName", spec := "fnExactFaultName", apart := false, narrowed := true }
def FnExactFaultNameUptoSaid : Prop := fnExactFaultNameUptoRow.holds Try.pinned (OpenSpec.upto fnExactFaultNameSpec)

/-- 'laws.FnExactIsRoute', WHERE WHAT IT READS IS OF BULK AT MOST 1048576: true; the input reads as it did. -/
def fnExactIsRouteUptoRow : OpenClaim := { program := "ytnfhaaiklekemaa", sum := "99a63a9e1cd32f1067033615db9747b03862b692f3edf46a3265125ecc663bfa", func := "loop.example/g01060/laws.FnExactIsRoute", spec := "fnExactIsRoute", unfollowed := true, recurses := true, apart := false, narrowed := true }
def FnExactIsRouteUptoSaid : Prop := fnExactIsRouteUptoRow.holds Try.pinned (OpenSpec.upto fnExactIsRouteSpec)

/-- 'laws.FnExactIsLand', WHERE WHAT IT READS IS OF BULK AT MOST 1048576: true; the input reads as it did. -/
def fnExactIsLandUptoRow : OpenClaim := { program := "ytnfhaaiklekemaa", sum := "99a63a9e1cd32f1067033615db9747b03862b692f3edf46a3265125ecc663bfa", func := "loop.example/g01060/laws.FnExactIsLand", spec := "fnExactIsLand", apart := false, narrowed := true }
def FnExactIsLandUptoSaid : Prop := fnExactIsLandUptoRow.holds Try.pinned (OpenSpec.upto fnExactIsLandSpec)

/-- 'laws.FnExactWalkOf', WHERE WHAT IT READS IS OF BULK AT MOST 1048576: true; the input reads as it did. -/
def fnExactWalkOfUptoRow : OpenClaim := { program := "ytnfhaaiklekemaa", sum := "99a63a9e1cd32f1067033615db9747b03862b692f3edf46a3265125ecc663bfa", func := "loop.example/g01060/laws.FnExactWalkOf", spec := "fnExactWalkOf", unfollowed := true, recurses := true, apart := false, narrowed := true }
def FnExactWalkOfUptoSaid : Prop := fnExactWalkOfUptoRow.holds Try.pinned (OpenSpec.upto fnExactWalkOfSpec)

/-- 'laws.FnExactEndOfRoute', WHERE WHAT IT READS IS OF BULK AT MOST 1048576: true; the input reads as it did. -/
def fnExactEndOfRouteUptoRow : OpenClaim := { program := "ytnfhaaiklekemaa", sum := "99a63a9e1cd32f1067033615db9747b03862b692f3edf46a3265125ecc663bfa", func := "loop.example/g01060/laws.FnExactEndOfRoute", spec := "fnExactEndOfRoute", unfollowed := true, recurses := true, apart := false, narrowed := true }
def FnExactEndOfRouteUptoSaid : Prop := fnExactEndOfRouteUptoRow.holds Try.pinned (OpenSpec.upto fnExactEndOfRouteSpec)

/-- 'laws.FnExactWayBack', WHERE WHAT IT READS IS OF BULK AT MOST 1048576: true; the input reads as it did. -/
def fnExactWayBackUptoRow : OpenClaim := { program := "ytnfhaaiklekemaa", sum := "99a63a9e1cd32f1067033615db9747b03862b692f3edf46a3265125ecc663bfa", func := "loop.example/g01060/laws.FnExactWayBack", spec := "fnExactWayBack", unfollowed := true, recurses := true, apart := false, narrowed := true }
def FnExactWayBackUptoSaid : Prop := fnExactWayBackUptoRow.holds Try.pinned (OpenSpec.upto fnExactWayBackSpec)

/-- 'laws.FnExactClosestRoute', WHERE WHAT IT READS IS OF BULK AT MOST 1048576: true; the input reads as it did. -/
def fnExactClosestRouteUptoRow : OpenClaim := { program := "ytnfhaaiklekemaa", sum := "99a63a9e1cd32f1067033615db9747b03862b692f3edf46a3265125ecc663bfa", func := "loop.example/g01060/laws.FnExactClosestRoute", spec := "fnExactClosestRoute", apart := false, narrowed := true }
def FnExactClosestRouteUptoSaid : Prop := fnExactClosestRouteUptoRow.holds Try.pinned (OpenSpec.upto fnExactClosestRouteSpec)

/-- 'laws.FnExactEnoughMinutes', WHERE WHAT IT READS IS OF BULK AT MOST 1048576: true; the input reads as it did. -/
def fnExactEnoughMinutesUptoRow : OpenClaim := { program := "ytnfhaaiklekemaa", sum := "99a63a9e1cd32f1067033615db9747b03862b692f3edf46a3265125ecc663bfa", func := "loop.example/g01060/laws.FnExactEnoughMinutes", spec := "fnExactEnoughMinutes", unfollowed := true, recurses := true, apart := false, narrowed := true }
def FnExactEnoughMinutesUptoSaid : Prop := fnExactEnoughMinutesUptoRow.holds Try.pinned (OpenSpec.upto fnExactEnoughMinutesSpec)

/-- 'laws.FnExactStretchRoute', WHERE WHAT IT READS IS OF BULK AT MOST 1048576: true; the input reads as it did. -/
def fnExactStretchRouteUptoRow : OpenClaim := { program := "ytnfhaaiklekemaa", sum := "99a63a9e1cd32f1067033615db9747b03862b692f3edf46a3265125ecc663bfa", func := "loop.example/g01060/laws.FnExactStretchRoute", spec := "fnExactStretchRoute", unfollowed := true, recurses := true, apart := false, narrowed := true }
def FnExactStretchRouteUptoSaid : Prop := fnExactStretchRouteUptoRow.holds Try.pinned (OpenSpec.upto fnExactStretchRouteSpec)

/-- 'laws.FnExactPlainRoute', WHERE WHAT IT READS IS OF BULK AT MOST 1048576: true; the input reads as it did. -/
def fnExactPlainRouteUptoRow : OpenClaim := { program := "ytnfhaaiklekemaa", sum := "99a63a9e1cd32f1067033615db9747b03862b692f3edf46a3265125ecc663bfa", func := "loop.example/g01060/laws.FnExactPlainRoute", spec := "fnExactPlainRoute", unfollowed := true, recurses := true, apart := false, narrowed := true }
def FnExactPlainRouteUptoSaid : Prop := fnExactPlainRouteUptoRow.holds Try.pinned (OpenSpec.upto fnExactPlainRouteSpec)

/-- 'laws.FnExactMinutesOf', WHERE WHAT IT READS IS OF BULK AT MOST 1048576: true; the input reads as it did. -/
def fnExactMinutesOfUptoRow : OpenClaim := { program := "ytnfhaaiklekemaa", sum := "99a63a9e1cd32f1067033615db9747b03862b692f3edf46a3265125ecc663bfa", func := "loop.example/g01060/laws.FnExactMinutesOf", spec := "fnExactMinutesOf", unfollowed := true, recurses := true, apart := false, narrowed := true }
def FnExactMinutesOfUptoSaid : Prop := fnExactMinutesOfUptoRow.holds Try.pinned (OpenSpec.upto fnExactMinutesOfSpec)

/-- 'laws.FnExactPlacesOn', WHERE WHAT IT READS IS OF BULK AT MOST 1048576: true; the input reads as it did. -/
def fnExactPlacesOnUptoRow : OpenClaim := { program := "ytnfhaaiklekemaa", sum := "99a63a9e1cd32f1067033615db9747b03862b692f3edf46a3265125ecc663bfa", func := "loop.example/g01060/laws.FnExactPlacesOn", spec := "fnExactPlacesOn", unfollowed := true, recurses := true, apart := false, narrowed := true }
def FnExactPlacesOnUptoSaid : Prop := fnExactPlacesOnUptoRow.holds Try.pinned (OpenSpec.upto fnExactPlacesOnSpec)

end Rows
end Go.Proofs.Ytnfhaaiklekemaa
