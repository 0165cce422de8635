/-
  No cell of these rows narrows 'for every input' (looked for: loops, veiled, ifaces, maps, wideKeys, modest, calm, conditions, laid).
  DERIVED. THE GIVEN ROWS OF THIS SEAT. 5 by the template 'for every input the law returns true; each argument reads behind the call as it read before'; 0 by the template 'total and deterministic' (their statements: YtdgalehipgdhiaaTotals.lean).
  GIVEN WITH THE SEED: the statements are not yours to turn. If you find one false, say at which input.
  Laid BY PROGRAM, IN A SANDBOX (cutbox-rows.mjs): the forced cells as the released guide's own fill.sh prints them over the translation 5d81b6498a336b20… (all of the seat's roots in one cut). By AI agents, Wed Nov 11 2026. No macro, syntax, notation, axiom, sorry.
-/
import Derived.Test.YtdgalehipgdhiaaChecked
import GoSem.Claim
import GoSem.ClaimJoined
import GoSem.ClaimMapViews
import Derived.JoinedTies
import Derived.KernelRfl
namespace Go.Proofs.Ytdgalehipgdhiaa
/- THE CELL 'sum', in the pinned program and in every row, IS THE sha256 OF THE DUMP (.gsa) THAT YtdgalehipgdhiaaProg.lean LOADS. Nothing in Lean hashes anything: it is a label: what it is worth is what the hold of that sum in a sandbox is worth. -/
noncomputable def Try.pinned : Pinned := { name := "ytdgalehipgdhiaa", sum := "5d81b6498a336b20a7548225a89fe471f475bcfa474d0e52be214ffa887b04a2", checked := Try.checked }
namespace Rows
def none {H : Type} : Left H := { results := [], args := [] }

/-- 'laws.FnExactIsOneCountry': WHATEVER THE INPUT: true; the input reads as it did. -/
def fnExactIsOneCountrySpec : ChangeSpec := { name := "fnExactIsOneCountry", fn := fun _ => fun
  | [d] => { results := [.lit (.bool true)], args := [d] }
  | _ => none }
def fnExactIsOneCountryRow : OpenClaim := { program := "ytdgalehipgdhiaa", sum := "5d81b6498a336b20a7548225a89fe471f475bcfa474d0e52be214ffa887b04a2", func := "loop.example/g01060/laws.FnExactIsOneCountry", spec := "fnExactIsOneCountry", unfollowed := true, recurses := true, apart := false }
def FnExactIsOneCountrySaid : Prop := fnExactIsOneCountryRow.holds Try.pinned (OpenSpec.ofChange fnExactIsOneCountrySpec)

/-- ITS FALSE NEIGHBOUR: 'it returns false'. Refute it at one input. -/
def fnExactIsOneCountryWrong : ChangeSpec := { name := "fnExactIsOneCountry", fn := fun _ => fun
  | [d] => { results := [.lit (.bool false)], args := [d] }
  | _ => none }
def FnExactIsOneCountryWrongFalsely : Prop := fnExactIsOneCountryRow.holds Try.pinned (OpenSpec.ofChange fnExactIsOneCountryWrong)

/-- 'laws.FnExactDropPage': WHATEVER THE INPUT: true; the input reads as it did. -/
def fnExactDropPageSpec : ChangeSpec := { name := "fnExactDropPage", fn := fun _ => fun
  | [d1, d2] => { results := [.lit (.bool true)], args := [d1, d2] }
  | _ => none }
def fnExactDropPageRow : OpenClaim := { program := "ytdgalehipgdhiaa", sum := "5d81b6498a336b20a7548225a89fe471f475bcfa474d0e52be214ffa887b04a2", func := "loop.example/g01060/laws.FnExactDropPage", spec := "fnExactDropPage", unfollowed := true, recurses := true, apart := false }
def FnExactDropPageSaid : Prop := fnExactDropPageRow.holds Try.pinned (OpenSpec.ofChange fnExactDropPageSpec)

/-- ITS FALSE NEIGHBOUR: 'it returns false'. Refute it at one input. -/
def fnExactDropPageWrong : ChangeSpec := { name := "fnExactDropPage", fn := fun _ => fun
  | [d1, d2] => { results := [.lit (.bool false)], args := [d1, d2] }
  | _ => none }
def FnExactDropPageWrongFalsely : Prop := fnExactDropPageRow.holds Try.pinned (OpenSpec.ofChange fnExactDropPageWrong)

/-- 'laws.FnExactBestOrder': WHATEVER THE INPUT: true; the input reads as it did. -/
def fnExactBestOrderSpec : ChangeSpec := { name := "fnExactBestOrder", fn := fun _ => fun
  | [d] => { results := [.lit (.bool true)], args := [d] }
  | _ => none }
def fnExactBestOrderRow : OpenClaim := { program := "ytdgalehipgdhiaa", sum := "5d81b6498a336b20a7548225a89fe471f475bcfa474d0e52be214ffa887b04a2", func := "loop.example/g01060/laws.FnExactBestOrder", spec := "fnExactBestOrder", unfollowed := true, recurses := true, apart := false }
def FnExactBestOrderSaid : Prop := fnExactBestOrderRow.holds Try.pinned (OpenSpec.ofChange fnExactBestOrderSpec)

/-- ITS FALSE NEIGHBOUR: 'it returns false'. Refute it at one input. -/
def fnExactBestOrderWrong : ChangeSpec := { name := "fnExactBestOrder", fn := fun _ => fun
  | [d] => { results := [.lit (.bool false)], args := [d] }
  | _ => none }
def FnExactBestOrderWrongFalsely : Prop := fnExactBestOrderRow.holds Try.pinned (OpenSpec.ofChange fnExactBestOrderWrong)

/-- 'laws.FnExactOrderedAtlas': WHATEVER THE INPUT: true; the input reads as it did. -/
def fnExactOrderedAtlasSpec : ChangeSpec := { name := "fnExactOrderedAtlas", fn := fun _ => fun
  | [d] => { results := [.lit (.bool true)], args := [d] }
  | _ => none }
def fnExactOrderedAtlasRow : OpenClaim := { program := "ytdgalehipgdhiaa", sum := "5d81b6498a336b20a7548225a89fe471f475bcfa474d0e52be214ffa887b04a2", func := "loop.example/g01060/laws.FnExactOrderedAtlas", spec := "fnExactOrderedAtlas", unfollowed := true, recurses := true, apart := false }
def FnExactOrderedAtlasSaid : Prop := fnExactOrderedAtlasRow.holds Try.pinned (OpenSpec.ofChange fnExactOrderedAtlasSpec)

/-- ITS FALSE NEIGHBOUR: 'it returns false'. Refute it at one input. -/
def fnExactOrderedAtlasWrong : ChangeSpec := { name := "fnExactOrderedAtlas", fn := fun _ => fun
  | [d] => { results := [.lit (.bool false)], args := [d] }
  | _ => none }
def FnExactOrderedAtlasWrongFalsely : Prop := fnExactOrderedAtlasRow.holds Try.pinned (OpenSpec.ofChange fnExactOrderedAtlasWrong)

/-- 'laws.FnOrders': WHATEVER THE INPUT: true; the input reads as it did. -/
def fnOrdersSpec : ChangeSpec := { name := "fnOrders", fn := fun _ => fun
  | [d] => { results := [.lit (.bool true)], args := [d] }
  | _ => none }
def fnOrdersRow : OpenClaim := { program := "ytdgalehipgdhiaa", sum := "5d81b6498a336b20a7548225a89fe471f475bcfa474d0e52be214ffa887b04a2", func := "loop.example/g01060/laws.FnOrders", spec := "fnOrders", unfollowed := true, recurses := true, apart := false }
def FnOrdersSaid : Prop := fnOrdersRow.holds Try.pinned (OpenSpec.ofChange fnOrdersSpec)

/-- ITS FALSE NEIGHBOUR: 'it returns false'. Refute it at one input. -/
def fnOrdersWrong : ChangeSpec := { name := "fnOrders", fn := fun _ => fun
  | [d] => { results := [.lit (.bool false)], args := [d] }
  | _ => none }
def FnOrdersWrongFalsely : Prop := fnOrdersRow.holds Try.pinned (OpenSpec.ofChange fnOrdersWrong)

/- THE SECOND FORM. 'bulk': how many values and letters a reading holds, each counted each time it is reached (what is shared counts as often as it is met; a slice's spare places count too). A statement '..UptoSaid' is the law's where the arguments, and the package variables that the reading takes, are together of bulk at most 1048576: NARROWER than '..Said'. Prove '..Said' where nothing that the law and all that it calls make is longer than what came in: it says more and counts as full. Else prove '..UptoSaid'. A law counts once. -/
mutual
def uptoBulk {H : Type} : DataW H → Nat
  | .lit (.string bytes) => bytes.length + 1
  | .lit _ => 1
  | .nil => 1
  | .ptr d => uptoBulk d + 1
  | .slice elems spare => uptoBulkAll elems + uptoBulkAll spare + 1
  | .agg parts => uptoBulkAll parts + 1
  | .iface _ d => uptoBulk d + 1
  | .map entries => uptoBulkEntries entries + 1
  | .held _ => 1
def uptoBulkAll {H : Type} : List (DataW H) → Nat
  | [] => 0
  | d :: r => uptoBulk d + uptoBulkAll r
def uptoBulkEntries {H : Type} : List (Lit × DataW H) → Nat
  | [] => 0
  | x :: r => uptoBulkEntry x + uptoBulkEntries r
def uptoBulkEntry {H : Type} : Lit × DataW H → Nat
  | (.string bytes, d) => bytes.length + uptoBulk d + 1
  | (_, d) => uptoBulk d + 1
 end
def uptoSmall : (H : Type) → List (DataW H) → Bool := fun _ ds => decide (uptoBulkAll ds ≤ 1048576)
def OpenSpec.upto (s : _root_.Go.ChangeSpec) : _root_.Go.OpenSpec := { _root_.Go.OpenSpec.ofChange s with cond := some uptoSmall }

/-- 'laws.FnExactIsOneCountry', WHERE WHAT IT READS IS OF BULK AT MOST 1048576: true; the input reads as it did. -/
def fnExactIsOneCountryUptoRow : OpenClaim := { program := "ytdgalehipgdhiaa", sum := "5d81b6498a336b20a7548225a89fe471f475bcfa474d0e52be214ffa887b04a2", func := "loop.example/g01060/laws.FnExactIsOneCountry", spec := "fnExactIsOneCountry", unfollowed := true, recurses := true, apart := false, narrowed := true }
def FnExactIsOneCountryUptoSaid : Prop := fnExactIsOneCountryUptoRow.holds Try.pinned (OpenSpec.upto fnExactIsOneCountrySpec)

/-- 'laws.FnExactDropPage', WHERE WHAT IT READS IS OF BULK AT MOST 1048576: true; the input reads as it did. -/
def fnExactDropPageUptoRow : OpenClaim := { program := "ytdgalehipgdhiaa", sum := "5d81b6498a336b20a7548225a89fe471f475bcfa474d0e52be214ffa887b04a2", func := "loop.example/g01060/laws.FnExactDropPage", spec := "fnExactDropPage", unfollowed := true, recurses := true, apart := false, narrowed := true }
def FnExactDropPageUptoSaid : Prop := fnExactDropPageUptoRow.holds Try.pinned (OpenSpec.upto fnExactDropPageSpec)

/-- 'laws.FnExactBestOrder', WHERE WHAT IT READS IS OF BULK AT MOST 1048576: true; the input reads as it did. -/
def fnExactBestOrderUptoRow : OpenClaim := { program := "ytdgalehipgdhiaa", sum := "5d81b6498a336b20a7548225a89fe471f475bcfa474d0e52be214ffa887b04a2", func := "loop.example/g01060/laws.FnExactBestOrder", spec := "fnExactBestOrder", unfollowed := true, recurses := true, apart := false, narrowed := true }
def FnExactBestOrderUptoSaid : Prop := fnExactBestOrderUptoRow.holds Try.pinned (OpenSpec.upto fnExactBestOrderSpec)

/-- 'laws.FnExactOrderedAtlas', WHERE WHAT IT READS IS OF BULK AT MOST 1048576: true; the input reads as it did. -/
def fnExactOrderedAtlasUptoRow : OpenClaim := { program := "ytdgalehipgdhiaa", sum := "5d81b6498a336b20a7548225a89fe471f475bcfa474d0e52be214ffa887b04a2", func := "loop.example/g01060/laws.FnExactOrderedAtlas", spec := "fnExactOrderedAtlas", unfollowed := true, recurses := true, apart := false, narrowed := true }
def FnExactOrderedAtlasUptoSaid : Prop := fnExactOrderedAtlasUptoRow.holds Try.pinned (OpenSpec.upto fnExactOrderedAtlasSpec)

/-- 'laws.FnOrders', WHERE WHAT IT READS IS OF BULK AT MOST 1048576: true; the input reads as it did. -/
def fnOrdersUptoRow : OpenClaim := { program := "ytdgalehipgdhiaa", sum := "5d81b6498a336b20a7548225a89fe471f475bcfa474d0e52be214ffa887b04a2", func := "loop.example/g01060/laws.FnOrders", spec := "fnOrders", unfollowed := true, recurses := true, apart := false, narrowed := true }
def FnOrdersUptoSaid : Prop := fnOrdersUptoRow.holds Try.pinned (OpenSpec.upto fnOrdersSpec)

end Rows
end Go.Proofs.Ytdgalehipgdhiaa
