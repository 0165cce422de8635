/-
  No cell of these rows narrows 'for every input' (looked for: loops, veiled, ifaces, maps, wideKeys, modest, calm, conditions, laid).
  DERIVED. THE GIVEN ROWS OF THIS SEAT. 7 by the template 'for every input the law returns true; each argument reads behind the call as it read before'; 0 by the template 'total and deterministic' (their statements: YtomfmphbnngdnaaTotals.lean).
  GIVEN WITH THE SEED: the statements are not yours to turn. If you find one false, say at which input.
  Laid BY PROGRAM, IN A SANDBOX (cutbox-rows.mjs): the forced cells as the released guide's own fill.sh prints them over the translation f79f83f46545c81e… (all of the seat's roots in one cut). By AI agents, Wed Nov 11 2026. No macro, syntax, notation, axiom, sorry.
-/
import Derived.Test.YtomfmphbnngdnaaChecked
import GoSem.Claim
import GoSem.ClaimJoined
import GoSem.ClaimMapViews
import Derived.JoinedTies
import Derived.KernelRfl
namespace Go.Proofs.Ytomfmphbnngdnaa
/- THE CELL 'sum', in the pinned program and in every row, IS THE sha256 OF THE DUMP (.gsa) THAT YtomfmphbnngdnaaProg.lean LOADS. Nothing in Lean hashes anything: it is a label: what it is worth is what the hold of that sum in a sandbox is worth. -/
noncomputable def Try.pinned : Pinned := { name := "ytomfmphbnngdnaa", sum := "f79f83f46545c81ee6bcaa309a9476058cf4abff48bbb2dbf39a7666e7923aeb", checked := Try.checked }
namespace Rows
def none {H : Type} : Left H := { results := [], args := [] }

/-- 'laws.FnExactWhoHas': WHATEVER THE INPUT: true; the input reads as it did. -/
def fnExactWhoHasSpec : ChangeSpec := { name := "fnExactWhoHas", fn := fun _ => fun
  | [d1, d2, d3] => { results := [.lit (.bool true)], args := [d1, d2, d3] }
  | _ => none }
def fnExactWhoHasRow : OpenClaim := { program := "ytomfmphbnngdnaa", sum := "f79f83f46545c81ee6bcaa309a9476058cf4abff48bbb2dbf39a7666e7923aeb", func := "loop.example/g01060/laws.FnExactWhoHas", spec := "fnExactWhoHas", apart := false }
def FnExactWhoHasSaid : Prop := fnExactWhoHasRow.holds Try.pinned (OpenSpec.ofChange fnExactWhoHasSpec)

/-- ITS FALSE NEIGHBOUR: 'it returns false'. Refute it at one input. -/
def fnExactWhoHasWrong : ChangeSpec := { name := "fnExactWhoHas", fn := fun _ => fun
  | [d1, d2, d3] => { results := [.lit (.bool false)], args := [d1, d2, d3] }
  | _ => none }
def FnExactWhoHasWrongFalsely : Prop := fnExactWhoHasRow.holds Try.pinned (OpenSpec.ofChange fnExactWhoHasWrong)

/-- 'laws.FnExactDaysLent': WHATEVER THE INPUT: true; the input reads as it did. -/
def fnExactDaysLentSpec : ChangeSpec := { name := "fnExactDaysLent", fn := fun _ => fun
  | [d1, d2, d3] => { results := [.lit (.bool true)], args := [d1, d2, d3] }
  | _ => none }
def fnExactDaysLentRow : OpenClaim := { program := "ytomfmphbnngdnaa", sum := "f79f83f46545c81ee6bcaa309a9476058cf4abff48bbb2dbf39a7666e7923aeb", func := "loop.example/g01060/laws.FnExactDaysLent", spec := "fnExactDaysLent", apart := false }
def FnExactDaysLentSaid : Prop := fnExactDaysLentRow.holds Try.pinned (OpenSpec.ofChange fnExactDaysLentSpec)

/-- ITS FALSE NEIGHBOUR: 'it returns false'. Refute it at one input. -/
def fnExactDaysLentWrong : ChangeSpec := { name := "fnExactDaysLent", fn := fun _ => fun
  | [d1, d2, d3] => { results := [.lit (.bool false)], args := [d1, d2, d3] }
  | _ => none }
def FnExactDaysLentWrongFalsely : Prop := fnExactDaysLentRow.holds Try.pinned (OpenSpec.ofChange fnExactDaysLentWrong)

/-- 'laws.FnExactLendSheet': WHATEVER THE INPUT: true; the input reads as it did. -/
def fnExactLendSheetSpec : ChangeSpec := { name := "fnExactLendSheet", fn := fun _ => fun
  | [d1, d2, d3, d4, d5] => { results := [.lit (.bool true)], args := [d1, d2, d3, d4, d5] }
  | _ => none }
def fnExactLendSheetRow : OpenClaim := { program := "ytomfmphbnngdnaa", sum := "f79f83f46545c81ee6bcaa309a9476058cf4abff48bbb2dbf39a7666e7923aeb", func := "loop.example/g01060/laws.FnExactLendSheet", spec := "fnExactLendSheet", apart := false }
def FnExactLendSheetSaid : Prop := fnExactLendSheetRow.holds Try.pinned (OpenSpec.ofChange fnExactLendSheetSpec)

/-- ITS FALSE NEIGHBOUR: 'it returns false'. Refute it at one input. -/
def fnExactLendSheetWrong : ChangeSpec := { name := "fnExactLendSheet", fn := fun _ => fun
  | [d1, d2, d3, d4, d5] => { results := [.lit (.bool false)], args := [d1, d2, d3, d4, d5] }
  | _ => none }
def FnExactLendSheetWrongFalsely : Prop := fnExactLendSheetRow.holds Try.pinned (OpenSpec.ofChange fnExactLendSheetWrong)

/-- 'laws.FnExactProlongLoan': WHATEVER THE INPUT: true; the input reads as it did. -/
def fnExactProlongLoanSpec : ChangeSpec := { name := "fnExactProlongLoan", fn := fun _ => fun
  | [d1, d2, d3, d4] => { results := [.lit (.bool true)], args := [d1, d2, d3, d4] }
  | _ => none }
def fnExactProlongLoanRow : OpenClaim := { program := "ytomfmphbnngdnaa", sum := "f79f83f46545c81ee6bcaa309a9476058cf4abff48bbb2dbf39a7666e7923aeb", func := "loop.example/g01060/laws.FnExactProlongLoan", spec := "fnExactProlongLoan", unfollowed := true, recurses := true, apart := false }
def FnExactProlongLoanSaid : Prop := fnExactProlongLoanRow.holds Try.pinned (OpenSpec.ofChange fnExactProlongLoanSpec)

/-- ITS FALSE NEIGHBOUR: 'it returns false'. Refute it at one input. -/
def fnExactProlongLoanWrong : ChangeSpec := { name := "fnExactProlongLoan", fn := fun _ => fun
  | [d1, d2, d3, d4] => { results := [.lit (.bool false)], args := [d1, d2, d3, d4] }
  | _ => none }
def FnExactProlongLoanWrongFalsely : Prop := fnExactProlongLoanRow.holds Try.pinned (OpenSpec.ofChange fnExactProlongLoanWrong)

/-- 'laws.FnExactReturnSheet': WHATEVER THE INPUT: true; the input reads as it did. -/
def fnExactReturnSheetSpec : ChangeSpec := { name := "fnExactReturnSheet", fn := fun _ => fun
  | [d1, d2, d3] => { results := [.lit (.bool true)], args := [d1, d2, d3] }
  | _ => none }
def fnExactReturnSheetRow : OpenClaim := { program := "ytomfmphbnngdnaa", sum := "f79f83f46545c81ee6bcaa309a9476058cf4abff48bbb2dbf39a7666e7923aeb", func := "loop.example/g01060/laws.FnExactReturnSheet", spec := "fnExactReturnSheet", unfollowed := true, recurses := true, apart := false }
def FnExactReturnSheetSaid : Prop := fnExactReturnSheetRow.holds Try.pinned (OpenSpec.ofChange fnExactReturnSheetSpec)

/-- ITS FALSE NEIGHBOUR: 'it returns false'. Refute it at one input. -/
def fnExactReturnSheetWrong : ChangeSpec := { name := "fnExactReturnSheet", fn := fun _ => fun
  | [d1, d2, d3] => { results := [.lit (.bool false)], args := [d1, d2, d3] }
  | _ => none }
def FnExactReturnSheetWrongFalsely : Prop := fnExactReturnSheetRow.holds Try.pinned (OpenSpec.ofChange fnExactReturnSheetWrong)

/-- 'laws.FnExactFavoriteSheet': WHATEVER THE INPUT: true; the input reads as it did. -/
def fnExactFavoriteSheetSpec : ChangeSpec := { name := "fnExactFavoriteSheet", fn := fun _ => fun
  | [d] => { results := [.lit (.bool true)], args := [d] }
  | _ => none }
def fnExactFavoriteSheetRow : OpenClaim := { program := "ytomfmphbnngdnaa", sum := "f79f83f46545c81ee6bcaa309a9476058cf4abff48bbb2dbf39a7666e7923aeb", func := "loop.example/g01060/laws.FnExactFavoriteSheet", spec := "fnExactFavoriteSheet", unfollowed := true, recurses := true, apart := false }
def FnExactFavoriteSheetSaid : Prop := fnExactFavoriteSheetRow.holds Try.pinned (OpenSpec.ofChange fnExactFavoriteSheetSpec)

/-- ITS FALSE NEIGHBOUR: 'it returns false'. Refute it at one input. -/
def fnExactFavoriteSheetWrong : ChangeSpec := { name := "fnExactFavoriteSheet", fn := fun _ => fun
  | [d] => { results := [.lit (.bool false)], args := [d] }
  | _ => none }
def FnExactFavoriteSheetWrongFalsely : Prop := fnExactFavoriteSheetRow.holds Try.pinned (OpenSpec.ofChange fnExactFavoriteSheetWrong)

/-- 'laws.FnExactOpenLoans': WHATEVER THE INPUT: true; the input reads as it did. -/
def fnExactOpenLoansSpec : ChangeSpec := { name := "fnExactOpenLoans", fn := fun _ => fun
  | [d1, d2, d3] => { results := [.lit (.bool true)], args := [d1, d2, d3] }
  | _ => none }
def fnExactOpenLoansRow : OpenClaim := { program := "ytomfmphbnngdnaa", sum := "f79f83f46545c81ee6bcaa309a9476058cf4abff48bbb2dbf39a7666e7923aeb", func := "loop.example/g01060/laws.FnExactOpenLoans", spec := "fnExactOpenLoans", unfollowed := true, recurses := true, apart := false }
def FnExactOpenLoansSaid : Prop := fnExactOpenLoansRow.holds Try.pinned (OpenSpec.ofChange fnExactOpenLoansSpec)

/-- ITS FALSE NEIGHBOUR: 'it returns false'. Refute it at one input. -/
def fnExactOpenLoansWrong : ChangeSpec := { name := "fnExactOpenLoans", fn := fun _ => fun
  | [d1, d2, d3] => { results := [.lit (.bool false)], args := [d1, d2, d3] }
  | _ => none }
def FnExactOpenLoansWrongFalsely : Prop := fnExactOpenLoansRow.holds Try.pinned (OpenSpec.ofChange fnExactOpenLoansWrong)

/- THE SECOND FORM. 'bulk': how many values and letters a reading holds, each counted each time it is reached (what is shared counts as often as it is met; a slice's spare places count too). A statement '..UptoSaid' is the law's where the arguments, and the package variables that the reading takes, are together of bulk at most 1048576: NARROWER than '..Said'. Prove '..Said' where nothing that the law and all that it calls make is longer than what came in: it says more and counts as full. Else prove '..UptoSaid'. A law counts once. -/
mutual
def uptoBulk {H : Type} : DataW H → Nat
  | .lit (.string bytes) => bytes.length + 1
  | .lit _ => 1
  | .nil => 1
  | .ptr d => uptoBulk d + 1
  | .slice elems spare => uptoBulkAll elems + uptoBulkAll spare + 1
  | .agg parts => uptoBulkAll parts + 1
  | .iface _ d => uptoBulk d + 1
  | .map entries => uptoBulkEntries entries + 1
  | .held _ => 1
def uptoBulkAll {H : Type} : List (DataW H) → Nat
  | [] => 0
  | d :: r => uptoBulk d + uptoBulkAll r
def uptoBulkEntries {H : Type} : List (Lit × DataW H) → Nat
  | [] => 0
  | x :: r => uptoBulkEntry x + uptoBulkEntries r
def uptoBulkEntry {H : Type} : Lit × DataW H → Nat
  | (.string bytes, d) => bytes.length + uptoBulk d + 1
  | (_, d) => uptoBulk d + 1
 end
def uptoSmall : (H : Type) → List (DataW H) → Bool := fun _ ds => decide (uptoBulkAll ds ≤ 1048576)
def OpenSpec.upto (s : _root_.Go.ChangeSpec) : _root_.Go.OpenSpec := { _root_.Go.OpenSpec.ofChange s with cond := some uptoSmall }

/-- 'laws.FnExactWhoHas', WHERE WHAT IT READS IS OF BULK AT MOST 1048576: true; the input reads as it did. -/
def fnExactWhoHasUptoRow : OpenClaim := { program := "ytomfmphbnngdnaa", sum := "f79f83f46545c81ee6bcaa309a9476058cf4abff48bbb2dbf39a7666e7923aeb", func := "loop.example/g01060/laws.FnExactWhoHas", spec := "fnExactWhoHas", apart := false, narrowed := true }
def FnExactWhoHasUptoSaid : Prop := fnExactWhoHasUptoRow.holds Try.pinned (OpenSpec.upto fnExactWhoHasSpec)

/-- 'laws.FnExactDaysLent', WHERE WHAT IT READS IS OF BULK AT MOST 1048576: true; the input reads as it did. -/
def fnExactDaysLentUptoRow : OpenClaim := { program := "ytomfmphbnngdnaa", sum := "f79f83f46545c81ee6bcaa309a9476058cf4abff48bbb2dbf39a7666e7923aeb", func := "loop.example/g01060/laws.FnExactDaysLent", spec := "fnExactDaysLent", apart := false, narrowed := true }
def FnExactDaysLentUptoSaid : Prop := fnExactDaysLentUptoRow.holds Try.pinned (OpenSpec.upto fnExactDaysLentSpec)

/-- 'laws.FnExactLendSheet', WHERE WHAT IT READS IS OF BULK AT MOST 1048576: true; the input reads as it did. -/
def fnExactLendSheetUptoRow : OpenClaim := { program := "ytomfmphbnngdnaa", sum := "f79f83f46545c81ee6bcaa309a9476058cf4abff48bbb2dbf39a7666e7923aeb", func := "loop.example/g01060/laws.FnExactLendSheet", spec := "fnExactLendSheet", apart := false, narrowed := true }
def FnExactLendSheetUptoSaid : Prop := fnExactLendSheetUptoRow.holds Try.pinned (OpenSpec.upto fnExactLendSheetSpec)

/-- 'laws.FnExactProlongLoan', WHERE WHAT IT READS IS OF BULK AT MOST 1048576: true; the input reads as it did. -/
def fnExactProlongLoanUptoRow : OpenClaim := { program := "ytomfmphbnngdnaa", sum := "f79f83f46545c81ee6bcaa309a9476058cf4abff48bbb2dbf39a7666e7923aeb", func := "loop.example/g01060/laws.FnExactProlongLoan", spec := "fnExactProlongLoan", unfollowed := true, recurses := true, apart := false, narrowed := true }
def FnExactProlongLoanUptoSaid : Prop := fnExactProlongLoanUptoRow.holds Try.pinned (OpenSpec.upto fnExactProlongLoanSpec)

/-- 'laws.FnExactReturnSheet', WHERE WHAT IT READS IS OF BULK AT MOST 1048576: true; the input reads as it did. -/
def fnExactReturnSheetUptoRow : OpenClaim := { program := "ytomfmphbnngdnaa", sum := "f79f83f46545c81ee6bcaa309a9476058cf4abff48bbb2dbf39a7666e7923aeb", func := "loop.example/g01060/laws.FnExactReturnSheet", spec := "fnExactReturnSheet", unfollowed := true, recurses := true, apart := false, narrowed := true }
def FnExactReturnSheetUptoSaid : Prop := fnExactReturnSheetUptoRow.holds Try.pinned (OpenSpec.upto fnExactReturnSheetSpec)

/-- 'laws.FnExactFavoriteSheet', WHERE WHAT IT READS IS OF BULK AT MOST 1048576: true; the input reads as it did. -/
def fnExactFavoriteSheetUptoRow : OpenClaim := { program := "ytomfmphbnngdnaa", sum := "f79f83f46545c81ee6bcaa309a9476058cf4abff48bbb2dbf39a7666e7923aeb", func := "loop.example/g01060/laws.FnExactFavoriteSheet", spec := "fnExactFavoriteSheet", unfollowed := true, recurses := true, apart := false, narrowed := true }
def FnExactFavoriteSheetUptoSaid : Prop := fnExactFavoriteSheetUptoRow.holds Try.pinned (OpenSpec.upto fnExactFavoriteSheetSpec)

/-- 'laws.FnExactOpenLoans', WHERE WHAT IT READS IS OF BULK AT MOST 1048576: true; the input reads as it did. -/
def fnExactOpenLoansUptoRow : OpenClaim := { program := "ytomfmphbnngdnaa", sum := "f79f83f46545c81ee6bcaa309a9476058cf4abff48bbb2dbf39a7666e7923aeb", func := "loop.example/g01060/laws.FnExactOpenLoans", spec := "fnExactOpenLoans", unfollowed := true, recurses := true, apart := false, narrowed := true }
def FnExactOpenLoansUptoSaid : Prop := fnExactOpenLoansUptoRow.holds Try.pinned (OpenSpec.upto fnExactOpenLoansSpec)

end Rows
end Go.Proofs.Ytomfmphbnngdnaa
