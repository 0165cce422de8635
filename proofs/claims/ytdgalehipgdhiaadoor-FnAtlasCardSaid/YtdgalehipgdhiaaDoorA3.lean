/- PageAt and its reference. -/
import Derived.Test.YtdgalehipgdhiaaDoorA2
namespace Go.Proofs.YtdgalehipgdhiaaDoor
open Go.RowKit
set_option linter.unusedVariables false
set_option linter.unusedSimpArgs false

def pOk (zs : List Pg) (r c : Int) : Bool := atlasB zs && placeB r c
def pageV (zs : List Pg) (r c : Int) : Int := if pOk zs r c then idxB (isP r c) zs + 1 else 0
theorem ret_ib3 {a b : Int} {c d : Bool} (h1 : a = b) (h2 : c = d) : Ending.returned (.tuple #[.int .i64 a, .bool c]) = .returned (.tuple #[.int .i64 b, .bool d]) := by rw [h1, h2]
theorem idx_wrap {p : Pg → Bool} {zs : List Pg} {n : Nat} (hz : zs.length = n) (hn : n ≤ 1048576) : IntKind.i64.wrap (idxB p zs + 1) = idxB p zs + 1 := by
  have := idx_le (p := p) hz
  exact IntWalk.i64_in _ (by omega)
theorem bl_eq {w w' : World} (h : w = w') : Below w.heap.size w w' := by subst h; exact Below.refl _ _

end Go.Proofs.YtdgalehipgdhiaaDoor
