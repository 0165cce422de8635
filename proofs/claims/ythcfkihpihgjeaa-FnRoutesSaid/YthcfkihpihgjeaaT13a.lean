/- WayBack: the plain law. -/
import Derived.Test.YthcfkihpihgjeaaT1
import Derived.Test.YthcfkihpihgjeaaOwn
namespace Go.Proofs.Ythcfkihpihgjeaa
open Go.RowKit
set_option linter.unusedVariables false
set_option linter.unusedSimpArgs false

def bkX (x : Lg) : Lg := ⟨(x.w + 4) % 8, x.u, -x.c⟩
def wbL (zs : List Lg) : List Lg := (zs.map bkX).reverse
def wbV (zs : List Lg) : List Lg := if routeB zs then wbL zs else []
theorem wb_len {zs : List Lg} : (wbV zs).length ≤ zs.length := by unfold wbV wbL; split <;> simp
theorem bk_succ {zs : List Lg} {k : Nat} {x : Lg} (hx : zs[k]? = some x) : (zs.take (k + 1)).map bkX = (zs.take k).map bkX ++ [bkX x] := by
  rw [List.take_add_one, hx]; simp
theorem wb_rev (zs : List Lg) : zs.reverse.map bkX = wbL zs := by unfold wbL; rw [List.map_reverse]

end Go.Proofs.Ythcfkihpihgjeaa
