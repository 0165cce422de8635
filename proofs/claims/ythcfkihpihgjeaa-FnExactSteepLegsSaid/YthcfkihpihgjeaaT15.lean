/- Where a unit of a way leads. -/
import Derived.Test.YthcfkihpihgjeaaT1
import Derived.Shelf.RegionOpenPlain
namespace Go.Proofs.Ythcfkihpihgjeaa
open Go.RowKit
set_option linter.unusedVariables false
set_option linter.unusedSimpArgs false

def dX (w : Int) : Int := [0, 1, 1, 1, 0, -1, -1, -1].getD w.toNat 0
def dY (w : Int) : Int := [1, 1, 0, -1, -1, -1, 0, 1].getD w.toNat 0
theorem way8 {w : Int} (h : 0 ≤ w ∧ w ≤ 7) : w = 0 ∨ w = 1 ∨ w = 2 ∨ w = 3 ∨ w = 4 ∨ w = 5 ∨ w = 6 ∨ w = 7 := by omega
set_option maxRecDepth 100000 in
set_option maxHeartbeats 4000000 in
theorem l15Step_any (a : Int) (w : World) (h : 0 ≤ a ∧ a ≤ 7) : Calls Try.prog 67 #[.int .i64 a] w fun e w' => e = .returned (.tuple #[.int .i64 (dX a), .int .i64 (dY a)]) ∧ Below w.heap.size w w' := by
  have mixed : Try.prog.follows .mixedOrders = true := by kernel_rfl
  rcases way8 h with rfl | rfl | rfl | rfl | rfl | rfl | rfl | rfl
  all_goals
    clear h
    go_enter Try.func67, Try.ntmps67
    go_wp2_with fail
    go_region_o
    all_goals
      go_wp2
      go_ret2
      exact ⟨rfl, Below.drew (((Below.refl _ w).alloc (Nat.le_refl _) _).alloc (by simp) _)⟩

end Go.Proofs.Ythcfkihpihgjeaa
