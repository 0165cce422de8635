/- The law FnExactFaultName walked. -/
import Derived.Test.YtnfhaaiklekemaaSmall
namespace Go.Proofs.Ytnfhaaiklekemaa
open Go.RowKit
set_option linter.unusedVariables false

set_option maxRecDepth 100000 in
theorem law_FnExactFaultName (i0 : Int) (w : World) (hi0 : okI i0) :
    Calls Try.prog 3 #[.int .i64 i0] w fun e w' => e = .returned (.bool true) ∧ Below w.heap.size w w' := by
  by_cases h : 0 ≤ i0 ∧ i0 ≤ 4
  · have h5 : i0 = 0 ∨ i0 = 1 ∨ i0 = 2 ∨ i0 = 3 ∨ i0 = 4 := by omega
    clear h hi0
    rcases h5 with rfl | rfl | rfl | rfl | rfl
    all_goals
      go_enter Try.func3, Try.ntmps3
      go_wp2
      go_ret
      exact ⟨rfl, ((Below.refl _ _).alloc (Nat.le_refl _) _).alloc (by simp) _⟩
  · have h1 : inB i0 0 4 = false := by
      rw [Bool.eq_false_iff]; intro hh; exact h (inB_iff.1 hh)
    clear h
    go_enter Try.func3, Try.ntmps3
    go_wp2_with (first | (go_at_call 50; refine (l1In_any _ _ _ _).mono ?_; rintro e w' ⟨rfl, rfl⟩) | (go_at_call 51; refine (within_any _ _ _ _).mono ?_; rintro e w' ⟨rfl, rfl⟩) | go_in)
    go_ret
    exact ⟨rfl, Below.refl _ _⟩

end Go.Proofs.Ytnfhaaiklekemaa
