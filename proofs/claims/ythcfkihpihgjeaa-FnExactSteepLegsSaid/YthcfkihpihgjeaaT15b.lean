/- Where a unit of a leg leads. -/
import Derived.Test.YthcfkihpihgjeaaT15
namespace Go.Proofs.Ythcfkihpihgjeaa
open Go.RowKit
set_option linter.unusedVariables false
set_option linter.unusedSimpArgs false

set_option maxRecDepth 100000
set_option maxHeartbeats 1000000
theorem unit0_any (u c : Int) (w : World) : Calls Try.prog 68 #[.agg #[.int .i64 0, .int .i64 u, .int .i64 c]] w fun e w' => e = .returned (.tuple #[.int .i64 (0), .int .i64 (1)]) ∧ Below w.heap.size w w' := by
  obtain ⟨W, hW⟩ : ∃ W, W = (w.alloc (.cells #[.int .i64 0, .int .i64 u, .int .i64 c] 65)).alloc (.cells #[.int .i64 0, .int .i64 1, .int .i64 1, .int .i64 1, .int .i64 1, .int .i64 0, .int .i64 1, .int .i64 (-1), .int .i64 0, .int .i64 (-1), .int .i64 (-1), .int .i64 (-1), .int .i64 (-1), .int .i64 0, .int .i64 (-1), .int .i64 1] 93) := ⟨_, rfl⟩
  have HB : Hid (Below w.heap.size w W) := hide (by rw [hW]; exact ((Below.refl _ w).alloc (Nat.le_refl _) _).alloc (by simp) _)
  have e0 : W.cell? ⟨w.heap.size, 0, none⟩ = some (.int .i64 0) := by rw [hW]; simp
  have e1 : W.cell? ⟨w.heap.size + 1, 0, none⟩ = some (.int .i64 (0)) := by rw [hW]; simp
  have e2 : W.cell? ⟨w.heap.size + 1, 1, none⟩ = some (.int .i64 (1)) := by rw [hW]; simp
  have HW := hide hW
  clear hW
  go_enter Try.func68, Try.ntmps68
  go_wp2_with fail
  rw [← HW.out]
  go_still (by kernel_rfl)
  change Exit.then _ _ Exit.normal _ W.drew
  go_wp2
  go_ret2
  exact ⟨rfl, Below.drew HB.out⟩
theorem unit1_any (u c : Int) (w : World) : Calls Try.prog 68 #[.agg #[.int .i64 1, .int .i64 u, .int .i64 c]] w fun e w' => e = .returned (.tuple #[.int .i64 (1), .int .i64 (1)]) ∧ Below w.heap.size w w' := by
  obtain ⟨W, hW⟩ : ∃ W, W = (w.alloc (.cells #[.int .i64 1, .int .i64 u, .int .i64 c] 65)).alloc (.cells #[.int .i64 0, .int .i64 1, .int .i64 1, .int .i64 1, .int .i64 1, .int .i64 0, .int .i64 1, .int .i64 (-1), .int .i64 0, .int .i64 (-1), .int .i64 (-1), .int .i64 (-1), .int .i64 (-1), .int .i64 0, .int .i64 (-1), .int .i64 1] 93) := ⟨_, rfl⟩
  have HB : Hid (Below w.heap.size w W) := hide (by rw [hW]; exact ((Below.refl _ w).alloc (Nat.le_refl _) _).alloc (by simp) _)
  have e0 : W.cell? ⟨w.heap.size, 0, none⟩ = some (.int .i64 1) := by rw [hW]; simp
  have e1 : W.cell? ⟨w.heap.size + 1, 2, none⟩ = some (.int .i64 (1)) := by rw [hW]; simp
  have e2 : W.cell? ⟨w.heap.size + 1, 3, none⟩ = some (.int .i64 (1)) := by rw [hW]; simp
  have HW := hide hW
  clear hW
  go_enter Try.func68, Try.ntmps68
  go_wp2_with fail
  rw [← HW.out]
  go_still (by kernel_rfl)
  change Exit.then _ _ Exit.normal _ W.drew
  go_wp2
  go_ret2
  exact ⟨rfl, Below.drew HB.out⟩
theorem unit2_any (u c : Int) (w : World) : Calls Try.prog 68 #[.agg #[.int .i64 2, .int .i64 u, .int .i64 c]] w fun e w' => e = .returned (.tuple #[.int .i64 (1), .int .i64 (0)]) ∧ Below w.heap.size w w' := by
  obtain ⟨W, hW⟩ : ∃ W, W = (w.alloc (.cells #[.int .i64 2, .int .i64 u, .int .i64 c] 65)).alloc (.cells #[.int .i64 0, .int .i64 1, .int .i64 1, .int .i64 1, .int .i64 1, .int .i64 0, .int .i64 1, .int .i64 (-1), .int .i64 0, .int .i64 (-1), .int .i64 (-1), .int .i64 (-1), .int .i64 (-1), .int .i64 0, .int .i64 (-1), .int .i64 1] 93) := ⟨_, rfl⟩
  have HB : Hid (Below w.heap.size w W) := hide (by rw [hW]; exact ((Below.refl _ w).alloc (Nat.le_refl _) _).alloc (by simp) _)
  have e0 : W.cell? ⟨w.heap.size, 0, none⟩ = some (.int .i64 2) := by rw [hW]; simp
  have e1 : W.cell? ⟨w.heap.size + 1, 4, none⟩ = some (.int .i64 (1)) := by rw [hW]; simp
  have e2 : W.cell? ⟨w.heap.size + 1, 5, none⟩ = some (.int .i64 (0)) := by rw [hW]; simp
  have HW := hide hW
  clear hW
  go_enter Try.func68, Try.ntmps68
  go_wp2_with fail
  rw [← HW.out]
  go_still (by kernel_rfl)
  change Exit.then _ _ Exit.normal _ W.drew
  go_wp2
  go_ret2
  exact ⟨rfl, Below.drew HB.out⟩
theorem unit3_any (u c : Int) (w : World) : Calls Try.prog 68 #[.agg #[.int .i64 3, .int .i64 u, .int .i64 c]] w fun e w' => e = .returned (.tuple #[.int .i64 (1), .int .i64 (-1)]) ∧ Below w.heap.size w w' := by
  obtain ⟨W, hW⟩ : ∃ W, W = (w.alloc (.cells #[.int .i64 3, .int .i64 u, .int .i64 c] 65)).alloc (.cells #[.int .i64 0, .int .i64 1, .int .i64 1, .int .i64 1, .int .i64 1, .int .i64 0, .int .i64 1, .int .i64 (-1), .int .i64 0, .int .i64 (-1), .int .i64 (-1), .int .i64 (-1), .int .i64 (-1), .int .i64 0, .int .i64 (-1), .int .i64 1] 93) := ⟨_, rfl⟩
  have HB : Hid (Below w.heap.size w W) := hide (by rw [hW]; exact ((Below.refl _ w).alloc (Nat.le_refl _) _).alloc (by simp) _)
  have e0 : W.cell? ⟨w.heap.size, 0, none⟩ = some (.int .i64 3) := by rw [hW]; simp
  have e1 : W.cell? ⟨w.heap.size + 1, 6, none⟩ = some (.int .i64 (1)) := by rw [hW]; simp
  have e2 : W.cell? ⟨w.heap.size + 1, 7, none⟩ = some (.int .i64 (-1)) := by rw [hW]; simp
  have HW := hide hW
  clear hW
  go_enter Try.func68, Try.ntmps68
  go_wp2_with fail
  rw [← HW.out]
  go_still (by kernel_rfl)
  change Exit.then _ _ Exit.normal _ W.drew
  go_wp2
  go_ret2
  exact ⟨rfl, Below.drew HB.out⟩
theorem unit4_any (u c : Int) (w : World) : Calls Try.prog 68 #[.agg #[.int .i64 4, .int .i64 u, .int .i64 c]] w fun e w' => e = .returned (.tuple #[.int .i64 (0), .int .i64 (-1)]) ∧ Below w.heap.size w w' := by
  obtain ⟨W, hW⟩ : ∃ W, W = (w.alloc (.cells #[.int .i64 4, .int .i64 u, .int .i64 c] 65)).alloc (.cells #[.int .i64 0, .int .i64 1, .int .i64 1, .int .i64 1, .int .i64 1, .int .i64 0, .int .i64 1, .int .i64 (-1), .int .i64 0, .int .i64 (-1), .int .i64 (-1), .int .i64 (-1), .int .i64 (-1), .int .i64 0, .int .i64 (-1), .int .i64 1] 93) := ⟨_, rfl⟩
  have HB : Hid (Below w.heap.size w W) := hide (by rw [hW]; exact ((Below.refl _ w).alloc (Nat.le_refl _) _).alloc (by simp) _)
  have e0 : W.cell? ⟨w.heap.size, 0, none⟩ = some (.int .i64 4) := by rw [hW]; simp
  have e1 : W.cell? ⟨w.heap.size + 1, 8, none⟩ = some (.int .i64 (0)) := by rw [hW]; simp
  have e2 : W.cell? ⟨w.heap.size + 1, 9, none⟩ = some (.int .i64 (-1)) := by rw [hW]; simp
  have HW := hide hW
  clear hW
  go_enter Try.func68, Try.ntmps68
  go_wp2_with fail
  rw [← HW.out]
  go_still (by kernel_rfl)
  change Exit.then _ _ Exit.normal _ W.drew
  go_wp2
  go_ret2
  exact ⟨rfl, Below.drew HB.out⟩
theorem unit5_any (u c : Int) (w : World) : Calls Try.prog 68 #[.agg #[.int .i64 5, .int .i64 u, .int .i64 c]] w fun e w' => e = .returned (.tuple #[.int .i64 (-1), .int .i64 (-1)]) ∧ Below w.heap.size w w' := by
  obtain ⟨W, hW⟩ : ∃ W, W = (w.alloc (.cells #[.int .i64 5, .int .i64 u, .int .i64 c] 65)).alloc (.cells #[.int .i64 0, .int .i64 1, .int .i64 1, .int .i64 1, .int .i64 1, .int .i64 0, .int .i64 1, .int .i64 (-1), .int .i64 0, .int .i64 (-1), .int .i64 (-1), .int .i64 (-1), .int .i64 (-1), .int .i64 0, .int .i64 (-1), .int .i64 1] 93) := ⟨_, rfl⟩
  have HB : Hid (Below w.heap.size w W) := hide (by rw [hW]; exact ((Below.refl _ w).alloc (Nat.le_refl _) _).alloc (by simp) _)
  have e0 : W.cell? ⟨w.heap.size, 0, none⟩ = some (.int .i64 5) := by rw [hW]; simp
  have e1 : W.cell? ⟨w.heap.size + 1, 10, none⟩ = some (.int .i64 (-1)) := by rw [hW]; simp
  have e2 : W.cell? ⟨w.heap.size + 1, 11, none⟩ = some (.int .i64 (-1)) := by rw [hW]; simp
  have HW := hide hW
  clear hW
  go_enter Try.func68, Try.ntmps68
  go_wp2_with fail
  rw [← HW.out]
  go_still (by kernel_rfl)
  change Exit.then _ _ Exit.normal _ W.drew
  go_wp2
  go_ret2
  exact ⟨rfl, Below.drew HB.out⟩
theorem unit6_any (u c : Int) (w : World) : Calls Try.prog 68 #[.agg #[.int .i64 6, .int .i64 u, .int .i64 c]] w fun e w' => e = .returned (.tuple #[.int .i64 (-1), .int .i64 (0)]) ∧ Below w.heap.size w w' := by
  obtain ⟨W, hW⟩ : ∃ W, W = (w.alloc (.cells #[.int .i64 6, .int .i64 u, .int .i64 c] 65)).alloc (.cells #[.int .i64 0, .int .i64 1, .int .i64 1, .int .i64 1, .int .i64 1, .int .i64 0, .int .i64 1, .int .i64 (-1), .int .i64 0, .int .i64 (-1), .int .i64 (-1), .int .i64 (-1), .int .i64 (-1), .int .i64 0, .int .i64 (-1), .int .i64 1] 93) := ⟨_, rfl⟩
  have HB : Hid (Below w.heap.size w W) := hide (by rw [hW]; exact ((Below.refl _ w).alloc (Nat.le_refl _) _).alloc (by simp) _)
  have e0 : W.cell? ⟨w.heap.size, 0, none⟩ = some (.int .i64 6) := by rw [hW]; simp
  have e1 : W.cell? ⟨w.heap.size + 1, 12, none⟩ = some (.int .i64 (-1)) := by rw [hW]; simp
  have e2 : W.cell? ⟨w.heap.size + 1, 13, none⟩ = some (.int .i64 (0)) := by rw [hW]; simp
  have HW := hide hW
  clear hW
  go_enter Try.func68, Try.ntmps68
  go_wp2_with fail
  rw [← HW.out]
  go_still (by kernel_rfl)
  change Exit.then _ _ Exit.normal _ W.drew
  go_wp2
  go_ret2
  exact ⟨rfl, Below.drew HB.out⟩
theorem unit7_any (u c : Int) (w : World) : Calls Try.prog 68 #[.agg #[.int .i64 7, .int .i64 u, .int .i64 c]] w fun e w' => e = .returned (.tuple #[.int .i64 (-1), .int .i64 (1)]) ∧ Below w.heap.size w w' := by
  obtain ⟨W, hW⟩ : ∃ W, W = (w.alloc (.cells #[.int .i64 7, .int .i64 u, .int .i64 c] 65)).alloc (.cells #[.int .i64 0, .int .i64 1, .int .i64 1, .int .i64 1, .int .i64 1, .int .i64 0, .int .i64 1, .int .i64 (-1), .int .i64 0, .int .i64 (-1), .int .i64 (-1), .int .i64 (-1), .int .i64 (-1), .int .i64 0, .int .i64 (-1), .int .i64 1] 93) := ⟨_, rfl⟩
  have HB : Hid (Below w.heap.size w W) := hide (by rw [hW]; exact ((Below.refl _ w).alloc (Nat.le_refl _) _).alloc (by simp) _)
  have e0 : W.cell? ⟨w.heap.size, 0, none⟩ = some (.int .i64 7) := by rw [hW]; simp
  have e1 : W.cell? ⟨w.heap.size + 1, 14, none⟩ = some (.int .i64 (-1)) := by rw [hW]; simp
  have e2 : W.cell? ⟨w.heap.size + 1, 15, none⟩ = some (.int .i64 (1)) := by rw [hW]; simp
  have HW := hide hW
  clear hW
  go_enter Try.func68, Try.ntmps68
  go_wp2_with fail
  rw [← HW.out]
  go_still (by kernel_rfl)
  change Exit.then _ _ Exit.normal _ W.drew
  go_wp2
  go_ret2
  exact ⟨rfl, Below.drew HB.out⟩

theorem unit_any (x : Lg) (w : World) (h : 0 ≤ x.w ∧ x.w ≤ 7) : Calls Try.prog 68 #[.agg #[.int .i64 x.w, .int .i64 x.u, .int .i64 x.c]] w fun e w' => e = .returned (.tuple #[.int .i64 (dX x.w), .int .i64 (dY x.w)]) ∧ Below w.heap.size w w' := by
  obtain ⟨a, u, c⟩ := x
  simp only at h ⊢
  rcases way8 h with rfl | rfl | rfl | rfl | rfl | rfl | rfl | rfl
  · exact unit0_any u c w
  · exact unit1_any u c w
  · exact unit2_any u c w
  · exact unit3_any u c w
  · exact unit4_any u c w
  · exact unit5_any u c w
  · exact unit6_any u c w
  · exact unit7_any u c w

end Go.Proofs.Ythcfkihpihgjeaa
