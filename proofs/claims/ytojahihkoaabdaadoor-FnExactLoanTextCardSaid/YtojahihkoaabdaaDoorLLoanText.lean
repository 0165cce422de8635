/- The law FnExactLoanText walked. -/
import Derived.Test.YtojahihkoaabdaaDoorJ2
import Derived.Test.YtojahihkoaabdaaDoorFLoan
namespace Go.Proofs.YtojahihkoaabdaaDoor
open Go.RowKit
set_option linter.unusedVariables false
set_option linter.unusedSimpArgs false

set_option maxRecDepth 100000 in
theorem law_FnExactLoanText (x : Ln) (w0 : World) (ht : TabW w0) :
    Calls Tryd.prog 3 #[.agg #[.int .i64 x.s, .int .i64 x.r, .int .i64 x.o, .int .i64 x.d, .int .i64 x.b]] w0 fun e w' => e = .returned (.bool true) ∧ Below w0.heap.size w0 w' := by
  obtain ⟨w, hw⟩ : ∃ w, w = w0.alloc (.cells #[.int .i64 x.s, .int .i64 x.r, .int .i64 x.o, .int .i64 x.d, .int .i64 x.b] 23) := ⟨_, rfl⟩
  have HBV : Hid (Below w0.heap.size w0 w) := hide (by rw [hw]; exact (Below.refl _ _).alloc (Nat.le_refl _) _)
  have gB : w0.heap.size < w.heap.size := by rw [hw]; simp
  have B0 := hide (show w.cell? ⟨w0.heap.size, 0, none⟩ = some (.int .i64 x.s) from by rw [hw]; simp)
  have B1 := hide (show w.cell? ⟨w0.heap.size, 1, none⟩ = some (.int .i64 x.r) from by rw [hw]; simp)
  have B2 := hide (show w.cell? ⟨w0.heap.size, 2, none⟩ = some (.int .i64 x.o) from by rw [hw]; simp)
  have B3 := hide (show w.cell? ⟨w0.heap.size, 3, none⟩ = some (.int .i64 x.d) from by rw [hw]; simp)
  have B4 := hide (show w.cell? ⟨w0.heap.size, 4, none⟩ = some (.int .i64 x.b) from by rw [hw]; simp)
  have HW := hide hw
  have HT := hide (ht.below HBV.out)
  clear hw ht
  obtain ⟨T, hT⟩ : ∃ T, loanT x = T := ⟨_, rfl⟩
  obtain ⟨ok, hok⟩ : ∃ ok, okLn x = ok := ⟨_, rfl⟩
  have HTT := hide hT
  have HOK := hide hok
  have HB := hide (Below.refl w.heap.size w)
  clear hT hok
  have l0 := B0.out
  have l1 := B1.out
  have l2 := B2.out
  have l3 := B3.out
  have l4 := B4.out
  go_enter Tryd.func3, Tryd.ntmps3
  go_wp2_with fail
  rw [← HW.out]
  refine (toLoan_any x _).mono ?_
  rintro e w1 ⟨rfl, hb⟩
  have HB := hide (bl_step HB.out hb)
  have HT := hide (HT.out.below hb)
  clear hb l0 l1 l2 l3 l4
  have l0 := (HB.out.cell (p := ⟨w0.heap.size, 0, none⟩) gB).trans B0.out
  have l1 := (HB.out.cell (p := ⟨w0.heap.size, 1, none⟩) gB).trans B1.out
  have l2 := (HB.out.cell (p := ⟨w0.heap.size, 2, none⟩) gB).trans B2.out
  have l3 := (HB.out.cell (p := ⟨w0.heap.size, 3, none⟩) gB).trans B3.out
  have l4 := (HB.out.cell (p := ⟨w0.heap.size, 4, none⟩) gB).trans B4.out
  go_wp2_with fail
  refine (sLoanText_any x _).mono ?_
  rintro e w2 ⟨rfl, hb⟩
  rw [HTT.out, HOK.out]
  have HB := hide (bl_step HB.out hb)
  have HT := hide (HT.out.below hb)
  clear hb l0 l1 l2 l3 l4
  have l0 := (HB.out.cell (p := ⟨w0.heap.size, 0, none⟩) gB).trans B0.out
  have l1 := (HB.out.cell (p := ⟨w0.heap.size, 1, none⟩) gB).trans B1.out
  have l2 := (HB.out.cell (p := ⟨w0.heap.size, 2, none⟩) gB).trans B2.out
  have l3 := (HB.out.cell (p := ⟨w0.heap.size, 3, none⟩) gB).trans B3.out
  have l4 := (HB.out.cell (p := ⟨w0.heap.size, 4, none⟩) gB).trans B4.out
  go_wp2_with fail
  refine (toLoan_any x _).mono ?_
  rintro e w3 ⟨rfl, hb⟩
  have HB := hide (bl_step HB.out hb)
  have HT := hide (HT.out.below hb)
  clear hb l0 l1 l2 l3 l4
  have l0 := (HB.out.cell (p := ⟨w0.heap.size, 0, none⟩) gB).trans B0.out
  have l1 := (HB.out.cell (p := ⟨w0.heap.size, 1, none⟩) gB).trans B1.out
  have l2 := (HB.out.cell (p := ⟨w0.heap.size, 2, none⟩) gB).trans B2.out
  have l3 := (HB.out.cell (p := ⟨w0.heap.size, 3, none⟩) gB).trans B3.out
  have l4 := (HB.out.cell (p := ⟨w0.heap.size, 4, none⟩) gB).trans B4.out
  go_wp2_with fail
  refine (LoanText_any x _ HT.out).mono ?_
  rintro e w4 ⟨rfl, hb⟩
  rw [HTT.out, HOK.out]
  have HB := hide (bl_step HB.out hb)
  have HT := hide (HT.out.below hb)
  clear hb l0 l1 l2 l3 l4
  have l0 := (HB.out.cell (p := ⟨w0.heap.size, 0, none⟩) gB).trans B0.out
  have l1 := (HB.out.cell (p := ⟨w0.heap.size, 1, none⟩) gB).trans B1.out
  have l2 := (HB.out.cell (p := ⟨w0.heap.size, 2, none⟩) gB).trans B2.out
  have l3 := (HB.out.cell (p := ⟨w0.heap.size, 3, none⟩) gB).trans B3.out
  have l4 := (HB.out.cell (p := ⟨w0.heap.size, 4, none⟩) gB).trans B4.out
  cases ok
  all_goals
    go_wp2
    go_ret
    exact ⟨rfl, HBV.out.trans (HB.out.mono HBV.out.size)⟩

end Go.Proofs.YtojahihkoaabdaaDoor
