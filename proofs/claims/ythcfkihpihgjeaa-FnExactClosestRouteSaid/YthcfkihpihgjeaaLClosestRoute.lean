/- The law FnExactClosestRoute walked. -/
import Derived.Test.YthcfkihpihgjeaaT24
import Derived.Test.YthcfkihpihgjeaaT25
import Derived.Test.YthcfkihpihgjeaaOwn
namespace Go.Proofs.Ythcfkihpihgjeaa
open Go.RowKit
set_option linter.unusedVariables false
set_option maxHeartbeats 1000000
set_option maxRecDepth 100000 in
theorem law_FnExactClosestRoute (i0 : Int) (i1 : Int) (w : World) (hi0 : okI i0) (hi1 : okI i1) :
    Calls Try.prog 3 #[.int .i64 i0, .int .i64 i1] w fun e w' => e = .returned (.bool true) ∧ Below w.heap.size w w' := by
  have HB := hide (Below.refl w.heap.size w)
  go_enter Try.func3, Try.ntmps3
  obtain ⟨N, hN⟩ : ∃ N, N = (clV i0 i1).length := ⟨_, rfl⟩
  have hNb : N ≤ 1048576 := by rw [hN]; exact Nat.le_trans clV_len (by omega)
  have HN := hide hN
  clear hN
  go_wp2_with fail
  refine (sClosestRoute_any i0 i1 _ ).mono ?_
  rintro e w1 ⟨u, rfl, ho, hb⟩
  have S1 := hide hb.size
  have HB := hide (bl_step HB.out hb)
  have Z1 := hide HB.out.size
  clear hb
  rw [← HN.out] at ho
  have OU := hide ho
  have LU := hide (own_lt ho)
  clear ho
  go_wp2_with fail
  refine (ClosestRoute_any i0 i1 _ ).mono ?_
  rintro e w2 ⟨v, rfl, ho, hb⟩
  have OU := hide (own_step OU.out hb)
  have S2 := hide hb.size
  have HB := hide (bl_step HB.out hb)
  have Z2 := hide HB.out.size
  clear hb
  rw [← HN.out] at ho
  have OV := hide ho
  have LV := hide (own_lt ho)
  clear ho
  go_wp2_with fail
  refine (eqLegS_own _ _ N (clV i0 i1) _ OV.out OU.out HN.out.symm hNb).mono ?_
  rintro e w3 ⟨rfl, hb⟩
  have OU := hide (own_step OU.out hb)
  have OV := hide (own_step OV.out hb)
  have S3 := hide hb.size
  have HB := hide (bl_step HB.out hb)
  have Z3 := hide HB.out.size
  clear hb
  go_wp2_with fail
  refine (markLegS_own _ N (clV i0 i1) _ _ OV.out HN.out.symm hNb (by omega) (by omega)).mono ?_
  rintro e w4 ⟨rfl, hg, ho⟩
  have OU := hide (own_only OU.out hg (fun j i hj hi => by have a := LU.out j hj; have b := LV.out i hi; omega))
  have S4 := hide hg.size
  have HB := hide (bl_own HB.out hg (fun j hj => by have a := LV.out j hj; have y := Z1.out; omega))
  have Z4 := hide HB.out.size
  have OV := hide ho
  clear hg ho
  go_wp2_with fail
  refine (heldLegS_own _ N _ _ OV.out hNb (by omega) (by omega)).mono ?_
  rintro e w' ⟨rfl, rfl⟩
  go_wp2_with fail
  refine (ClosestRoute_any i0 i1 _ ).mono ?_
  rintro e w5 ⟨v2, rfl, ho, hb⟩
  have OU := hide (own_step OU.out hb)
  have OV := hide (own_step OV.out hb)
  have S5 := hide hb.size
  have HB := hide (bl_step HB.out hb)
  have Z5 := hide HB.out.size
  clear hb
  rw [← HN.out] at ho
  have OV2 := hide ho
  have LV2 := hide (own_lt ho)
  clear ho
  go_wp2_with fail
  refine (eqLegS_own _ _ N (clV i0 i1) _ OV2.out OU.out HN.out.symm hNb).mono ?_
  rintro e w6 ⟨rfl, hb⟩
  have OU := hide (own_step OU.out hb)
  have OV := hide (own_step OV.out hb)
  have OV2 := hide (own_step OV2.out hb)
  have S6 := hide hb.size
  have HB := hide (bl_step HB.out hb)
  have Z6 := hide HB.out.size
  clear hb
  go_wp2_with fail
  refine (heldLegS_own _ N _ _ OV.out hNb (by omega) (by omega)).mono ?_
  rintro e w' ⟨rfl, rfl⟩
  go_wp2
  go_ret
  exact ⟨rfl, HB.out⟩

end Go.Proofs.Ythcfkihpihgjeaa
