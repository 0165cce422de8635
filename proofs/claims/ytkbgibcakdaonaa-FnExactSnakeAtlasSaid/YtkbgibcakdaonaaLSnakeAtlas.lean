/- The law FnExactSnakeAtlas walked. -/
import Derived.Test.YtkbgibcakdaonaaA12
import Derived.Test.YtkbgibcakdaonaaA13
import Derived.Test.YtkbgibcakdaonaaOwn
namespace Go.Proofs.Ytkbgibcakdaonaa
open Go.RowKit
set_option linter.unusedVariables false
set_option maxHeartbeats 1000000
set_option maxRecDepth 100000 in
theorem law_FnExactSnakeAtlas (i0 : Int) (i1 : Int) (i2 : Int) (i3 : Int) (i4 : Int) (w : World) (hi0 : okI i0) (hi1 : okI i1) (hi2 : okI i2) (hi3 : okI i3) (hi4 : okI i4) :
    Calls Try.prog 6 #[.int .i64 i0, .int .i64 i1, .int .i64 i2, .int .i64 i3, .int .i64 i4] w fun e w' => e = .returned (.bool true) ∧ Below w.heap.size w w' := by
  have HB := hide (Below.refl w.heap.size w)
  go_enter Try.func6, Try.ntmps6
  obtain ⟨N, hN⟩ : ∃ N, N = (snV i0 i1 i2 i3 i4).length := ⟨_, rfl⟩
  have hNb : N ≤ 1048576 := by rw [hN]; exact Nat.le_trans sn_len (by omega)
  have HN := hide hN
  clear hN
  go_wp2_with fail
  refine (sSnakeAtlas_any i0 i1 i2 i3 i4 _ ).mono ?_
  rintro e w1 ⟨u, rfl, ho, hb⟩
  have S1 := hide hb.size
  have HB := hide (bl_step HB.out hb)
  have Z1 := hide HB.out.size
  clear hb
  rw [← HN.out] at ho
  have OU := hide ho
  have LU := hide (own_lt ho)
  clear ho
  go_wp2_with fail
  refine (SnakeAtlas_any i0 i1 i2 i3 i4 _ ).mono ?_
  rintro e w2 ⟨v, rfl, ho, hb⟩
  have OU := hide (own_step OU.out hb)
  have S2 := hide hb.size
  have HB := hide (bl_step HB.out hb)
  have Z2 := hide HB.out.size
  clear hb
  rw [← HN.out] at ho
  have OV := hide ho
  have LV := hide (own_lt ho)
  clear ho
  go_wp2_with fail
  refine (eqPageS_own _ _ N (snV i0 i1 i2 i3 i4) _ OV.out OU.out HN.out.symm hNb).mono ?_
  rintro e w3 ⟨rfl, hb⟩
  have OU := hide (own_step OU.out hb)
  have OV := hide (own_step OV.out hb)
  have S3 := hide hb.size
  have HB := hide (bl_step HB.out hb)
  have Z3 := hide HB.out.size
  clear hb
  go_wp2_with fail
  refine (markPageS_own _ N (snV i0 i1 i2 i3 i4) _ _ OV.out HN.out.symm hNb (by omega) (by omega)).mono ?_
  rintro e w4 ⟨rfl, hg, ho⟩
  have OU := hide (own_only OU.out hg (fun j i hj hi => by have a := LU.out j hj; have b := LV.out i hi; omega))
  have S4 := hide hg.size
  have HB := hide (bl_own HB.out hg (fun j hj => by have a := LV.out j hj; have y := Z1.out; omega))
  have Z4 := hide HB.out.size
  have OV := hide ho
  clear hg ho
  go_wp2_with fail
  refine (heldPageS_own _ N _ _ OV.out hNb (by omega) (by omega)).mono ?_
  rintro e w' ⟨rfl, rfl⟩
  go_wp2_with fail
  refine (SnakeAtlas_any i0 i1 i2 i3 i4 _ ).mono ?_
  rintro e w5 ⟨v2, rfl, ho, hb⟩
  have OU := hide (own_step OU.out hb)
  have OV := hide (own_step OV.out hb)
  have S5 := hide hb.size
  have HB := hide (bl_step HB.out hb)
  have Z5 := hide HB.out.size
  clear hb
  rw [← HN.out] at ho
  have OV2 := hide ho
  have LV2 := hide (own_lt ho)
  clear ho
  go_wp2_with fail
  refine (eqPageS_own _ _ N (snV i0 i1 i2 i3 i4) _ OV2.out OU.out HN.out.symm hNb).mono ?_
  rintro e w6 ⟨rfl, hb⟩
  have OU := hide (own_step OU.out hb)
  have OV := hide (own_step OV.out hb)
  have OV2 := hide (own_step OV2.out hb)
  have S6 := hide hb.size
  have HB := hide (bl_step HB.out hb)
  have Z6 := hide HB.out.size
  clear hb
  go_wp2_with fail
  refine (heldPageS_own _ N _ _ OV.out hNb (by omega) (by omega)).mono ?_
  rintro e w' ⟨rfl, rfl⟩
  go_wp2
  go_ret
  exact ⟨rfl, HB.out⟩

end Go.Proofs.Ytkbgibcakdaonaa
