/- The law FnExactNeedlessCovers walked. -/
import Derived.Test.YtpdfbijfklmonaaM19
import Derived.Test.YtpdfbijfklmonaaM20
import Derived.Test.YtpdfbijfklmonaaOwn
namespace Go.Proofs.Ytpdfbijfklmonaa
open Go.RowKit
set_option linter.unusedVariables false
set_option maxHeartbeats 1000000
set_option maxRecDepth 100000 in
theorem law_FnExactNeedlessCovers (i0 : Int) (i1 : Int) (a2 : Option Addr) (n2 c2 : Nat) (z2 : List Cv) (a3 : Option Addr) (n3 c3 : Nat) (z3 : List Int) (w : World) (hi0 : okI i0) (hi1 : okI i1) (hz2 : z2.length = n2) (hn2 : n2 ≤ 9223372036854775807) (hr2 : Rd encCv 6 w.heap.size w a2 z2) (hz3 : z3.length = n3) (hn3 : n3 ≤ 9223372036854775807) (hr3 : Rd encI 1 w.heap.size w a3 z3) :
    Calls Try.prog 7 #[.int .i64 i0, .int .i64 i1, .slice a2 n2 c2, .slice a3 n3 c3] w fun e w' => e = .returned (.bool true) ∧ Below w.heap.size w w' := by
  by_cases u3 : (1048576 : Int) < n3
  · have U3 := hide u3
    have HZ2 := hide hz2
    have HR2 := hide hr2
    clear hz2 hr2
    have HZ3 := hide hz3
    have HR3 := hide hr3
    clear hz3 hr3
    go_enter Try.func7, Try.ntmps7
    go_wp2
    go_ret
    exact ⟨rfl, Below.refl _ _⟩
  have q3 : n3 ≤ 1048576 := by omega
  by_cases b0 : (1048576 : Int) < n2
  · have E0 := hide (szV_big b0)
    have HZ2 := hide hz2
    have HR2 := hide hr2
    clear hz2 hr2
    have HZ3 := hide hz3
    have HR3 := hide hr3
    clear hz3 hr3
    go_enter Try.func7, Try.ntmps7
    go_wp2_with fail
    refine (szCoverS_any _ _ _ _ _ hn2 (by omega) (by omega)).mono ?_
    rintro e w' ⟨rfl, rfl⟩
    rw [E0.out]
    go_wp2
    go_ret
    first | exact ⟨rfl, Below.refl _ _⟩ | exact ⟨rfl, (Below.refl _ _).alloc (Nat.le_refl _) _⟩
  · have E0 := hide (szV_ok b0)
    have q2 : n2 ≤ 1048576 := by omega
    have p0 : ¬ (1048576 : Int) - n2 < 0 := by omega
    have HZ2 := hide hz2
    have HR2 := hide hr2
    clear hz2 hr2
    have HZ3 := hide hz3
    have HR3 := hide hr3
    clear hz3 hr3
    have HB := hide (Below.refl w.heap.size w)
    go_enter Try.func7, Try.ntmps7
    go_wp2_with fail
    refine (szCoverS_any _ _ _ _ _ hn2 (by omega) (by omega)).mono ?_
    rintro e w' ⟨rfl, rfl⟩
    rw [E0.out]
    obtain ⟨N, hN⟩ : ∃ N, N = (needL i0 i1 z2 z3).length := ⟨_, rfl⟩
    have hNb : N ≤ 1048576 := by rw [hN]; exact Nat.le_trans need_len (by rw [HZ3.out]; exact q3)
    have HN := hide hN
    clear hN
    go_wp2_with fail
    refine (toCoverS_any _ _ _ z2 _ HZ2.out q2 (rd_at0 HR2.out HB.out)).mono ?_
    rintro e w1 ⟨rfl, ho, hr, hb⟩
    have S1 := hide hb.size
    have HB := hide (bl_step HB.out hb)
    have Z1 := hide HB.out.size
    clear hb
    have HS2 := hide hr
    clear ho hr
    go_wp2_with fail
    refine (toIntS_any _ _ _ z3 _ HZ3.out q3 (rd_at0 HR3.out HB.out)).mono ?_
    rintro e w2 ⟨rfl, ho, hr, hb⟩
    have HS2 := hide (rd_step HS2.out hb)
    have S2 := hide hb.size
    have HB := hide (bl_step HB.out hb)
    have Z2 := hide HB.out.size
    clear hb
    have HS3 := hide hr
    clear ho hr
    go_wp2_with fail
    refine (sNeedlessCovers_any i0 i1 _ _ _ z2 _ _ _ z3 _ HZ2.out q2 (HS2.out) HZ3.out q3 (HS3.out)).mono ?_
    rintro e w3 ⟨u, rfl, ho, hb⟩
    have HS2 := hide (rd_step HS2.out hb)
    have HS3 := hide (rd_step HS3.out hb)
    have S3 := hide hb.size
    have HB := hide (bl_step HB.out hb)
    have Z3 := hide HB.out.size
    clear hb
    rw [← HN.out] at ho
    have OU := hide ho
    have LU := hide (own_lt ho)
    clear ho
    clear HS2
    clear HS3
    go_wp2_with fail
    refine (toCoverS_any _ _ _ z2 _ HZ2.out q2 (rd_at0 HR2.out HB.out)).mono ?_
    rintro e w4 ⟨rfl, ho, hr, hb⟩
    have OU := hide (own_step OU.out hb)
    have S4 := hide hb.size
    have HB := hide (bl_step HB.out hb)
    have Z4 := hide HB.out.size
    clear hb
    have OX2 := hide ho
    have LX2 := hide (own_lt ho)
    clear ho hr
    go_wp2_with fail
    refine (toIntS_any _ _ _ z3 _ HZ3.out q3 (rd_at0 HR3.out HB.out)).mono ?_
    rintro e w5 ⟨rfl, ho, hr, hb⟩
    have OU := hide (own_step OU.out hb)
    have OX2 := hide (own_step OX2.out hb)
    have S5 := hide hb.size
    have HB := hide (bl_step HB.out hb)
    have Z5 := hide HB.out.size
    clear hb
    have OX3 := hide ho
    have LX3 := hide (own_lt ho)
    clear ho hr
    go_wp2_with fail
    refine (NeedlessCovers_any i0 i1 _ _ _ z2 _ _ _ z3 _ HZ2.out q2 (own_rd' encCv_len OX2.out HZ2.out) HZ3.out q3 (own_rd' encI_len OX3.out HZ3.out)).mono ?_
    rintro e w6 ⟨v, rfl, ho, hb⟩
    have OU := hide (own_step OU.out hb)
    have OX2 := hide (own_step OX2.out hb)
    have OX3 := hide (own_step OX3.out hb)
    have S6 := hide hb.size
    have HB := hide (bl_step HB.out hb)
    have Z6 := hide HB.out.size
    clear hb
    rw [← HN.out] at ho
    have OV := hide ho
    have LV := hide (own_lt ho)
    clear ho
    go_wp2_with fail
    refine (eqIntS_own _ _ N (needL i0 i1 z2 z3) _ OV.out OU.out HN.out.symm hNb).mono ?_
    rintro e w7 ⟨rfl, hb⟩
    have OU := hide (own_step OU.out hb)
    have OX2 := hide (own_step OX2.out hb)
    have OX3 := hide (own_step OX3.out hb)
    have OV := hide (own_step OV.out hb)
    have S7 := hide hb.size
    have HB := hide (bl_step HB.out hb)
    have Z7 := hide HB.out.size
    clear hb
    go_wp2_with fail
    refine (toCoverS_any _ _ _ z2 _ HZ2.out q2 (rd_at0 HR2.out HB.out)).mono ?_
    rintro e w8 ⟨rfl, ho, hr, hb⟩
    have OU := hide (own_step OU.out hb)
    have OX2 := hide (own_step OX2.out hb)
    have OX3 := hide (own_step OX3.out hb)
    have OV := hide (own_step OV.out hb)
    have S8 := hide hb.size
    have HB := hide (bl_step HB.out hb)
    have Z8 := hide HB.out.size
    clear hb
    have OY := hide ho
    have LY := hide (own_lt ho)
    clear ho hr
    go_wp2_with fail
    refine (eqCoverS_own _ _ n2 z2 _ OX2.out OY.out HZ2.out q2).mono ?_
    rintro e w9 ⟨rfl, hb⟩
    have OU := hide (own_step OU.out hb)
    have OX2 := hide (own_step OX2.out hb)
    have OX3 := hide (own_step OX3.out hb)
    have OV := hide (own_step OV.out hb)
    have OY := hide (own_step OY.out hb)
    have S9 := hide hb.size
    have HB := hide (bl_step HB.out hb)
    have Z9 := hide HB.out.size
    clear hb
    clear OY LY
    go_wp2_with fail
    refine (toIntS_any _ _ _ z3 _ HZ3.out q3 (rd_at0 HR3.out HB.out)).mono ?_
    rintro e w10 ⟨rfl, ho, hr, hb⟩
    have OU := hide (own_step OU.out hb)
    have OX2 := hide (own_step OX2.out hb)
    have OX3 := hide (own_step OX3.out hb)
    have OV := hide (own_step OV.out hb)
    have S10 := hide hb.size
    have HB := hide (bl_step HB.out hb)
    have Z10 := hide HB.out.size
    clear hb
    have OY := hide ho
    have LY := hide (own_lt ho)
    clear ho hr
    go_wp2_with fail
    refine (eqIntS_own _ _ n3 z3 _ OX3.out OY.out HZ3.out q3).mono ?_
    rintro e w11 ⟨rfl, hb⟩
    have OU := hide (own_step OU.out hb)
    have OX2 := hide (own_step OX2.out hb)
    have OX3 := hide (own_step OX3.out hb)
    have OV := hide (own_step OV.out hb)
    have OY := hide (own_step OY.out hb)
    have S11 := hide hb.size
    have HB := hide (bl_step HB.out hb)
    have Z11 := hide HB.out.size
    clear hb
    clear OY LY
    go_wp2_with fail
    refine (markCoverS_own _ n2 (z2) _ _ OX2.out HZ2.out q2 (by omega) (by omega)).mono ?_
    rintro e w12 ⟨rfl, hg, ho⟩
    have OU := hide (own_only OU.out hg (fun j i hj hi => by have a := LU.out j hj; have b := LX2.out i hi; omega))
    have OX3 := hide (own_only OX3.out hg (fun j i hj hi => by have a := LX3.out j hj; have b := LX2.out i hi; omega))
    have OV := hide (own_only OV.out hg (fun j i hj hi => by have a := LV.out j hj; have b := LX2.out i hi; have y5 := S5.out; omega))
    have S12 := hide hg.size
    have HB := hide (bl_own HB.out hg (fun j hj => by have a := LX2.out j hj; have y := Z3.out; omega))
    have Z12 := hide HB.out.size
    have OX2 := hide ho
    clear hg ho
    clear OX2 LX2
    go_wp2_with fail
    refine (markIntS_own _ n3 (z3) _ _ OX3.out HZ3.out q3 (by omega) (by omega)).mono ?_
    rintro e w13 ⟨rfl, hg, ho⟩
    have OU := hide (own_only OU.out hg (fun j i hj hi => by have a := LU.out j hj; have b := LX3.out i hi; have y4 := S4.out; omega))
    have OV := hide (own_only OV.out hg (fun j i hj hi => by have a := LV.out j hj; have b := LX3.out i hi; omega))
    have S13 := hide hg.size
    have HB := hide (bl_own HB.out hg (fun j hj => by have a := LX3.out j hj; have y := Z4.out; omega))
    have Z13 := hide HB.out.size
    have OX3 := hide ho
    clear hg ho
    clear OX3 LX3
    go_wp2_with fail
    refine (eqIntS_own _ _ N (needL i0 i1 z2 z3) _ OV.out OU.out HN.out.symm hNb).mono ?_
    rintro e w14 ⟨rfl, hb⟩
    have OU := hide (own_step OU.out hb)
    have OV := hide (own_step OV.out hb)
    have S14 := hide hb.size
    have HB := hide (bl_step HB.out hb)
    have Z14 := hide HB.out.size
    clear hb
    go_wp2_with fail
    refine (markIntS_own _ N (needL i0 i1 z2 z3) _ _ OV.out HN.out.symm hNb (by omega) (by omega)).mono ?_
    rintro e w15 ⟨rfl, hg, ho⟩
    have OU := hide (own_only OU.out hg (fun j i hj hi => by have a := LU.out j hj; have b := LV.out i hi; have y4 := S4.out; have y5 := S5.out; omega))
    have S15 := hide hg.size
    have HB := hide (bl_own HB.out hg (fun j hj => by have a := LV.out j hj; have y := Z5.out; omega))
    have Z15 := hide HB.out.size
    have OV := hide ho
    clear hg ho
    go_wp2_with fail
    refine (heldIntS_own _ N _ _ OV.out hNb (by omega) (by omega)).mono ?_
    rintro e w' ⟨rfl, rfl⟩
    go_wp2_with fail
    refine (toCoverS_any _ _ _ z2 _ HZ2.out q2 (rd_at0 HR2.out HB.out)).mono ?_
    rintro e w16 ⟨rfl, ho, hr, hb⟩
    have OU := hide (own_step OU.out hb)
    have OV := hide (own_step OV.out hb)
    have S16 := hide hb.size
    have HB := hide (bl_step HB.out hb)
    have Z16 := hide HB.out.size
    clear hb
    have HK2 := hide hr
    clear ho hr
    go_wp2_with fail
    refine (toIntS_any _ _ _ z3 _ HZ3.out q3 (rd_at0 HR3.out HB.out)).mono ?_
    rintro e w17 ⟨rfl, ho, hr, hb⟩
    have HK2 := hide (rd_step HK2.out hb)
    have OU := hide (own_step OU.out hb)
    have OV := hide (own_step OV.out hb)
    have S17 := hide hb.size
    have HB := hide (bl_step HB.out hb)
    have Z17 := hide HB.out.size
    clear hb
    have HK3 := hide hr
    clear ho hr
    go_wp2_with fail
    refine (NeedlessCovers_any i0 i1 _ _ _ z2 _ _ _ z3 _ HZ2.out q2 (HK2.out) HZ3.out q3 (HK3.out)).mono ?_
    rintro e w18 ⟨v2, rfl, ho, hb⟩
    have HK2 := hide (rd_step HK2.out hb)
    have HK3 := hide (rd_step HK3.out hb)
    have OU := hide (own_step OU.out hb)
    have OV := hide (own_step OV.out hb)
    have S18 := hide hb.size
    have HB := hide (bl_step HB.out hb)
    have Z18 := hide HB.out.size
    clear hb
    rw [← HN.out] at ho
    have OV2 := hide ho
    have LV2 := hide (own_lt ho)
    clear ho
    clear HK2
    clear HK3
    go_wp2_with fail
    refine (eqIntS_own _ _ N (needL i0 i1 z2 z3) _ OV2.out OU.out HN.out.symm hNb).mono ?_
    rintro e w19 ⟨rfl, hb⟩
    have OU := hide (own_step OU.out hb)
    have OV := hide (own_step OV.out hb)
    have OV2 := hide (own_step OV2.out hb)
    have S19 := hide hb.size
    have HB := hide (bl_step HB.out hb)
    have Z19 := hide HB.out.size
    clear hb
    go_wp2_with fail
    refine (heldIntS_own _ N _ _ OV.out hNb (by omega) (by omega)).mono ?_
    rintro e w' ⟨rfl, rfl⟩
    go_wp2
    go_ret
    exact ⟨rfl, HB.out⟩

end Go.Proofs.Ytpdfbijfklmonaa
