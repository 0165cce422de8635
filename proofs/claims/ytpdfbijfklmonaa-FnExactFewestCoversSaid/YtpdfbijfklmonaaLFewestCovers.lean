/- The law FnExactFewestCovers walked. -/
import Derived.Test.YtpdfbijfklmonaaM24
import Derived.Test.YtpdfbijfklmonaaM27
import Derived.Test.YtpdfbijfklmonaaOwn
namespace Go.Proofs.Ytpdfbijfklmonaa
open Go.RowKit
set_option linter.unusedVariables false
set_option maxHeartbeats 1000000
set_option maxRecDepth 100000 in
theorem law_FnExactFewestCovers (i0 : Int) (i1 : Int) (a2 : Option Addr) (n2 c2 : Nat) (z2 : List Cv) (w : World) (hi0 : okI i0) (hi1 : okI i1) (hz2 : z2.length = n2) (hn2 : n2 ≤ 9223372036854775807) (hr2 : Rd encCv 6 w.heap.size w a2 z2) :
    Calls Try.prog 8 #[.int .i64 i0, .int .i64 i1, .slice a2 n2 c2] w fun e w' => e = .returned (.bool true) ∧ Below w.heap.size w w' := by
  by_cases b0 : (1048576 : Int) < n2
  · have E0 := hide (szV_big b0)
    have HZ2 := hide hz2
    have HR2 := hide hr2
    clear hz2 hr2
    go_enter Try.func8, Try.ntmps8
    go_wp2_with fail
    refine (szCoverS_any _ _ _ _ _ hn2 (by omega) (by omega)).mono ?_
    rintro e w' ⟨rfl, rfl⟩
    rw [E0.out]
    go_wp2
    go_ret
    first | exact ⟨rfl, Below.refl _ _⟩ | exact ⟨rfl, (Below.refl _ _).alloc (Nat.le_refl _) _⟩
  · have E0 := hide (szV_ok b0)
    have q2 : n2 ≤ 1048576 := by omega
    have p0 : ¬ (1048576 : Int) - n2 < 0 := by omega
    have HZ2 := hide hz2
    have HR2 := hide hr2
    clear hz2 hr2
    have HB := hide (Below.refl w.heap.size w)
    go_enter Try.func8, Try.ntmps8
    go_wp2_with fail
    refine (szCoverS_any _ _ _ _ _ hn2 (by omega) (by omega)).mono ?_
    rintro e w' ⟨rfl, rfl⟩
    rw [E0.out]
    obtain ⟨N, hN⟩ : ∃ N, N = (fewV i0 i1 z2).length := ⟨_, rfl⟩
    have hNb : N ≤ 1048576 := by rw [hN]; exact Nat.le_trans few_len (by rw [HZ2.out]; exact q2)
    have HN := hide hN
    clear hN
    go_wp2_with fail
    refine (toCoverS_any _ _ _ z2 _ HZ2.out q2 (rd_at0 HR2.out HB.out)).mono ?_
    rintro e w1 ⟨rfl, ho, hr, hb⟩
    have S1 := hide hb.size
    have HB := hide (bl_step HB.out hb)
    have Z1 := hide HB.out.size
    clear hb
    have HS2 := hide hr
    clear ho hr
    go_wp2_with fail
    refine (sFewestCovers_any i0 i1 _ _ _ z2 _ HZ2.out q2 (HS2.out)).mono ?_
    rintro e w2 ⟨u, rfl, ho, hb⟩
    have HS2 := hide (rd_step HS2.out hb)
    have S2 := hide hb.size
    have HB := hide (bl_step HB.out hb)
    have Z2 := hide HB.out.size
    clear hb
    rw [← HN.out] at ho
    have OU := hide ho
    have LU := hide (own_lt ho)
    clear ho
    clear HS2
    go_wp2_with fail
    refine (toCoverS_any _ _ _ z2 _ HZ2.out q2 (rd_at0 HR2.out HB.out)).mono ?_
    rintro e w3 ⟨rfl, ho, hr, hb⟩
    have OU := hide (own_step OU.out hb)
    have S3 := hide hb.size
    have HB := hide (bl_step HB.out hb)
    have Z3 := hide HB.out.size
    clear hb
    have OX2 := hide ho
    have LX2 := hide (own_lt ho)
    clear ho hr
    go_wp2_with fail
    refine (FewestCovers_any i0 i1 _ _ _ z2 _ HZ2.out q2 (own_rd' encCv_len OX2.out HZ2.out)).mono ?_
    rintro e w4 ⟨v, rfl, ho, hb⟩
    have OU := hide (own_step OU.out hb)
    have OX2 := hide (own_step OX2.out hb)
    have S4 := hide hb.size
    have HB := hide (bl_step HB.out hb)
    have Z4 := hide HB.out.size
    clear hb
    rw [← HN.out] at ho
    have OV := hide ho
    have LV := hide (own_lt ho)
    clear ho
    go_wp2_with fail
    refine (eqIntS_own _ _ N (fewV i0 i1 z2) _ OV.out OU.out HN.out.symm hNb).mono ?_
    rintro e w5 ⟨rfl, hb⟩
    have OU := hide (own_step OU.out hb)
    have OX2 := hide (own_step OX2.out hb)
    have OV := hide (own_step OV.out hb)
    have S5 := hide hb.size
    have HB := hide (bl_step HB.out hb)
    have Z5 := hide HB.out.size
    clear hb
    go_wp2_with fail
    refine (toCoverS_any _ _ _ z2 _ HZ2.out q2 (rd_at0 HR2.out HB.out)).mono ?_
    rintro e w6 ⟨rfl, ho, hr, hb⟩
    have OU := hide (own_step OU.out hb)
    have OX2 := hide (own_step OX2.out hb)
    have OV := hide (own_step OV.out hb)
    have S6 := hide hb.size
    have HB := hide (bl_step HB.out hb)
    have Z6 := hide HB.out.size
    clear hb
    have OY := hide ho
    have LY := hide (own_lt ho)
    clear ho hr
    go_wp2_with fail
    refine (eqCoverS_own _ _ n2 z2 _ OX2.out OY.out HZ2.out q2).mono ?_
    rintro e w7 ⟨rfl, hb⟩
    have OU := hide (own_step OU.out hb)
    have OX2 := hide (own_step OX2.out hb)
    have OV := hide (own_step OV.out hb)
    have OY := hide (own_step OY.out hb)
    have S7 := hide hb.size
    have HB := hide (bl_step HB.out hb)
    have Z7 := hide HB.out.size
    clear hb
    clear OY LY
    go_wp2_with fail
    refine (markCoverS_own _ n2 (z2) _ _ OX2.out HZ2.out q2 (by omega) (by omega)).mono ?_
    rintro e w8 ⟨rfl, hg, ho⟩
    have OU := hide (own_only OU.out hg (fun j i hj hi => by have a := LU.out j hj; have b := LX2.out i hi; omega))
    have OV := hide (own_only OV.out hg (fun j i hj hi => by have a := LV.out j hj; have b := LX2.out i hi; omega))
    have S8 := hide hg.size
    have HB := hide (bl_own HB.out hg (fun j hj => by have a := LX2.out j hj; have y := Z2.out; omega))
    have Z8 := hide HB.out.size
    have OX2 := hide ho
    clear hg ho
    clear OX2 LX2
    go_wp2_with fail
    refine (eqIntS_own _ _ N (fewV i0 i1 z2) _ OV.out OU.out HN.out.symm hNb).mono ?_
    rintro e w9 ⟨rfl, hb⟩
    have OU := hide (own_step OU.out hb)
    have OV := hide (own_step OV.out hb)
    have S9 := hide hb.size
    have HB := hide (bl_step HB.out hb)
    have Z9 := hide HB.out.size
    clear hb
    go_wp2_with fail
    refine (markIntS_own _ N (fewV i0 i1 z2) _ _ OV.out HN.out.symm hNb (by omega) (by omega)).mono ?_
    rintro e w10 ⟨rfl, hg, ho⟩
    have OU := hide (own_only OU.out hg (fun j i hj hi => by have a := LU.out j hj; have b := LV.out i hi; have y3 := S3.out; omega))
    have S10 := hide hg.size
    have HB := hide (bl_own HB.out hg (fun j hj => by have a := LV.out j hj; have y := Z3.out; omega))
    have Z10 := hide HB.out.size
    have OV := hide ho
    clear hg ho
    go_wp2_with fail
    refine (heldIntS_own _ N _ _ OV.out hNb (by omega) (by omega)).mono ?_
    rintro e w' ⟨rfl, rfl⟩
    go_wp2_with fail
    refine (toCoverS_any _ _ _ z2 _ HZ2.out q2 (rd_at0 HR2.out HB.out)).mono ?_
    rintro e w11 ⟨rfl, ho, hr, hb⟩
    have OU := hide (own_step OU.out hb)
    have OV := hide (own_step OV.out hb)
    have S11 := hide hb.size
    have HB := hide (bl_step HB.out hb)
    have Z11 := hide HB.out.size
    clear hb
    have HK2 := hide hr
    clear ho hr
    go_wp2_with fail
    refine (FewestCovers_any i0 i1 _ _ _ z2 _ HZ2.out q2 (HK2.out)).mono ?_
    rintro e w12 ⟨v2, rfl, ho, hb⟩
    have HK2 := hide (rd_step HK2.out hb)
    have OU := hide (own_step OU.out hb)
    have OV := hide (own_step OV.out hb)
    have S12 := hide hb.size
    have HB := hide (bl_step HB.out hb)
    have Z12 := hide HB.out.size
    clear hb
    rw [← HN.out] at ho
    have OV2 := hide ho
    have LV2 := hide (own_lt ho)
    clear ho
    clear HK2
    go_wp2_with fail
    refine (eqIntS_own _ _ N (fewV i0 i1 z2) _ OV2.out OU.out HN.out.symm hNb).mono ?_
    rintro e w13 ⟨rfl, hb⟩
    have OU := hide (own_step OU.out hb)
    have OV := hide (own_step OV.out hb)
    have OV2 := hide (own_step OV2.out hb)
    have S13 := hide hb.size
    have HB := hide (bl_step HB.out hb)
    have Z13 := hide HB.out.size
    clear hb
    go_wp2_with fail
    refine (heldIntS_own _ N _ _ OV.out hNb (by omega) (by omega)).mono ?_
    rintro e w' ⟨rfl, rfl⟩
    go_wp2
    go_ret
    exact ⟨rfl, HB.out⟩

end Go.Proofs.Ytpdfbijfklmonaa
