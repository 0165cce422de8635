/- The law FnExactBestOrder walked. -/
import Derived.Test.YtdgalehipgdhiaaG4
import Derived.Test.YtdgalehipgdhiaaOwn
namespace Go.Proofs.Ytdgalehipgdhiaa
open Go.RowKit
set_option linter.unusedVariables false
set_option maxHeartbeats 1000000
set_option maxRecDepth 100000 in
theorem law_FnExactBestOrder (a0 : Option Addr) (n0 c0 : Nat) (z0 : List Pg) (w : World) (hz0 : z0.length = n0) (hn0 : n0 ≤ 9223372036854775807) (hr0 : Rd encPg 4 w.heap.size w a0 z0) :
    Calls Try.prog 5 #[.slice a0 n0 c0] w fun e w' => e = .returned (.bool true) ∧ Below w.heap.size w w' := by
  by_cases b0 : (1048576 : Int) < n0
  · have E0 := hide (szV_big b0)
    have HZ0 := hide hz0
    have HR0 := hide hr0
    clear hz0 hr0
    go_enter Try.func5, Try.ntmps5
    go_wp2_with fail
    refine (szPageS_any _ _ _ _ _ hn0 (by omega) (by omega)).mono ?_
    rintro e w' ⟨rfl, rfl⟩
    rw [E0.out]
    go_wp2
    go_ret
    first | exact ⟨rfl, Below.refl _ _⟩ | exact ⟨rfl, (Below.refl _ _).alloc (Nat.le_refl _) _⟩
  · have E0 := hide (szV_ok b0)
    have q0 : n0 ≤ 1048576 := by omega
    have p0 : ¬ (1048576 : Int) - n0 < 0 := by omega
    have HZ0 := hide hz0
    have HR0 := hide hr0
    clear hz0 hr0
    have HB := hide (Below.refl w.heap.size w)
    go_enter Try.func5, Try.ntmps5
    go_wp2_with fail
    refine (szPageS_any _ _ _ _ _ hn0 (by omega) (by omega)).mono ?_
    rintro e w' ⟨rfl, rfl⟩
    rw [E0.out]
    obtain ⟨N, hN⟩ : ∃ N, N = (ordV z0).length := ⟨_, rfl⟩
    have hNb : N ≤ 1048576 := by rw [hN]; exact Nat.le_trans ord_len (by rw [HZ0.out]; exact q0)
    have HN := hide hN
    clear hN
    go_wp2_with fail
    refine (toPageS_any _ _ _ z0 _ HZ0.out q0 (rd_at0 HR0.out HB.out)).mono ?_
    rintro e w1 ⟨rfl, ho, hr, hb⟩
    have S1 := hide hb.size
    have HB := hide (bl_step HB.out hb)
    have Z1 := hide HB.out.size
    clear hb
    have HS0 := hide hr
    clear ho hr
    go_wp2_with fail
    refine (sBestOrder_any _ _ z0 _ HZ0.out q0 (HS0.out)).mono ?_
    rintro e w2 ⟨u, rfl, ho, hb⟩
    have HS0 := hide (rd_step HS0.out hb)
    have S2 := hide hb.size
    have HB := hide (bl_step HB.out hb)
    have Z2 := hide HB.out.size
    clear hb
    rw [← HN.out] at ho
    have OU := hide ho
    have LU := hide (own_lt ho)
    clear ho
    clear HS0
    go_wp2_with fail
    refine (toPageS_any _ _ _ z0 _ HZ0.out q0 (rd_at0 HR0.out HB.out)).mono ?_
    rintro e w3 ⟨rfl, ho, hr, hb⟩
    have OU := hide (own_step OU.out hb)
    have S3 := hide hb.size
    have HB := hide (bl_step HB.out hb)
    have Z3 := hide HB.out.size
    clear hb
    have OX0 := hide ho
    have LX0 := hide (own_lt ho)
    clear ho hr
    go_wp2_with fail
    refine (BestOrder_any _ _ _ z0 _ HZ0.out q0 (own_rd' encPg_len OX0.out HZ0.out)).mono ?_
    rintro e w4 ⟨v, rfl, ho, hb⟩
    have OU := hide (own_step OU.out hb)
    have OX0 := hide (own_step OX0.out hb)
    have S4 := hide hb.size
    have HB := hide (bl_step HB.out hb)
    have Z4 := hide HB.out.size
    clear hb
    rw [← HN.out] at ho
    have OV := hide ho
    have LV := hide (own_lt ho)
    clear ho
    go_wp2_with fail
    refine (eqIntS_own _ _ N (ordV z0) _ OV.out OU.out HN.out.symm hNb).mono ?_
    rintro e w5 ⟨rfl, hb⟩
    have OU := hide (own_step OU.out hb)
    have OX0 := hide (own_step OX0.out hb)
    have OV := hide (own_step OV.out hb)
    have S5 := hide hb.size
    have HB := hide (bl_step HB.out hb)
    have Z5 := hide HB.out.size
    clear hb
    go_wp2_with fail
    refine (toPageS_any _ _ _ z0 _ HZ0.out q0 (rd_at0 HR0.out HB.out)).mono ?_
    rintro e w6 ⟨rfl, ho, hr, hb⟩
    have OU := hide (own_step OU.out hb)
    have OX0 := hide (own_step OX0.out hb)
    have OV := hide (own_step OV.out hb)
    have S6 := hide hb.size
    have HB := hide (bl_step HB.out hb)
    have Z6 := hide HB.out.size
    clear hb
    have OY := hide ho
    have LY := hide (own_lt ho)
    clear ho hr
    go_wp2_with fail
    refine (eqPageS_own _ _ n0 z0 _ OX0.out OY.out HZ0.out q0).mono ?_
    rintro e w7 ⟨rfl, hb⟩
    have OU := hide (own_step OU.out hb)
    have OX0 := hide (own_step OX0.out hb)
    have OV := hide (own_step OV.out hb)
    have OY := hide (own_step OY.out hb)
    have S7 := hide hb.size
    have HB := hide (bl_step HB.out hb)
    have Z7 := hide HB.out.size
    clear hb
    clear OY LY
    go_wp2_with fail
    refine (markPageS_own _ n0 (z0) _ _ OX0.out HZ0.out q0 (by omega) (by omega)).mono ?_
    rintro e w8 ⟨rfl, hg, ho⟩
    have OU := hide (own_only OU.out hg (fun j i hj hi => by have a := LU.out j hj; have b := LX0.out i hi; omega))
    have OV := hide (own_only OV.out hg (fun j i hj hi => by have a := LV.out j hj; have b := LX0.out i hi; omega))
    have S8 := hide hg.size
    have HB := hide (bl_own HB.out hg (fun j hj => by have a := LX0.out j hj; have y := Z2.out; omega))
    have Z8 := hide HB.out.size
    have OX0 := hide ho
    clear hg ho
    clear OX0 LX0
    go_wp2_with fail
    refine (eqIntS_own _ _ N (ordV z0) _ OV.out OU.out HN.out.symm hNb).mono ?_
    rintro e w9 ⟨rfl, hb⟩
    have OU := hide (own_step OU.out hb)
    have OV := hide (own_step OV.out hb)
    have S9 := hide hb.size
    have HB := hide (bl_step HB.out hb)
    have Z9 := hide HB.out.size
    clear hb
    go_wp2_with fail
    refine (markIntS_own _ N (ordV z0) _ _ OV.out HN.out.symm hNb (by omega) (by omega)).mono ?_
    rintro e w10 ⟨rfl, hg, ho⟩
    have OU := hide (own_only OU.out hg (fun j i hj hi => by have a := LU.out j hj; have b := LV.out i hi; have y3 := S3.out; omega))
    have S10 := hide hg.size
    have HB := hide (bl_own HB.out hg (fun j hj => by have a := LV.out j hj; have y := Z3.out; omega))
    have Z10 := hide HB.out.size
    have OV := hide ho
    clear hg ho
    go_wp2_with fail
    refine (heldIntS_own _ N _ _ OV.out hNb (by omega) (by omega)).mono ?_
    rintro e w' ⟨rfl, rfl⟩
    go_wp2_with fail
    refine (toPageS_any _ _ _ z0 _ HZ0.out q0 (rd_at0 HR0.out HB.out)).mono ?_
    rintro e w11 ⟨rfl, ho, hr, hb⟩
    have OU := hide (own_step OU.out hb)
    have OV := hide (own_step OV.out hb)
    have S11 := hide hb.size
    have HB := hide (bl_step HB.out hb)
    have Z11 := hide HB.out.size
    clear hb
    have HK0 := hide hr
    clear ho hr
    go_wp2_with fail
    refine (BestOrder_any _ _ _ z0 _ HZ0.out q0 (HK0.out)).mono ?_
    rintro e w12 ⟨v2, rfl, ho, hb⟩
    have HK0 := hide (rd_step HK0.out hb)
    have OU := hide (own_step OU.out hb)
    have OV := hide (own_step OV.out hb)
    have S12 := hide hb.size
    have HB := hide (bl_step HB.out hb)
    have Z12 := hide HB.out.size
    clear hb
    rw [← HN.out] at ho
    have OV2 := hide ho
    have LV2 := hide (own_lt ho)
    clear ho
    clear HK0
    go_wp2_with fail
    refine (eqIntS_own _ _ N (ordV z0) _ OV2.out OU.out HN.out.symm hNb).mono ?_
    rintro e w13 ⟨rfl, hb⟩
    have OU := hide (own_step OU.out hb)
    have OV := hide (own_step OV.out hb)
    have OV2 := hide (own_step OV2.out hb)
    have S13 := hide hb.size
    have HB := hide (bl_step HB.out hb)
    have Z13 := hide HB.out.size
    clear hb
    go_wp2_with fail
    refine (heldIntS_own _ N _ _ OV.out hNb (by omega) (by omega)).mono ?_
    rintro e w' ⟨rfl, rfl⟩
    go_wp2
    go_ret
    exact ⟨rfl, HB.out⟩

end Go.Proofs.Ytdgalehipgdhiaa
