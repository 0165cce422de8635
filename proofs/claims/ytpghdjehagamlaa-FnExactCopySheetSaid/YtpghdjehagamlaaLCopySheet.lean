/- The law FnExactCopySheet walked. -/
import Derived.Test.YtpghdjehagamlaaRF
import Derived.Test.YtpghdjehagamlaaRG
import Derived.Test.YtpghdjehagamlaaOwn
import Derived.StillTailTactics
namespace Go.Proofs.Ytpghdjehagamlaa
open Go.RowKit
set_option linter.unusedVariables false
set_option maxHeartbeats 2000000
set_option maxRecDepth 100000 in
theorem law_FnExactCopySheet (a0 : Option Addr) (n0 c0 : Nat) (z0 : List Rt) (a1 : Option Addr) (n1 c1 : Nat) (z1 : List Cp) (x2 : Cp) (w0 : World) (hz0 : z0.length = n0) (hn0 : n0 ≤ 9223372036854775807) (hr0 : Rd encRt 4 w0.heap.size w0 a0 z0) (hz1 : z1.length = n1) (hn1 : n1 ≤ 9223372036854775807) (hr1 : Rd encCp 4 w0.heap.size w0 a1 z1) :
    Calls Try.prog 3 #[.slice a0 n0 c0, .slice a1 n1 c1, .agg #[.int .i64 x2.s, .int .i64 x2.r, .int .i64 x2.d, .int .i64 x2.p]] w0 fun e w' => e = .returned (.bool true) ∧ Below w0.heap.size w0 w' := by
  obtain ⟨w, hw⟩ : ∃ w, w = w0.alloc (.cells #[.int .i64 x2.s, .int .i64 x2.r, .int .i64 x2.d, .int .i64 x2.p] 25) := ⟨_, rfl⟩
  have HBV : Hid (Below w0.heap.size w0 w) := hide (by rw [hw]; exact (Below.refl _ _).alloc (Nat.le_refl _) _)
  have gB : w0.heap.size < w.heap.size := by rw [hw]; simp
  have B0 := hide (show w.cell? ⟨w0.heap.size, 0, none⟩ = some (.int .i64 x2.s) from by rw [hw]; simp)
  have B1 := hide (show w.cell? ⟨w0.heap.size, 1, none⟩ = some (.int .i64 x2.r) from by rw [hw]; simp)
  have B2 := hide (show w.cell? ⟨w0.heap.size, 2, none⟩ = some (.int .i64 x2.d) from by rw [hw]; simp)
  have B3 := hide (show w.cell? ⟨w0.heap.size, 3, none⟩ = some (.int .i64 x2.p) from by rw [hw]; simp)
  have HW := hide hw
  clear hw
  replace hr0 := rd_step hr0 HBV.out
  replace hr1 := rd_step hr1 HBV.out
  by_cases b0 : (1048576 : Int) < n0
  · have E0 := hide (szV_big b0)
    have HZ0 := hide hz0
    have HR0 := hide hr0
    clear hz0 hr0
    have HZ1 := hide hz1
    have HR1 := hide hr1
    clear hz1 hr1
    go_enter Try.func3, Try.ntmps3
    go_wp2_with fail
    rw [← HW.out]
    refine (szRightS_any _ _ _ _ _ hn0 (by omega) (by omega)).mono ?_
    rintro e w' ⟨rfl, rfl⟩
    rw [E0.out]
    go_wp2
    go_ret
    exact ⟨rfl, HBV.out⟩
  · have E0 := hide (szV_ok b0)
    by_cases b1 : (1048576 : Int) - n0 < n1
    · have E1 := hide (szV_big b1)
      have E0 := hide (szV_ok b0)
      have HZ0 := hide hz0
      have HR0 := hide hr0
      clear hz0 hr0
      have HZ1 := hide hz1
      have HR1 := hide hr1
      clear hz1 hr1
      go_enter Try.func3, Try.ntmps3
      go_wp2_with fail
      rw [← HW.out]
      refine (szRightS_any _ _ _ _ _ hn0 (by omega) (by omega)).mono ?_
      rintro e w' ⟨rfl, rfl⟩
      rw [E0.out]
      go_wp2_with fail
      refine (szCopyingS_any _ _ _ _ _ hn1 (by omega) (by omega)).mono ?_
      rintro e w' ⟨rfl, rfl⟩
      rw [E1.out]
      go_wp2
      go_ret
      exact ⟨rfl, HBV.out⟩
    · have E1 := hide (szV_ok b1)
      have q0 : n0 ≤ 1048576 := by omega
      have p0 : ¬ (1048576 : Int) - n0 < 0 := by omega
      have q1 : n1 ≤ 1048576 := by omega
      have p1 : ¬ (1048576 : Int) - n0 - n1 < 0 := by omega
      have HZ0 := hide hz0
      have HR0 := hide hr0
      clear hz0 hr0
      have HZ1 := hide hz1
      have HR1 := hide hr1
      clear hz1 hr1
      have HB := hide (Below.refl w.heap.size w)
      go_enter Try.func3, Try.ntmps3
      go_wp2_with fail
      rw [← HW.out]
      refine (szRightS_any _ _ _ _ _ hn0 (by omega) (by omega)).mono ?_
      rintro e w' ⟨rfl, rfl⟩
      rw [E0.out]
      go_wp2_with fail
      refine (szCopyingS_any _ _ _ _ _ hn1 (by omega) (by omega)).mono ?_
      rintro e w' ⟨rfl, rfl⟩
      rw [E1.out]
      obtain ⟨N, hN⟩ : ∃ N, N = (cpV z0 z1 x2).length := ⟨_, rfl⟩
      have hNb : N ≤ 1048576 := by rw [hN]; exact Nat.le_trans cp_len (by omega)
      have HN := hide hN
      clear hN
      have l0 := (HB.out.cell (p := ⟨w0.heap.size, 0, none⟩) gB).trans B0.out
      have l1 := (HB.out.cell (p := ⟨w0.heap.size, 1, none⟩) gB).trans B1.out
      have l2 := (HB.out.cell (p := ⟨w0.heap.size, 2, none⟩) gB).trans B2.out
      have l3 := (HB.out.cell (p := ⟨w0.heap.size, 3, none⟩) gB).trans B3.out
      have gW : w0.heap.size < w.heap.size := Nat.lt_of_lt_of_le gB HB.out.size
      have HA0 := hide (rd_at0 HR0.out HB.out)
      have HA1 := hide (rd_at0 HR1.out HB.out)
      go_wp2_with fail
      refine wp_region_held_drew (S := (fun w' => w'.cell? ⟨w0.heap.size, 0, none⟩ = some (.int .i64 x2.s) ∧ w'.cell? ⟨w0.heap.size, 1, none⟩ = some (.int .i64 x2.r) ∧ w'.cell? ⟨w0.heap.size, 2, none⟩ = some (.int .i64 x2.d) ∧ w'.cell? ⟨w0.heap.size, 3, none⟩ = some (.int .i64 x2.p) ∧ Below w.heap.size w w')) (by kernel_rfl) ⟨((show Below w.heap.size w w.drew from (Below.refl _ _).drew).cell (p := ⟨w0.heap.size, 0, none⟩) gW).trans l0, ((show Below w.heap.size w w.drew from (Below.refl _ _).drew).cell (p := ⟨w0.heap.size, 1, none⟩) gW).trans l1, ((show Below w.heap.size w w.drew from (Below.refl _ _).drew).cell (p := ⟨w0.heap.size, 2, none⟩) gW).trans l2, ((show Below w.heap.size w w.drew from (Below.refl _ _).drew).cell (p := ⟨w0.heap.size, 3, none⟩) gW).trans l3, (show Below w.heap.size w w.drew from (Below.refl _ _).drew)⟩ (fun hHeld => ?_)
      refine heldR_take 0 33 ?vv1 rfl (by kernel_rfl) (by kernel_rfl) (by kernel_rfl) rfl (fun _ _ _ h => h) (by rfl) ?hy1 (by assumption) ?rest1
      case hy1 => (intro w hSw; (try dsimp only at hSw); go_simp; try with_reducible rfl)
      try simp only [Act.put, List.setIfInBounds_toArray, List.set_cons_zero, List.set_cons_succ]
      refine heldR_take 2 35 ?vv2 rfl (by kernel_rfl) (by kernel_rfl) (by kernel_rfl) rfl (fun _ _ _ h => h) (by rfl) ?hy2 (by assumption) ?rest2
      case hy2 => (intro w hSw; (try dsimp only at hSw); go_simp; try with_reducible rfl)
      try simp only [Act.put, List.setIfInBounds_toArray, List.set_cons_zero, List.set_cons_succ]
      refine heldR_take 4 37 ?vv3 rfl (by kernel_rfl) (by kernel_rfl) (by kernel_rfl) rfl (fun _ _ _ h => h) (by rfl) ?hy3 (by assumption) ?rest3
      case hy3 => (intro w hSw; (try dsimp only at hSw); go_simp; try with_reducible rfl)
      try simp only [Act.put, List.setIfInBounds_toArray, List.set_cons_zero, List.set_cons_succ]
      refine wpAnyH_ready (rs := [1]) (by kernel_rfl) (by simp) ?_
      refine AllReadyH.cons rfl (fun K hK => ?_) AllReadyH.nil
      go_simp
      refine (toRightS_any _ _ _ z0 _ HZ0.out q0 (rd_step HA0.out (Below.refl _ w).drew)).mono ?_
      rintro e v1 ⟨rfl, _, hr, hb⟩
      go_wp2_with fail
      have p1 : Below w.heap.size w v1 := (Below.refl _ w).drew.trans hb
      have T0 := hide hr
      clear hb hr
      refine hK.out _ _ ⟨(p1.cell (p := ⟨w0.heap.size, 0, none⟩) gW).trans l0, (p1.cell (p := ⟨w0.heap.size, 1, none⟩) gW).trans l1, (p1.cell (p := ⟨w0.heap.size, 2, none⟩) gW).trans l2, (p1.cell (p := ⟨w0.heap.size, 3, none⟩) gW).trans l3, p1⟩ (fun hHeld => ?_)
      clear hK K
      try simp only [Act.put, List.setIfInBounds_toArray, List.set_cons_zero, List.set_cons_succ]
      refine wpAnyH_ready (rs := [3]) (by kernel_rfl) (by simp) ?_
      refine AllReadyH.cons rfl (fun K hK => ?_) AllReadyH.nil
      go_simp
      refine (toCopyingS_any _ _ _ z1 _ HZ1.out q1 (rd_step HA1.out p1)).mono ?_
      rintro e v2 ⟨rfl, _, hr, hb⟩
      go_wp2_with fail
      have p2 : Below w.heap.size w v2 := bl_step p1 hb
      have T0 := hide (rd_step T0.out hb)
      have T1 := hide hr
      clear hb hr
      refine hK.out _ _ ⟨(p2.cell (p := ⟨w0.heap.size, 0, none⟩) gW).trans l0, (p2.cell (p := ⟨w0.heap.size, 1, none⟩) gW).trans l1, (p2.cell (p := ⟨w0.heap.size, 2, none⟩) gW).trans l2, (p2.cell (p := ⟨w0.heap.size, 3, none⟩) gW).trans l3, p2⟩ (fun hHeld => ?_)
      clear hK K
      try simp only [Act.put, List.setIfInBounds_toArray, List.set_cons_zero, List.set_cons_succ]
      refine wpAnyH_ready (rs := [5]) (by kernel_rfl) (by simp) ?_
      refine AllReadyH.cons rfl (fun K hK => ?_) AllReadyH.nil
      go_simp
      refine (toCopying_any x2 _).mono ?_
      rintro e v3 ⟨rfl, hb⟩
      go_wp2_with fail
      have p3 : Below w.heap.size w v3 := bl_step p2 hb
      have T0 := hide (rd_step T0.out hb)
      have T1 := hide (rd_step T1.out hb)
      clear hb
      refine hK.out _ _ ⟨(p3.cell (p := ⟨w0.heap.size, 0, none⟩) gW).trans l0, (p3.cell (p := ⟨w0.heap.size, 1, none⟩) gW).trans l1, (p3.cell (p := ⟨w0.heap.size, 2, none⟩) gW).trans l2, (p3.cell (p := ⟨w0.heap.size, 3, none⟩) gW).trans l3, p3⟩ (fun hHeld => ?_)
      clear hK K
      try simp only [Act.put, List.setIfInBounds_toArray, List.set_cons_zero, List.set_cons_succ]
      refine wpAnyH_ready (rs := [6]) (by kernel_rfl) (by simp) ?_
      refine AllReadyH.cons rfl (fun K hK => ?_) AllReadyH.nil
      go_simp
      refine (sCopySheet_any _ _ _ z0 _ _ _ z1 x2 _ HZ0.out q0 T0.out HZ1.out q1 T1.out).mono ?_
      rintro e w1 ⟨u, rfl, ho, hb⟩
      go_wp2_with fail
      have hb := bl_step p3 hb
      have ho := own_base ho p3.size
      refine hK.out _ _ ⟨(hb.cell (p := ⟨w0.heap.size, 0, none⟩) gW).trans l0, (hb.cell (p := ⟨w0.heap.size, 1, none⟩) gW).trans l1, (hb.cell (p := ⟨w0.heap.size, 2, none⟩) gW).trans l2, (hb.cell (p := ⟨w0.heap.size, 3, none⟩) gW).trans l3, hb⟩ (fun hHeld => ?_)
      clear hK K
      try simp only [Act.put, List.setIfInBounds_toArray, List.set_cons_zero, List.set_cons_succ]
      refine heldR_take 7 32 ?vv4 rfl (by kernel_rfl) (by kernel_rfl) (by kernel_rfl) rfl (fun _ _ _ h => h) (by rfl) ?hy4 (by assumption) ?rest4
      case hy4 => (intro w hSw; (try dsimp only at hSw); go_simp; try with_reducible rfl)
      try simp only [Act.put, List.setIfInBounds_toArray, List.set_cons_zero, List.set_cons_succ]
      refine heldR_take 8 40 ?vv5 rfl (by kernel_rfl) (by kernel_rfl) (by kernel_rfl) rfl (fun _ _ _ h => h) (by rfl) ?hy5 (by assumption) ?rest5
      case hy5 => (intro w hSw; (try dsimp only at hSw); go_simp; try with_reducible rfl)
      try simp only [Act.put, List.setIfInBounds_toArray, List.set_cons_zero, List.set_cons_succ]
      refine heldR_take 9 41 ?vv6 rfl (by kernel_rfl) (by kernel_rfl) (by kernel_rfl) rfl (fun _ _ _ h => h) (by rfl) ?hy6 (by assumption) ?rest6
      case hy6 => (intro w hSw; (try dsimp only at hSw); go_simp; try with_reducible rfl)
      try simp only [Act.put, List.setIfInBounds_toArray, List.set_cons_zero, List.set_cons_succ]
      refine heldR_take 10 42 ?vv7 rfl (by kernel_rfl) (by kernel_rfl) (by kernel_rfl) rfl (fun _ _ _ h => h) (by rfl) ?hy7 (by assumption) ?rest7
      case hy7 => (intro w hSw; (try dsimp only at hSw); go_simp; try with_reducible rfl)
      try simp only [Act.put, List.setIfInBounds_toArray, List.set_cons_zero, List.set_cons_succ]
      refine heldR_take 11 8 ?vv8 rfl (by kernel_rfl) (by kernel_rfl) (by kernel_rfl) rfl (fun _ _ _ h => h) (by rfl) ?hy8 (by assumption) ?rest8
      case hy8 => (intro w hSw; (try dsimp only at hSw); go_simp; try with_reducible rfl)
      try simp only [Act.put, List.setIfInBounds_toArray, List.set_cons_zero, List.set_cons_succ]
      refine heldR_take 12 9 ?vv9 rfl (by kernel_rfl) (by kernel_rfl) (by kernel_rfl) rfl (fun _ _ _ h => h) (by rfl) ?hy9 (by assumption) ?rest9
      case hy9 => (intro w hSw; (try dsimp only at hSw); go_simp; try with_reducible rfl)
      try simp only [Act.put, List.setIfInBounds_toArray, List.set_cons_zero, List.set_cons_succ]
      refine heldR_take 13 10 ?vv10 rfl (by kernel_rfl) (by kernel_rfl) (by kernel_rfl) rfl (fun _ _ _ h => h) (by rfl) ?hy10 (by assumption) ?rest10
      case hy10 => (intro w hSw; (try dsimp only at hSw); go_simp; try with_reducible rfl)
      try simp only [Act.put, List.setIfInBounds_toArray, List.set_cons_zero, List.set_cons_succ]
      refine wpAnyH_done (by kernel_rfl) ?_ _
      clear hHeld T0 T1 p1 p2 p3
      have S1 := hide hb.size
      have HB := hide (bl_step HB.out hb)
      have Z1 := hide HB.out.size
      clear hb gW HA0 HA1
      clear l0 l1 l2 l3
      rw [← HN.out] at ho
      have OU := hide ho
      have LU := hide (own_lt ho)
      clear ho
      go_wp2_with fail
      refine (toRightS_any _ _ _ z0 _ HZ0.out q0 (rd_at0 HR0.out HB.out)).mono ?_
      rintro e w2 ⟨rfl, ho, hr, hb⟩
      have OU := hide (own_step OU.out hb)
      have S2 := hide hb.size
      have HB := hide (bl_step HB.out hb)
      have Z2 := hide HB.out.size
      clear hb
      have OX0 := hide ho
      have LX0 := hide (own_lt ho)
      clear ho hr
      go_wp2_with fail
      refine (toCopyingS_any _ _ _ z1 _ HZ1.out q1 (rd_at0 HR1.out HB.out)).mono ?_
      rintro e w3 ⟨rfl, ho, hr, hb⟩
      have OU := hide (own_step OU.out hb)
      have OX0 := hide (own_step OX0.out hb)
      have S3 := hide hb.size
      have HB := hide (bl_step HB.out hb)
      have Z3 := hide HB.out.size
      clear hb
      have OX1 := hide ho
      have LX1 := hide (own_lt ho)
      clear ho hr
      have l0 := (HB.out.cell (p := ⟨w0.heap.size, 0, none⟩) gB).trans B0.out
      have l1 := (HB.out.cell (p := ⟨w0.heap.size, 1, none⟩) gB).trans B1.out
      have l2 := (HB.out.cell (p := ⟨w0.heap.size, 2, none⟩) gB).trans B2.out
      have l3 := (HB.out.cell (p := ⟨w0.heap.size, 3, none⟩) gB).trans B3.out
      go_wp2_with fail
      refine (toCopying_any x2 _).mono ?_
      rintro e w4 ⟨rfl, hb⟩
      have OU := hide (own_step OU.out hb)
      have OX0 := hide (own_step OX0.out hb)
      have OX1 := hide (own_step OX1.out hb)
      have S4 := hide hb.size
      have HB := hide (bl_step HB.out hb)
      have Z4 := hide HB.out.size
      clear hb
      go_wp2_with fail
      refine (CopySheet_any _ _ _ z0 _ _ _ z1 x2 _ HZ0.out q0 (own_rd' encRt_len OX0.out HZ0.out) HZ1.out q1 (own_rd' encCp_len OX1.out HZ1.out)).mono ?_
      rintro e w5 ⟨v, rfl, ho, hb⟩
      have OU := hide (own_step OU.out hb)
      have OX0 := hide (own_step OX0.out hb)
      have OX1 := hide (own_step OX1.out hb)
      have S5 := hide hb.size
      have HB := hide (bl_step HB.out hb)
      have Z5 := hide HB.out.size
      clear hb
      rw [← HN.out] at ho
      have OV := hide ho
      have LV := hide (own_lt ho)
      clear ho
      clear l0 l1 l2 l3
      go_wp2_with fail
      refine (eqCopyingS_own _ _ N (cpV z0 z1 x2) _ OV.out OU.out HN.out.symm hNb).mono ?_
      rintro e w6 ⟨rfl, hb⟩
      have OU := hide (own_step OU.out hb)
      have OX0 := hide (own_step OX0.out hb)
      have OX1 := hide (own_step OX1.out hb)
      have OV := hide (own_step OV.out hb)
      have S6 := hide hb.size
      have HB := hide (bl_step HB.out hb)
      have Z6 := hide HB.out.size
      clear hb
      go_wp2_with fail
      refine (toRightS_any _ _ _ z0 _ HZ0.out q0 (rd_at0 HR0.out HB.out)).mono ?_
      rintro e w7 ⟨rfl, ho, hr, hb⟩
      have OU := hide (own_step OU.out hb)
      have OX0 := hide (own_step OX0.out hb)
      have OX1 := hide (own_step OX1.out hb)
      have OV := hide (own_step OV.out hb)
      have S7 := hide hb.size
      have HB := hide (bl_step HB.out hb)
      have Z7 := hide HB.out.size
      clear hb
      have OY := hide ho
      have LY := hide (own_lt ho)
      clear ho hr
      go_wp2_with fail
      refine (eqRightS_own _ _ n0 z0 _ OX0.out OY.out HZ0.out q0).mono ?_
      rintro e w8 ⟨rfl, hb⟩
      have OU := hide (own_step OU.out hb)
      have OX0 := hide (own_step OX0.out hb)
      have OX1 := hide (own_step OX1.out hb)
      have OV := hide (own_step OV.out hb)
      have OY := hide (own_step OY.out hb)
      have S8 := hide hb.size
      have HB := hide (bl_step HB.out hb)
      have Z8 := hide HB.out.size
      clear hb
      clear OY LY
      go_wp2_with fail
      refine (toCopyingS_any _ _ _ z1 _ HZ1.out q1 (rd_at0 HR1.out HB.out)).mono ?_
      rintro e w9 ⟨rfl, ho, hr, hb⟩
      have OU := hide (own_step OU.out hb)
      have OX0 := hide (own_step OX0.out hb)
      have OX1 := hide (own_step OX1.out hb)
      have OV := hide (own_step OV.out hb)
      have S9 := hide hb.size
      have HB := hide (bl_step HB.out hb)
      have Z9 := hide HB.out.size
      clear hb
      have OY := hide ho
      have LY := hide (own_lt ho)
      clear ho hr
      go_wp2_with fail
      refine (eqCopyingS_own _ _ n1 z1 _ OX1.out OY.out HZ1.out q1).mono ?_
      rintro e w10 ⟨rfl, hb⟩
      have OU := hide (own_step OU.out hb)
      have OX0 := hide (own_step OX0.out hb)
      have OX1 := hide (own_step OX1.out hb)
      have OV := hide (own_step OV.out hb)
      have OY := hide (own_step OY.out hb)
      have S10 := hide hb.size
      have HB := hide (bl_step HB.out hb)
      have Z10 := hide HB.out.size
      clear hb
      clear OY LY
      go_wp2_with fail
      refine (markRightS_own _ n0 (z0) _ _ OX0.out HZ0.out q0 (by omega) (by omega)).mono ?_
      rintro e w11 ⟨rfl, hg, ho⟩
      have OU := hide (own_only OU.out hg (fun j i hj hi => by have a := LU.out j hj; have b := LX0.out i hi; omega))
      have OX1 := hide (own_only OX1.out hg (fun j i hj hi => by have a := LX1.out j hj; have b := LX0.out i hi; omega))
      have OV := hide (own_only OV.out hg (fun j i hj hi => by have a := LV.out j hj; have b := LX0.out i hi; have y3 := S3.out; have y4 := S4.out; omega))
      have S11 := hide hg.size
      have HB := hide (bl_own HB.out hg (fun j hj => by have a := LX0.out j hj; have y := Z1.out; omega))
      have Z11 := hide HB.out.size
      have OX0 := hide ho
      clear hg ho
      clear OX0 LX0
      go_wp2_with fail
      refine (markCopyingS_own _ n1 (z1) _ _ OX1.out HZ1.out q1 (by omega) (by omega)).mono ?_
      rintro e w12 ⟨rfl, hg, ho⟩
      have OU := hide (own_only OU.out hg (fun j i hj hi => by have a := LU.out j hj; have b := LX1.out i hi; have y2 := S2.out; omega))
      have OV := hide (own_only OV.out hg (fun j i hj hi => by have a := LV.out j hj; have b := LX1.out i hi; have y4 := S4.out; omega))
      have S12 := hide hg.size
      have HB := hide (bl_own HB.out hg (fun j hj => by have a := LX1.out j hj; have y := Z2.out; omega))
      have Z12 := hide HB.out.size
      have OX1 := hide ho
      clear hg ho
      clear OX1 LX1
      go_wp2_with fail
      refine (eqCopyingS_own _ _ N (cpV z0 z1 x2) _ OV.out OU.out HN.out.symm hNb).mono ?_
      rintro e w13 ⟨rfl, hb⟩
      have OU := hide (own_step OU.out hb)
      have OV := hide (own_step OV.out hb)
      have S13 := hide hb.size
      have HB := hide (bl_step HB.out hb)
      have Z13 := hide HB.out.size
      clear hb
      go_wp2_with fail
      refine (markCopyingS_own _ N (cpV z0 z1 x2) _ _ OV.out HN.out.symm hNb (by omega) (by omega)).mono ?_
      rintro e w14 ⟨rfl, hg, ho⟩
      have OU := hide (own_only OU.out hg (fun j i hj hi => by have a := LU.out j hj; have b := LV.out i hi; have y2 := S2.out; have y3 := S3.out; have y4 := S4.out; omega))
      have S14 := hide hg.size
      have HB := hide (bl_own HB.out hg (fun j hj => by have a := LV.out j hj; have y := Z4.out; omega))
      have Z14 := hide HB.out.size
      have OV := hide ho
      clear hg ho
      go_wp2_with fail
      refine (heldCopyingS_own _ N _ _ OV.out hNb (by omega) (by omega)).mono ?_
      rintro e w' ⟨rfl, rfl⟩
      have l0 := (HB.out.cell (p := ⟨w0.heap.size, 0, none⟩) gB).trans B0.out
      have l1 := (HB.out.cell (p := ⟨w0.heap.size, 1, none⟩) gB).trans B1.out
      have l2 := (HB.out.cell (p := ⟨w0.heap.size, 2, none⟩) gB).trans B2.out
      have l3 := (HB.out.cell (p := ⟨w0.heap.size, 3, none⟩) gB).trans B3.out
      have gW : w0.heap.size < w14.heap.size := Nat.lt_of_lt_of_le gB HB.out.size
      have HA0 := hide (rd_at0 HR0.out HB.out)
      have HA1 := hide (rd_at0 HR1.out HB.out)
      go_wp2_with fail
      refine wp_region_held_drew (S := (fun w' => w'.cell? ⟨w0.heap.size, 0, none⟩ = some (.int .i64 x2.s) ∧ w'.cell? ⟨w0.heap.size, 1, none⟩ = some (.int .i64 x2.r) ∧ w'.cell? ⟨w0.heap.size, 2, none⟩ = some (.int .i64 x2.d) ∧ w'.cell? ⟨w0.heap.size, 3, none⟩ = some (.int .i64 x2.p) ∧ Below w14.heap.size w14 w')) (by kernel_rfl) ⟨((show Below w14.heap.size w14 w14.drew from (Below.refl _ _).drew).cell (p := ⟨w0.heap.size, 0, none⟩) gW).trans l0, ((show Below w14.heap.size w14 w14.drew from (Below.refl _ _).drew).cell (p := ⟨w0.heap.size, 1, none⟩) gW).trans l1, ((show Below w14.heap.size w14 w14.drew from (Below.refl _ _).drew).cell (p := ⟨w0.heap.size, 2, none⟩) gW).trans l2, ((show Below w14.heap.size w14 w14.drew from (Below.refl _ _).drew).cell (p := ⟨w0.heap.size, 3, none⟩) gW).trans l3, (show Below w14.heap.size w14 w14.drew from (Below.refl _ _).drew)⟩ (fun hHeld => ?_)
      refine heldR_take 0 116 ?vv11 rfl (by kernel_rfl) (by kernel_rfl) (by kernel_rfl) rfl (fun _ _ _ h => h) (by rfl) ?hy11 (by assumption) ?rest11
      case hy11 => (intro w hSw; (try dsimp only at hSw); go_simp; try with_reducible rfl)
      try simp only [Act.put, List.setIfInBounds_toArray, List.set_cons_zero, List.set_cons_succ]
      refine heldR_take 2 118 ?vv12 rfl (by kernel_rfl) (by kernel_rfl) (by kernel_rfl) rfl (fun _ _ _ h => h) (by rfl) ?hy12 (by assumption) ?rest12
      case hy12 => (intro w hSw; (try dsimp only at hSw); go_simp; try with_reducible rfl)
      try simp only [Act.put, List.setIfInBounds_toArray, List.set_cons_zero, List.set_cons_succ]
      refine heldR_take 4 120 ?vv13 rfl (by kernel_rfl) (by kernel_rfl) (by kernel_rfl) rfl (fun _ _ _ h => h) (by rfl) ?hy13 (by assumption) ?rest13
      case hy13 => (intro w hSw; (try dsimp only at hSw); go_simp; try with_reducible rfl)
      try simp only [Act.put, List.setIfInBounds_toArray, List.set_cons_zero, List.set_cons_succ]
      refine wpAnyH_ready (rs := [1]) (by kernel_rfl) (by simp) ?_
      refine AllReadyH.cons rfl (fun K hK => ?_) AllReadyH.nil
      go_simp
      refine (toRightS_any _ _ _ z0 _ HZ0.out q0 (rd_step HA0.out (Below.refl _ w14).drew)).mono ?_
      rintro e v1 ⟨rfl, _, hr, hb⟩
      go_wp2_with fail
      have p1 : Below w14.heap.size w14 v1 := (Below.refl _ w14).drew.trans hb
      have T0 := hide hr
      clear hb hr
      refine hK.out _ _ ⟨(p1.cell (p := ⟨w0.heap.size, 0, none⟩) gW).trans l0, (p1.cell (p := ⟨w0.heap.size, 1, none⟩) gW).trans l1, (p1.cell (p := ⟨w0.heap.size, 2, none⟩) gW).trans l2, (p1.cell (p := ⟨w0.heap.size, 3, none⟩) gW).trans l3, p1⟩ (fun hHeld => ?_)
      clear hK K
      try simp only [Act.put, List.setIfInBounds_toArray, List.set_cons_zero, List.set_cons_succ]
      refine wpAnyH_ready (rs := [3]) (by kernel_rfl) (by simp) ?_
      refine AllReadyH.cons rfl (fun K hK => ?_) AllReadyH.nil
      go_simp
      refine (toCopyingS_any _ _ _ z1 _ HZ1.out q1 (rd_step HA1.out p1)).mono ?_
      rintro e v2 ⟨rfl, _, hr, hb⟩
      go_wp2_with fail
      have p2 : Below w14.heap.size w14 v2 := bl_step p1 hb
      have T0 := hide (rd_step T0.out hb)
      have T1 := hide hr
      clear hb hr
      refine hK.out _ _ ⟨(p2.cell (p := ⟨w0.heap.size, 0, none⟩) gW).trans l0, (p2.cell (p := ⟨w0.heap.size, 1, none⟩) gW).trans l1, (p2.cell (p := ⟨w0.heap.size, 2, none⟩) gW).trans l2, (p2.cell (p := ⟨w0.heap.size, 3, none⟩) gW).trans l3, p2⟩ (fun hHeld => ?_)
      clear hK K
      try simp only [Act.put, List.setIfInBounds_toArray, List.set_cons_zero, List.set_cons_succ]
      refine wpAnyH_ready (rs := [5]) (by kernel_rfl) (by simp) ?_
      refine AllReadyH.cons rfl (fun K hK => ?_) AllReadyH.nil
      go_simp
      refine (toCopying_any x2 _).mono ?_
      rintro e v3 ⟨rfl, hb⟩
      go_wp2_with fail
      have p3 : Below w14.heap.size w14 v3 := bl_step p2 hb
      have T0 := hide (rd_step T0.out hb)
      have T1 := hide (rd_step T1.out hb)
      clear hb
      refine hK.out _ _ ⟨(p3.cell (p := ⟨w0.heap.size, 0, none⟩) gW).trans l0, (p3.cell (p := ⟨w0.heap.size, 1, none⟩) gW).trans l1, (p3.cell (p := ⟨w0.heap.size, 2, none⟩) gW).trans l2, (p3.cell (p := ⟨w0.heap.size, 3, none⟩) gW).trans l3, p3⟩ (fun hHeld => ?_)
      clear hK K
      try simp only [Act.put, List.setIfInBounds_toArray, List.set_cons_zero, List.set_cons_succ]
      refine wpAnyH_ready (rs := [6]) (by kernel_rfl) (by simp) ?_
      refine AllReadyH.cons rfl (fun K hK => ?_) AllReadyH.nil
      go_simp
      refine (CopySheet_any _ _ _ z0 _ _ _ z1 x2 _ HZ0.out q0 T0.out HZ1.out q1 T1.out).mono ?_
      rintro e w15 ⟨v2, rfl, ho, hb⟩
      go_wp2_with fail
      have hb := bl_step p3 hb
      have ho := own_base ho p3.size
      refine hK.out _ _ ⟨(hb.cell (p := ⟨w0.heap.size, 0, none⟩) gW).trans l0, (hb.cell (p := ⟨w0.heap.size, 1, none⟩) gW).trans l1, (hb.cell (p := ⟨w0.heap.size, 2, none⟩) gW).trans l2, (hb.cell (p := ⟨w0.heap.size, 3, none⟩) gW).trans l3, hb⟩ (fun hHeld => ?_)
      clear hK K
      try simp only [Act.put, List.setIfInBounds_toArray, List.set_cons_zero, List.set_cons_succ]
      refine heldR_take 7 115 ?vv14 rfl (by kernel_rfl) (by kernel_rfl) (by kernel_rfl) rfl (fun _ _ _ h => h) (by rfl) ?hy14 (by assumption) ?rest14
      case hy14 => (intro w hSw; (try dsimp only at hSw); go_simp; try with_reducible rfl)
      try simp only [Act.put, List.setIfInBounds_toArray, List.set_cons_zero, List.set_cons_succ]
      refine heldR_take 8 123 ?vv15 rfl (by kernel_rfl) (by kernel_rfl) (by kernel_rfl) rfl (fun _ _ _ h => h) (by rfl) ?hy15 (by assumption) ?rest15
      case hy15 => (intro w hSw; (try dsimp only at hSw); go_simp; try with_reducible rfl)
      try simp only [Act.put, List.setIfInBounds_toArray, List.set_cons_zero, List.set_cons_succ]
      refine heldR_take 9 124 ?vv16 rfl (by kernel_rfl) (by kernel_rfl) (by kernel_rfl) rfl (fun _ _ _ h => h) (by rfl) ?hy16 (by assumption) ?rest16
      case hy16 => (intro w hSw; (try dsimp only at hSw); go_simp; try with_reducible rfl)
      try simp only [Act.put, List.setIfInBounds_toArray, List.set_cons_zero, List.set_cons_succ]
      refine heldR_take 10 125 ?vv17 rfl (by kernel_rfl) (by kernel_rfl) (by kernel_rfl) rfl (fun _ _ _ h => h) (by rfl) ?hy17 (by assumption) ?rest17
      case hy17 => (intro w hSw; (try dsimp only at hSw); go_simp; try with_reducible rfl)
      try simp only [Act.put, List.setIfInBounds_toArray, List.set_cons_zero, List.set_cons_succ]
      refine heldR_take 11 19 ?vv18 rfl (by kernel_rfl) (by kernel_rfl) (by kernel_rfl) rfl (fun _ _ _ h => h) (by rfl) ?hy18 (by assumption) ?rest18
      case hy18 => (intro w hSw; (try dsimp only at hSw); go_simp; try with_reducible rfl)
      try simp only [Act.put, List.setIfInBounds_toArray, List.set_cons_zero, List.set_cons_succ]
      refine heldR_take 12 20 ?vv19 rfl (by kernel_rfl) (by kernel_rfl) (by kernel_rfl) rfl (fun _ _ _ h => h) (by rfl) ?hy19 (by assumption) ?rest19
      case hy19 => (intro w hSw; (try dsimp only at hSw); go_simp; try with_reducible rfl)
      try simp only [Act.put, List.setIfInBounds_toArray, List.set_cons_zero, List.set_cons_succ]
      refine heldR_take 13 21 ?vv20 rfl (by kernel_rfl) (by kernel_rfl) (by kernel_rfl) rfl (fun _ _ _ h => h) (by rfl) ?hy20 (by assumption) ?rest20
      case hy20 => (intro w hSw; (try dsimp only at hSw); go_simp; try with_reducible rfl)
      try simp only [Act.put, List.setIfInBounds_toArray, List.set_cons_zero, List.set_cons_succ]
      refine wpAnyH_done (by kernel_rfl) ?_ _
      clear hHeld T0 T1 p1 p2 p3
      have OU := hide (own_step OU.out hb)
      have OV := hide (own_step OV.out hb)
      have S15 := hide hb.size
      have HB := hide (bl_step HB.out hb)
      have Z15 := hide HB.out.size
      clear hb gW HA0 HA1
      clear l0 l1 l2 l3
      rw [← HN.out] at ho
      have OV2 := hide ho
      have LV2 := hide (own_lt ho)
      clear ho
      go_wp2_with fail
      refine (eqCopyingS_own _ _ N (cpV z0 z1 x2) _ OV2.out OU.out HN.out.symm hNb).mono ?_
      rintro e w16 ⟨rfl, hb⟩
      have OU := hide (own_step OU.out hb)
      have OV := hide (own_step OV.out hb)
      have OV2 := hide (own_step OV2.out hb)
      have S16 := hide hb.size
      have HB := hide (bl_step HB.out hb)
      have Z16 := hide HB.out.size
      clear hb
      go_wp2_with fail
      refine (heldCopyingS_own _ N _ _ OV.out hNb (by omega) (by omega)).mono ?_
      rintro e w' ⟨rfl, rfl⟩
      go_wp2
      go_ret
      exact ⟨rfl, HBV.out.trans (HB.out.mono HBV.out.size)⟩

end Go.Proofs.Ytpghdjehagamlaa
