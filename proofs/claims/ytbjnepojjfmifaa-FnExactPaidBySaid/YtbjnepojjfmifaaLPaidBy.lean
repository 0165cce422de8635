/- The law FnExactPaidBy walked. -/
import Derived.Test.YtbjnepojjfmifaaR9
namespace Go.Proofs.Ytbjnepojjfmifaa
open Go.RowKit
set_option linter.unusedVariables false
set_option maxRecDepth 100000 in
theorem law_FnExactPaidBy (a0 : Option Addr) (n0 c0 : Nat) (z0 : List Rt) (a1 : Option Addr) (n1 c1 : Nat) (z1 : List Cp) (i2 : Int) (w : World) (hz0 : z0.length = n0) (hn0 : n0 ≤ 9223372036854775807) (hr0 : Rd encRt 4 w.heap.size w a0 z0) (hz1 : z1.length = n1) (hn1 : n1 ≤ 9223372036854775807) (hr1 : Rd encCp 4 w.heap.size w a1 z1) (hi2 : okI i2) :
    Calls Try.prog 8 #[.slice a0 n0 c0, .slice a1 n1 c1, .int .i64 i2] w fun e w' => e = .returned (.bool true) ∧ Below w.heap.size w w' := by
  by_cases b0 : (1048576 : Int) < n0
  · have E0 := hide (szV_big b0)
    have HZ0 := hide hz0
    have HR0 := hide hr0
    clear hz0 hr0
    have HZ1 := hide hz1
    have HR1 := hide hr1
    clear hz1 hr1
    go_enter Try.func8, Try.ntmps8
    go_wp2_with fail
    refine (szRightS_any _ _ _ _ _ hn0 (by omega) (by omega)).mono ?_
    rintro e w' ⟨rfl, rfl⟩
    rw [E0.out]
    go_wp2
    go_ret
    exact ⟨rfl, Below.refl _ _⟩
  · have E0 := hide (szV_ok b0)
    by_cases b1 : (1048576 : Int) - n0 < n1
    · have E1 := hide (szV_big b1)
      have E0 := hide (szV_ok b0)
      have HZ0 := hide hz0
      have HR0 := hide hr0
      clear hz0 hr0
      have HZ1 := hide hz1
      have HR1 := hide hr1
      clear hz1 hr1
      go_enter Try.func8, Try.ntmps8
      go_wp2_with fail
      refine (szRightS_any _ _ _ _ _ hn0 (by omega) (by omega)).mono ?_
      rintro e w' ⟨rfl, rfl⟩
      rw [E0.out]
      go_wp2_with fail
      refine (szCopyingS_any _ _ _ _ _ hn1 (by omega) (by omega)).mono ?_
      rintro e w' ⟨rfl, rfl⟩
      rw [E1.out]
      go_wp2
      go_ret
      exact ⟨rfl, Below.refl _ _⟩
    · have E1 := hide (szV_ok b1)
      have q0 : n0 ≤ 1048576 := by omega
      have p0 : ¬ (1048576 : Int) - n0 < 0 := by omega
      have q1 : n1 ≤ 1048576 := by omega
      have p1 : ¬ (1048576 : Int) - n0 - n1 < 0 := by omega
      have HZ0 := hide hz0
      have HR0 := hide hr0
      clear hz0 hr0
      have HZ1 := hide hz1
      have HR1 := hide hr1
      clear hz1 hr1
      have HB := hide (Below.refl w.heap.size w)
      go_enter Try.func8, Try.ntmps8
      go_wp2_with fail
      refine (szRightS_any _ _ _ _ _ hn0 (by omega) (by omega)).mono ?_
      rintro e w' ⟨rfl, rfl⟩
      rw [E0.out]
      go_wp2_with fail
      refine (szCopyingS_any _ _ _ _ _ hn1 (by omega) (by omega)).mono ?_
      rintro e w' ⟨rfl, rfl⟩
      rw [E1.out]
      go_wp2_with fail
      refine (toRightS_any _ _ _ z0 _ HZ0.out q0 HR0.out).mono ?_
      rintro e w1 ⟨rfl, ho, hr, hb⟩
      have HR0 := hide (rd_step HR0.out hb)
      have HR1 := hide (rd_step HR1.out hb)
      have HB := hide (bl_step HB.out hb)
      have HS0 := hide hr
      clear hb ho hr
      go_wp2_with fail
      refine (toCopyingS_any _ _ _ z1 _ HZ1.out q1 HR1.out).mono ?_
      rintro e w2 ⟨rfl, ho, hr, hb⟩
      have HR0 := hide (rd_step HR0.out hb)
      have HR1 := hide (rd_step HR1.out hb)
      have HS0 := hide (rd_step HS0.out hb)
      have HB := hide (bl_step HB.out hb)
      have HS1 := hide hr
      clear hb ho hr
      go_wp2_with fail
      refine (sPaidBy_any _ _ _ z0 _ _ _ z1 i2 _ HZ0.out q0 HS0.out HZ1.out q1 HS1.out).mono ?_
      rintro e w3 ⟨rfl, hb⟩
      have HR0 := hide (rd_step HR0.out hb)
      have HR1 := hide (rd_step HR1.out hb)
      have HS0 := hide (rd_step HS0.out hb)
      have HS1 := hide (rd_step HS1.out hb)
      have HB := hide (bl_step HB.out hb)
      clear hb
      clear HS0
      clear HS1
      go_wp2_with fail
      refine (toRightS_any _ _ _ z0 _ HZ0.out q0 HR0.out).mono ?_
      rintro e w4 ⟨rfl, ho, hr, hb⟩
      have HR0 := hide (rd_step HR0.out hb)
      have HR1 := hide (rd_step HR1.out hb)
      have HB := hide (bl_step HB.out hb)
      have HX0 := hide hr
      clear hb ho hr
      go_wp2_with fail
      refine (toCopyingS_any _ _ _ z1 _ HZ1.out q1 HR1.out).mono ?_
      rintro e w5 ⟨rfl, ho, hr, hb⟩
      have HR0 := hide (rd_step HR0.out hb)
      have HR1 := hide (rd_step HR1.out hb)
      have HX0 := hide (rd_step HX0.out hb)
      have HB := hide (bl_step HB.out hb)
      have HX1 := hide hr
      clear hb ho hr
      go_wp2_with fail
      refine (PaidBy_any _ _ _ z0 _ _ _ z1 i2 _ HZ0.out q0 HX0.out HZ1.out q1 HX1.out).mono ?_
      rintro e w6 ⟨rfl, hb⟩
      have HR0 := hide (rd_step HR0.out hb)
      have HR1 := hide (rd_step HR1.out hb)
      have HX0 := hide (rd_step HX0.out hb)
      have HX1 := hide (rd_step HX1.out hb)
      have HB := hide (bl_step HB.out hb)
      clear hb
      go_wp2_with fail
      refine (toRightS_any _ _ _ z0 _ HZ0.out q0 HR0.out).mono ?_
      rintro e w7 ⟨rfl, ho, hr, hb⟩
      have HR0 := hide (rd_step HR0.out hb)
      have HR1 := hide (rd_step HR1.out hb)
      have HX0 := hide (rd_step HX0.out hb)
      have HX1 := hide (rd_step HX1.out hb)
      have HB := hide (bl_step HB.out hb)
      have HY0 := hide hr
      clear hb ho hr
      go_wp2_with fail
      refine (eqRightS_same _ _ _ _ _ z0 _ HZ0.out q0 HX0.out HY0.out).mono ?_
      rintro e w8 ⟨rfl, hb⟩
      have HR0 := hide (rd_step HR0.out hb)
      have HR1 := hide (rd_step HR1.out hb)
      have HX0 := hide (rd_step HX0.out hb)
      have HX1 := hide (rd_step HX1.out hb)
      have HY0 := hide (rd_step HY0.out hb)
      have HB := hide (bl_step HB.out hb)
      clear hb
      go_wp2_with fail
      refine (toCopyingS_any _ _ _ z1 _ HZ1.out q1 HR1.out).mono ?_
      rintro e w9 ⟨rfl, ho, hr, hb⟩
      have HR0 := hide (rd_step HR0.out hb)
      have HR1 := hide (rd_step HR1.out hb)
      have HX0 := hide (rd_step HX0.out hb)
      have HX1 := hide (rd_step HX1.out hb)
      have HY0 := hide (rd_step HY0.out hb)
      have HB := hide (bl_step HB.out hb)
      have HY1 := hide hr
      clear hb ho hr
      go_wp2_with fail
      refine (eqCopyingS_same _ _ _ _ _ z1 _ HZ1.out q1 HX1.out HY1.out).mono ?_
      rintro e w10 ⟨rfl, hb⟩
      have HR0 := hide (rd_step HR0.out hb)
      have HR1 := hide (rd_step HR1.out hb)
      have HX0 := hide (rd_step HX0.out hb)
      have HX1 := hide (rd_step HX1.out hb)
      have HY0 := hide (rd_step HY0.out hb)
      have HY1 := hide (rd_step HY1.out hb)
      have HB := hide (bl_step HB.out hb)
      clear hb
      go_wp2
      go_ret
      exact ⟨rfl, HB.out⟩

end Go.Proofs.Ytbjnepojjfmifaa
