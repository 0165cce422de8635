/- The law FnExactAreLonely walked. -/
import Derived.Test.YtpdfbijfklmonaaM16
namespace Go.Proofs.Ytpdfbijfklmonaa
open Go.RowKit
set_option linter.unusedVariables false
set_option maxRecDepth 100000 in
theorem law_FnExactAreLonely (i0 : Int) (i1 : Int) (a2 : Option Addr) (n2 c2 : Nat) (z2 : List Cv) (a3 : Option Addr) (n3 c3 : Nat) (z3 : List Ar2) (w : World) (hi0 : okI i0) (hi1 : okI i1) (hz2 : z2.length = n2) (hn2 : n2 ≤ 9223372036854775807) (hr2 : Rd encCv 6 w.heap.size w a2 z2) (hz3 : z3.length = n3) (hn3 : n3 ≤ 9223372036854775807) (hr3 : Rd encAr2 2 w.heap.size w a3 z3) :
    Calls Try.prog 5 #[.int .i64 i0, .int .i64 i1, .slice a2 n2 c2, .slice a3 n3 c3] w fun e w' => e = .returned (.bool true) ∧ Below w.heap.size w w' := by
  by_cases b0 : (1048576 : Int) < n2
  · have E0 := hide (szV_big b0)
    have HZ2 := hide hz2
    have HR2 := hide hr2
    clear hz2 hr2
    have HZ3 := hide hz3
    have HR3 := hide hr3
    clear hz3 hr3
    go_enter Try.func5, Try.ntmps5
    go_wp2_with fail
    refine (szCoverS_any _ _ _ _ _ hn2 (by omega) (by omega)).mono ?_
    rintro e w' ⟨rfl, rfl⟩
    rw [E0.out]
    go_wp2
    go_ret
    first | exact ⟨rfl, Below.refl _ _⟩ | exact ⟨rfl, (Below.refl _ _).alloc (Nat.le_refl _) _⟩
  · have E0 := hide (szV_ok b0)
    by_cases b1 : (1048576 : Int) - n2 < n3
    · have E1 := hide (szV_big b1)
      have E0 := hide (szV_ok b0)
      have HZ2 := hide hz2
      have HR2 := hide hr2
      clear hz2 hr2
      have HZ3 := hide hz3
      have HR3 := hide hr3
      clear hz3 hr3
      go_enter Try.func5, Try.ntmps5
      go_wp2_with fail
      refine (szCoverS_any _ _ _ _ _ hn2 (by omega) (by omega)).mono ?_
      rintro e w' ⟨rfl, rfl⟩
      rw [E0.out]
      go_wp2_with fail
      refine (szIntA2S_any _ _ _ _ _ hn3 (by omega) (by omega)).mono ?_
      rintro e w' ⟨rfl, rfl⟩
      rw [E1.out]
      go_wp2
      go_ret
      first | exact ⟨rfl, Below.refl _ _⟩ | exact ⟨rfl, (Below.refl _ _).alloc (Nat.le_refl _) _⟩
    · have E1 := hide (szV_ok b1)
      have q2 : n2 ≤ 1048576 := by omega
      have p0 : ¬ (1048576 : Int) - n2 < 0 := by omega
      have q3 : n3 ≤ 1048576 := by omega
      have p1 : ¬ (1048576 : Int) - n2 - n3 < 0 := by omega
      have HZ2 := hide hz2
      have HR2 := hide hr2
      clear hz2 hr2
      have HZ3 := hide hz3
      have HR3 := hide hr3
      clear hz3 hr3
      have HB := hide (Below.refl w.heap.size w)
      go_enter Try.func5, Try.ntmps5
      go_wp2_with fail
      refine (szCoverS_any _ _ _ _ _ hn2 (by omega) (by omega)).mono ?_
      rintro e w' ⟨rfl, rfl⟩
      rw [E0.out]
      go_wp2_with fail
      refine (szIntA2S_any _ _ _ _ _ hn3 (by omega) (by omega)).mono ?_
      rintro e w' ⟨rfl, rfl⟩
      rw [E1.out]
      go_wp2_with fail
      refine (toCoverS_any _ _ _ z2 _ HZ2.out q2 HR2.out).mono ?_
      rintro e w1 ⟨rfl, ho, hr, hb⟩
      have HR2 := hide (rd_step HR2.out hb)
      have HR3 := hide (rd_step HR3.out hb)
      have HB := hide (bl_step HB.out hb)
      have HS2 := hide hr
      clear hb ho hr
      go_wp2_with fail
      refine (toIntA2S_any _ _ _ z3 _ HZ3.out q3 HR3.out).mono ?_
      rintro e w2 ⟨rfl, ho, hr, hb⟩
      have HR2 := hide (rd_step HR2.out hb)
      have HR3 := hide (rd_step HR3.out hb)
      have HS2 := hide (rd_step HS2.out hb)
      have HB := hide (bl_step HB.out hb)
      have HS3 := hide hr
      clear hb ho hr
      go_wp2_with fail
      refine (sAreLonely_any i0 i1 _ _ _ z2 _ _ _ z3 _ HZ2.out q2 HS2.out HZ3.out q3 HS3.out).mono ?_
      rintro e w3 ⟨rfl, hb⟩
      have HR2 := hide (rd_step HR2.out hb)
      have HR3 := hide (rd_step HR3.out hb)
      have HS2 := hide (rd_step HS2.out hb)
      have HS3 := hide (rd_step HS3.out hb)
      have HB := hide (bl_step HB.out hb)
      clear hb
      clear HS2
      clear HS3
      go_wp2_with fail
      refine (toCoverS_any _ _ _ z2 _ HZ2.out q2 HR2.out).mono ?_
      rintro e w4 ⟨rfl, ho, hr, hb⟩
      have HR2 := hide (rd_step HR2.out hb)
      have HR3 := hide (rd_step HR3.out hb)
      have HB := hide (bl_step HB.out hb)
      have HX2 := hide hr
      clear hb ho hr
      go_wp2_with fail
      refine (toIntA2S_any _ _ _ z3 _ HZ3.out q3 HR3.out).mono ?_
      rintro e w5 ⟨rfl, ho, hr, hb⟩
      have HR2 := hide (rd_step HR2.out hb)
      have HR3 := hide (rd_step HR3.out hb)
      have HX2 := hide (rd_step HX2.out hb)
      have HB := hide (bl_step HB.out hb)
      have HX3 := hide hr
      clear hb ho hr
      go_wp2_with fail
      refine (AreLonely_any i0 i1 _ _ _ z2 _ _ _ z3 _ HZ2.out q2 HX2.out HZ3.out q3 HX3.out).mono ?_
      rintro e w6 ⟨rfl, hb⟩
      have HR2 := hide (rd_step HR2.out hb)
      have HR3 := hide (rd_step HR3.out hb)
      have HX2 := hide (rd_step HX2.out hb)
      have HX3 := hide (rd_step HX3.out hb)
      have HB := hide (bl_step HB.out hb)
      clear hb
      go_wp2_with fail
      refine (toCoverS_any _ _ _ z2 _ HZ2.out q2 HR2.out).mono ?_
      rintro e w7 ⟨rfl, ho, hr, hb⟩
      have HR2 := hide (rd_step HR2.out hb)
      have HR3 := hide (rd_step HR3.out hb)
      have HX2 := hide (rd_step HX2.out hb)
      have HX3 := hide (rd_step HX3.out hb)
      have HB := hide (bl_step HB.out hb)
      have HY2 := hide hr
      clear hb ho hr
      go_wp2_with fail
      refine (eqCoverS_same _ _ _ _ _ z2 _ HZ2.out q2 HX2.out HY2.out).mono ?_
      rintro e w8 ⟨rfl, hb⟩
      have HR2 := hide (rd_step HR2.out hb)
      have HR3 := hide (rd_step HR3.out hb)
      have HX2 := hide (rd_step HX2.out hb)
      have HX3 := hide (rd_step HX3.out hb)
      have HY2 := hide (rd_step HY2.out hb)
      have HB := hide (bl_step HB.out hb)
      clear hb
      go_wp2_with fail
      refine (toIntA2S_any _ _ _ z3 _ HZ3.out q3 HR3.out).mono ?_
      rintro e w9 ⟨rfl, ho, hr, hb⟩
      have HR2 := hide (rd_step HR2.out hb)
      have HR3 := hide (rd_step HR3.out hb)
      have HX2 := hide (rd_step HX2.out hb)
      have HX3 := hide (rd_step HX3.out hb)
      have HY2 := hide (rd_step HY2.out hb)
      have HB := hide (bl_step HB.out hb)
      have HY3 := hide hr
      clear hb ho hr
      go_wp2_with fail
      refine (eqIntA2S_same _ _ _ _ _ z3 _ HZ3.out q3 HX3.out HY3.out).mono ?_
      rintro e w10 ⟨rfl, hb⟩
      have HR2 := hide (rd_step HR2.out hb)
      have HR3 := hide (rd_step HR3.out hb)
      have HX2 := hide (rd_step HX2.out hb)
      have HX3 := hide (rd_step HX3.out hb)
      have HY2 := hide (rd_step HY2.out hb)
      have HY3 := hide (rd_step HY3.out hb)
      have HB := hide (bl_step HB.out hb)
      clear hb
      go_wp2
      go_ret
      exact ⟨rfl, HB.out⟩

end Go.Proofs.Ytpdfbijfklmonaa
