/- The law FnExactProvesFewest walked. -/
import Derived.Test.YtpdfbijfklmonaaM17
namespace Go.Proofs.Ytpdfbijfklmonaa
open Go.RowKit
set_option linter.unusedVariables false
set_option maxRecDepth 100000 in
theorem law_FnExactProvesFewest (i0 : Int) (i1 : Int) (a2 : Option Addr) (n2 c2 : Nat) (z2 : List Cv) (a3 : Option Addr) (n3 c3 : Nat) (z3 : List Int) (a4 : Option Addr) (n4 c4 : Nat) (z4 : List Ar2) (w : World) (hi0 : okI i0) (hi1 : okI i1) (hz2 : z2.length = n2) (hn2 : n2 ≤ 9223372036854775807) (hr2 : Rd encCv 6 w.heap.size w a2 z2) (hz3 : z3.length = n3) (hn3 : n3 ≤ 9223372036854775807) (hr3 : Rd encI 1 w.heap.size w a3 z3) (hz4 : z4.length = n4) (hn4 : n4 ≤ 9223372036854775807) (hr4 : Rd encAr2 2 w.heap.size w a4 z4) :
    Calls Try.prog 6 #[.int .i64 i0, .int .i64 i1, .slice a2 n2 c2, .slice a3 n3 c3, .slice a4 n4 c4] w fun e w' => e = .returned (.bool true) ∧ Below w.heap.size w w' := by
  by_cases u3 : (1048576 : Int) < n3
  · have U3 := hide u3
    have HZ2 := hide hz2
    have HR2 := hide hr2
    clear hz2 hr2
    have HZ3 := hide hz3
    have HR3 := hide hr3
    clear hz3 hr3
    have HZ4 := hide hz4
    have HR4 := hide hr4
    clear hz4 hr4
    go_enter Try.func6, Try.ntmps6
    go_wp2
    go_ret
    exact ⟨rfl, Below.refl _ _⟩
  have q3 : n3 ≤ 1048576 := by omega
  by_cases b0 : (1048576 : Int) < n2
  · have E0 := hide (szV_big b0)
    have HZ2 := hide hz2
    have HR2 := hide hr2
    clear hz2 hr2
    have HZ3 := hide hz3
    have HR3 := hide hr3
    clear hz3 hr3
    have HZ4 := hide hz4
    have HR4 := hide hr4
    clear hz4 hr4
    go_enter Try.func6, Try.ntmps6
    go_wp2_with fail
    refine (szCoverS_any _ _ _ _ _ hn2 (by omega) (by omega)).mono ?_
    rintro e w' ⟨rfl, rfl⟩
    rw [E0.out]
    go_wp2
    go_ret
    first | exact ⟨rfl, Below.refl _ _⟩ | exact ⟨rfl, (Below.refl _ _).alloc (Nat.le_refl _) _⟩
  · have E0 := hide (szV_ok b0)
    by_cases b1 : (1048576 : Int) - n2 < n4
    · have E1 := hide (szV_big b1)
      have E0 := hide (szV_ok b0)
      have HZ2 := hide hz2
      have HR2 := hide hr2
      clear hz2 hr2
      have HZ3 := hide hz3
      have HR3 := hide hr3
      clear hz3 hr3
      have HZ4 := hide hz4
      have HR4 := hide hr4
      clear hz4 hr4
      go_enter Try.func6, Try.ntmps6
      go_wp2_with fail
      refine (szCoverS_any _ _ _ _ _ hn2 (by omega) (by omega)).mono ?_
      rintro e w' ⟨rfl, rfl⟩
      rw [E0.out]
      go_wp2_with fail
      refine (szIntA2S_any _ _ _ _ _ hn4 (by omega) (by omega)).mono ?_
      rintro e w' ⟨rfl, rfl⟩
      rw [E1.out]
      go_wp2
      go_ret
      first | exact ⟨rfl, Below.refl _ _⟩ | exact ⟨rfl, (Below.refl _ _).alloc (Nat.le_refl _) _⟩
    · have E1 := hide (szV_ok b1)
      have q2 : n2 ≤ 1048576 := by omega
      have p0 : ¬ (1048576 : Int) - n2 < 0 := by omega
      have q4 : n4 ≤ 1048576 := by omega
      have p1 : ¬ (1048576 : Int) - n2 - n4 < 0 := by omega
      have HZ2 := hide hz2
      have HR2 := hide hr2
      clear hz2 hr2
      have HZ3 := hide hz3
      have HR3 := hide hr3
      clear hz3 hr3
      have HZ4 := hide hz4
      have HR4 := hide hr4
      clear hz4 hr4
      have HB := hide (Below.refl w.heap.size w)
      go_enter Try.func6, Try.ntmps6
      go_wp2_with fail
      refine (szCoverS_any _ _ _ _ _ hn2 (by omega) (by omega)).mono ?_
      rintro e w' ⟨rfl, rfl⟩
      rw [E0.out]
      go_wp2_with fail
      refine (szIntA2S_any _ _ _ _ _ hn4 (by omega) (by omega)).mono ?_
      rintro e w' ⟨rfl, rfl⟩
      rw [E1.out]
      go_wp2_with fail
      refine (toCoverS_any _ _ _ z2 _ HZ2.out q2 HR2.out).mono ?_
      rintro e w1 ⟨rfl, ho, hr, hb⟩
      have HR2 := hide (rd_step HR2.out hb)
      have HR3 := hide (rd_step HR3.out hb)
      have HR4 := hide (rd_step HR4.out hb)
      have HB := hide (bl_step HB.out hb)
      have HS2 := hide hr
      clear hb ho hr
      go_wp2_with fail
      refine (toIntS_any _ _ _ z3 _ HZ3.out q3 HR3.out).mono ?_
      rintro e w2 ⟨rfl, ho, hr, hb⟩
      have HR2 := hide (rd_step HR2.out hb)
      have HR3 := hide (rd_step HR3.out hb)
      have HR4 := hide (rd_step HR4.out hb)
      have HS2 := hide (rd_step HS2.out hb)
      have HB := hide (bl_step HB.out hb)
      have HS3 := hide hr
      clear hb ho hr
      go_wp2_with fail
      refine (toIntA2S_any _ _ _ z4 _ HZ4.out q4 HR4.out).mono ?_
      rintro e w3 ⟨rfl, ho, hr, hb⟩
      have HR2 := hide (rd_step HR2.out hb)
      have HR3 := hide (rd_step HR3.out hb)
      have HR4 := hide (rd_step HR4.out hb)
      have HS2 := hide (rd_step HS2.out hb)
      have HS3 := hide (rd_step HS3.out hb)
      have HB := hide (bl_step HB.out hb)
      have HS4 := hide hr
      clear hb ho hr
      go_wp2_with fail
      refine (sProvesFewest_any i0 i1 _ _ _ z2 _ _ _ z3 _ _ _ z4 _ HZ2.out q2 HS2.out HZ3.out q3 HS3.out HZ4.out q4 HS4.out).mono ?_
      rintro e w4 ⟨rfl, hb⟩
      have HR2 := hide (rd_step HR2.out hb)
      have HR3 := hide (rd_step HR3.out hb)
      have HR4 := hide (rd_step HR4.out hb)
      have HS2 := hide (rd_step HS2.out hb)
      have HS3 := hide (rd_step HS3.out hb)
      have HS4 := hide (rd_step HS4.out hb)
      have HB := hide (bl_step HB.out hb)
      clear hb
      clear HS2
      clear HS3
      clear HS4
      go_wp2_with fail
      refine (toCoverS_any _ _ _ z2 _ HZ2.out q2 HR2.out).mono ?_
      rintro e w5 ⟨rfl, ho, hr, hb⟩
      have HR2 := hide (rd_step HR2.out hb)
      have HR3 := hide (rd_step HR3.out hb)
      have HR4 := hide (rd_step HR4.out hb)
      have HB := hide (bl_step HB.out hb)
      have HX2 := hide hr
      clear hb ho hr
      go_wp2_with fail
      refine (toIntS_any _ _ _ z3 _ HZ3.out q3 HR3.out).mono ?_
      rintro e w6 ⟨rfl, ho, hr, hb⟩
      have HR2 := hide (rd_step HR2.out hb)
      have HR3 := hide (rd_step HR3.out hb)
      have HR4 := hide (rd_step HR4.out hb)
      have HX2 := hide (rd_step HX2.out hb)
      have HB := hide (bl_step HB.out hb)
      have HX3 := hide hr
      clear hb ho hr
      go_wp2_with fail
      refine (toIntA2S_any _ _ _ z4 _ HZ4.out q4 HR4.out).mono ?_
      rintro e w7 ⟨rfl, ho, hr, hb⟩
      have HR2 := hide (rd_step HR2.out hb)
      have HR3 := hide (rd_step HR3.out hb)
      have HR4 := hide (rd_step HR4.out hb)
      have HX2 := hide (rd_step HX2.out hb)
      have HX3 := hide (rd_step HX3.out hb)
      have HB := hide (bl_step HB.out hb)
      have HX4 := hide hr
      clear hb ho hr
      go_wp2_with fail
      refine (ProvesFewest_any i0 i1 _ _ _ z2 _ _ _ z3 _ _ _ z4 _ HZ2.out q2 HX2.out HZ3.out q3 HX3.out HZ4.out q4 HX4.out).mono ?_
      rintro e w8 ⟨rfl, hb⟩
      have HR2 := hide (rd_step HR2.out hb)
      have HR3 := hide (rd_step HR3.out hb)
      have HR4 := hide (rd_step HR4.out hb)
      have HX2 := hide (rd_step HX2.out hb)
      have HX3 := hide (rd_step HX3.out hb)
      have HX4 := hide (rd_step HX4.out hb)
      have HB := hide (bl_step HB.out hb)
      clear hb
      go_wp2_with fail
      refine (toCoverS_any _ _ _ z2 _ HZ2.out q2 HR2.out).mono ?_
      rintro e w9 ⟨rfl, ho, hr, hb⟩
      have HR2 := hide (rd_step HR2.out hb)
      have HR3 := hide (rd_step HR3.out hb)
      have HR4 := hide (rd_step HR4.out hb)
      have HX2 := hide (rd_step HX2.out hb)
      have HX3 := hide (rd_step HX3.out hb)
      have HX4 := hide (rd_step HX4.out hb)
      have HB := hide (bl_step HB.out hb)
      have HY2 := hide hr
      clear hb ho hr
      go_wp2_with fail
      refine (eqCoverS_same _ _ _ _ _ z2 _ HZ2.out q2 HX2.out HY2.out).mono ?_
      rintro e w10 ⟨rfl, hb⟩
      have HR2 := hide (rd_step HR2.out hb)
      have HR3 := hide (rd_step HR3.out hb)
      have HR4 := hide (rd_step HR4.out hb)
      have HX2 := hide (rd_step HX2.out hb)
      have HX3 := hide (rd_step HX3.out hb)
      have HX4 := hide (rd_step HX4.out hb)
      have HY2 := hide (rd_step HY2.out hb)
      have HB := hide (bl_step HB.out hb)
      clear hb
      go_wp2_with fail
      refine (toIntS_any _ _ _ z3 _ HZ3.out q3 HR3.out).mono ?_
      rintro e w11 ⟨rfl, ho, hr, hb⟩
      have HR2 := hide (rd_step HR2.out hb)
      have HR3 := hide (rd_step HR3.out hb)
      have HR4 := hide (rd_step HR4.out hb)
      have HX2 := hide (rd_step HX2.out hb)
      have HX3 := hide (rd_step HX3.out hb)
      have HX4 := hide (rd_step HX4.out hb)
      have HY2 := hide (rd_step HY2.out hb)
      have HB := hide (bl_step HB.out hb)
      have HY3 := hide hr
      clear hb ho hr
      go_wp2_with fail
      refine (eqIntS_same _ _ _ _ _ z3 _ HZ3.out q3 HX3.out HY3.out).mono ?_
      rintro e w12 ⟨rfl, hb⟩
      have HR2 := hide (rd_step HR2.out hb)
      have HR3 := hide (rd_step HR3.out hb)
      have HR4 := hide (rd_step HR4.out hb)
      have HX2 := hide (rd_step HX2.out hb)
      have HX3 := hide (rd_step HX3.out hb)
      have HX4 := hide (rd_step HX4.out hb)
      have HY2 := hide (rd_step HY2.out hb)
      have HY3 := hide (rd_step HY3.out hb)
      have HB := hide (bl_step HB.out hb)
      clear hb
      go_wp2_with fail
      refine (toIntA2S_any _ _ _ z4 _ HZ4.out q4 HR4.out).mono ?_
      rintro e w13 ⟨rfl, ho, hr, hb⟩
      have HR2 := hide (rd_step HR2.out hb)
      have HR3 := hide (rd_step HR3.out hb)
      have HR4 := hide (rd_step HR4.out hb)
      have HX2 := hide (rd_step HX2.out hb)
      have HX3 := hide (rd_step HX3.out hb)
      have HX4 := hide (rd_step HX4.out hb)
      have HY2 := hide (rd_step HY2.out hb)
      have HY3 := hide (rd_step HY3.out hb)
      have HB := hide (bl_step HB.out hb)
      have HY4 := hide hr
      clear hb ho hr
      go_wp2_with fail
      refine (eqIntA2S_same _ _ _ _ _ z4 _ HZ4.out q4 HX4.out HY4.out).mono ?_
      rintro e w14 ⟨rfl, hb⟩
      have HR2 := hide (rd_step HR2.out hb)
      have HR3 := hide (rd_step HR3.out hb)
      have HR4 := hide (rd_step HR4.out hb)
      have HX2 := hide (rd_step HX2.out hb)
      have HX3 := hide (rd_step HX3.out hb)
      have HX4 := hide (rd_step HX4.out hb)
      have HY2 := hide (rd_step HY2.out hb)
      have HY3 := hide (rd_step HY3.out hb)
      have HY4 := hide (rd_step HY4.out hb)
      have HB := hide (bl_step HB.out hb)
      clear hb
      go_wp2
      go_ret
      exact ⟨rfl, HB.out⟩

end Go.Proofs.Ytpdfbijfklmonaa
