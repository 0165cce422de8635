/- The law FnExactOnlyShownBy walked. -/
import Derived.Test.YtpdfbijfklmonaaM11
import Derived.Test.YtpdfbijfklmonaaM12
namespace Go.Proofs.Ytpdfbijfklmonaa
open Go.RowKit
set_option linter.unusedVariables false
set_option maxRecDepth 100000 in
theorem law_FnExactOnlyShownBy (i0 : Int) (i1 : Int) (a2 : Option Addr) (n2 c2 : Nat) (z2 : List Cv) (i3 : Int) (w : World) (hi0 : okI i0) (hi1 : okI i1) (hz2 : z2.length = n2) (hn2 : n2 ≤ 9223372036854775807) (hr2 : Rd encCv 6 w.heap.size w a2 z2) (hi3 : okI i3) :
    Calls Try.prog 3 #[.int .i64 i0, .int .i64 i1, .slice a2 n2 c2, .int .i64 i3] w fun e w' => e = .returned (.bool true) ∧ Below w.heap.size w w' := by
  by_cases b0 : (1048576 : Int) < n2
  · have E0 := hide (szV_big b0)
    have HZ2 := hide hz2
    have HR2 := hide hr2
    clear hz2 hr2
    go_enter Try.func3, Try.ntmps3
    go_wp2_with fail
    refine (szCoverS_any _ _ _ _ _ hn2 (by omega) (by omega)).mono ?_
    rintro e w' ⟨rfl, rfl⟩
    rw [E0.out]
    go_wp2
    go_ret
    first | exact ⟨rfl, Below.refl _ _⟩ | exact ⟨rfl, (Below.refl _ _).alloc (Nat.le_refl _) _⟩
  · have E0 := hide (szV_ok b0)
    have q2 : n2 ≤ 1048576 := by omega
    have p0 : ¬ (1048576 : Int) - n2 < 0 := by omega
    have HZ2 := hide hz2
    have HR2 := hide hr2
    clear hz2 hr2
    have HB := hide (Below.refl w.heap.size w)
    go_enter Try.func3, Try.ntmps3
    go_wp2_with fail
    refine (szCoverS_any _ _ _ _ _ hn2 (by omega) (by omega)).mono ?_
    rintro e w' ⟨rfl, rfl⟩
    rw [E0.out]
    go_wp2_with fail
    refine (toCoverS_any _ _ _ z2 _ HZ2.out q2 HR2.out).mono ?_
    rintro e w1 ⟨rfl, ho, hr, hb⟩
    have HR2 := hide (rd_step HR2.out hb)
    have HB := hide (bl_step HB.out hb)
    have HS2 := hide hr
    clear hb ho hr
    go_wp2_with fail
    refine (sOnlyShownBy_any i0 i1 _ _ _ z2 i3 _ HZ2.out q2 HS2.out (Nat.le_refl _)).mono ?_
    rintro e w2 ⟨rfl, hb⟩
    have HR2 := hide (rd_step HR2.out hb)
    have HS2 := hide (rd_step HS2.out hb)
    have HB := hide (bl_step HB.out hb)
    clear hb
    clear HS2
    go_wp2_with fail
    refine (toCoverS_any _ _ _ z2 _ HZ2.out q2 HR2.out).mono ?_
    rintro e w3 ⟨rfl, ho, hr, hb⟩
    have HR2 := hide (rd_step HR2.out hb)
    have HB := hide (bl_step HB.out hb)
    have HX2 := hide hr
    clear hb ho hr
    go_wp2_with fail
    refine (OnlyShownBy_any i0 i1 _ _ _ z2 i3 _ HZ2.out q2 HX2.out (Nat.le_refl _)).mono ?_
    rintro e w4 ⟨rfl, hb⟩
    have HR2 := hide (rd_step HR2.out hb)
    have HX2 := hide (rd_step HX2.out hb)
    have HB := hide (bl_step HB.out hb)
    clear hb
    go_wp2_with fail
    refine (toCoverS_any _ _ _ z2 _ HZ2.out q2 HR2.out).mono ?_
    rintro e w5 ⟨rfl, ho, hr, hb⟩
    have HR2 := hide (rd_step HR2.out hb)
    have HX2 := hide (rd_step HX2.out hb)
    have HB := hide (bl_step HB.out hb)
    have HY2 := hide hr
    clear hb ho hr
    go_wp2_with fail
    refine (eqCoverS_same _ _ _ _ _ z2 _ HZ2.out q2 HX2.out HY2.out).mono ?_
    rintro e w6 ⟨rfl, hb⟩
    have HR2 := hide (rd_step HR2.out hb)
    have HX2 := hide (rd_step HX2.out hb)
    have HY2 := hide (rd_step HY2.out hb)
    have HB := hide (bl_step HB.out hb)
    clear hb
    go_wp2
    go_ret
    exact ⟨rfl, HB.out⟩

end Go.Proofs.Ytpdfbijfklmonaa
