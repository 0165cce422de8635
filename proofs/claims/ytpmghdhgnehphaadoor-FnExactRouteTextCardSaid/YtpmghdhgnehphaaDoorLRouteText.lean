/- The law FnExactRouteText walked. -/
import Derived.Test.YtpmghdhgnehphaaDoorJ9
import Derived.Test.YtpmghdhgnehphaaDoorOwn
namespace Go.Proofs.YtpmghdhgnehphaaDoor
open Go.RowKit
set_option linter.unusedVariables false
set_option linter.unusedSimpArgs false
set_option maxHeartbeats 1000000
set_option maxRecDepth 100000 in
theorem law_FnExactRouteText (a0 : Option Addr) (n0 c0 : Nat) (z0 : List Lg) (w : World) (hz0 : z0.length = n0) (hn0 : n0 ≤ 9223372036854775807) (hr0 : Rd encLg 3 w.heap.size w a0 z0) (ht : TabW w) :
    Calls Tryd.prog 3 #[.slice a0 n0 c0] w fun e w' => e = .returned (.bool true) ∧ Below w.heap.size w w' := by
  have HT := hide ht
  clear ht
  by_cases b0 : (1048576 : Int) < n0
  · have E0 := hide (szV_big b0)
    have HZ0 := hide hz0
    have HR0 := hide hr0
    clear hz0 hr0
    go_enter Tryd.func3, Tryd.ntmps3
    go_wp2_with fail
    refine (szLegS_any _ _ _ _ _ hn0 (by omega) (by omega)).mono ?_
    rintro e w' ⟨rfl, rfl⟩
    rw [E0.out]
    go_wp2
    go_ret
    first | exact ⟨rfl, Below.refl _ _⟩ | exact ⟨rfl, (Below.refl _ _).alloc (Nat.le_refl _) _⟩
  · have E0 := hide (szV_ok b0)
    have q0 : n0 ≤ 1048576 := by omega
    have p0 : ¬ (1048576 : Int) - n0 < 0 := by omega
    have HZ0 := hide hz0
    have HR0 := hide hr0
    clear hz0 hr0
    have HB := hide (Below.refl w.heap.size w)
    go_enter Tryd.func3, Tryd.ntmps3
    go_wp2_with fail
    refine (szLegS_any _ _ _ _ _ hn0 (by omega) (by omega)).mono ?_
    rintro e w' ⟨rfl, rfl⟩
    rw [E0.out]
    obtain ⟨T, hT⟩ : ∃ T, routeT z0 = T := ⟨_, rfl⟩
    obtain ⟨ok, hok⟩ : ∃ ok, routeB z0 = ok := ⟨_, rfl⟩
    have HTT := hide hT
    have HOK := hide hok
    clear hT hok
    go_wp2_with fail
    refine (toLegS_any _ _ _ z0 _ HZ0.out q0 HR0.out).mono ?_
    rintro e w1 ⟨rfl, ho, hr, hb⟩
    have HR0 := hide (rd_step HR0.out hb)
    have HB := hide (bl_step HB.out hb)
    have HT := hide (HT.out.below hb)
    have HS0 := hide hr
    clear hb ho hr
    go_wp2_with fail
    refine (sRouteText_any _ _ z0 _ HZ0.out q0 HS0.out).mono ?_
    rintro e w2 ⟨rfl, hb⟩
    rw [HTT.out, HOK.out]
    have HR0 := hide (rd_step HR0.out hb)
    have HS0 := hide (rd_step HS0.out hb)
    have HB := hide (bl_step HB.out hb)
    have HT := hide (HT.out.below hb)
    clear hb
    clear HS0
    go_wp2_with fail
    refine (toLegS_any _ _ _ z0 _ HZ0.out q0 HR0.out).mono ?_
    rintro e w3 ⟨rfl, ho, hr, hb⟩
    have HR0 := hide (rd_step HR0.out hb)
    have HB := hide (bl_step HB.out hb)
    have HT := hide (HT.out.below hb)
    have HX0 := hide hr
    clear hb ho hr
    go_wp2_with fail
    refine (RouteText_any _ _ _ z0 _ HZ0.out q0 HX0.out HT.out).mono ?_
    rintro e w4 ⟨rfl, hb⟩
    rw [HTT.out, HOK.out]
    have HR0 := hide (rd_step HR0.out hb)
    have HX0 := hide (rd_step HX0.out hb)
    have HB := hide (bl_step HB.out hb)
    have HT := hide (HT.out.below hb)
    clear hb
    cases ok
    all_goals
      go_wp2_with fail
      refine (toLegS_any _ _ _ z0 _ HZ0.out q0 HR0.out).mono ?_
      rintro e w5 ⟨rfl, ho, hr, hb⟩
      have HR0 := hide (rd_step HR0.out hb)
      have HX0 := hide (rd_step HX0.out hb)
      have HB := hide (bl_step HB.out hb)
      have HT := hide (HT.out.below hb)
      have HY0 := hide hr
      clear hb ho hr
      go_wp2_with fail
      refine (eqLegS_same _ _ _ _ _ z0 _ HZ0.out q0 HX0.out HY0.out).mono ?_
      rintro e w6 ⟨rfl, hb⟩
      have HR0 := hide (rd_step HR0.out hb)
      have HX0 := hide (rd_step HX0.out hb)
      have HY0 := hide (rd_step HY0.out hb)
      have HB := hide (bl_step HB.out hb)
      have HT := hide (HT.out.below hb)
      clear hb
      go_wp2
      go_ret
      exact ⟨rfl, HB.out⟩

end Go.Proofs.YtpmghdhgnehphaaDoor
