/- The law FnExactAreRights walked. -/
import Derived.Test.YtbjnepojjfmifaaA5
namespace Go.Proofs.Ytbjnepojjfmifaa
open Go.RowKit
theorem sAreRights_any (ao : Option Addr) (n c : Nat) (zs : List Rt) (w : World) (hz : zs.length = n) (hn : n ≤ 1048576) (hr : Rd encR 4 w.heap.size w ao zs) :
    Calls Try.prog 16 #[.slice ao n c] w fun e w' => e = .returned (.bool (areR zs)) ∧ Below w.heap.size w w' := by
  have H := hide (l14Rights_any ao n c zs w hz hn hr)
  clear hz hr
  go_enter Try.func16, Try.ntmps16
  go_wp2_with fail
  refine H.out.mono ?_
  rintro e w' ⟨rfl, hb⟩
  go_wp2
  go_ret
  exact ⟨rfl, hb⟩

theorem szV_big {left : Int} {n : Nat} (h : left < n) : szV left n = -1 := by unfold szV; rw [if_pos h]
theorem szV_ok {left : Int} {n : Nat} (h : ¬ left < n) : szV left n = left - n := by unfold szV; rw [if_neg h]

theorem lawAreRights (ao : Option Addr) (n c : Nat) (zs : List Rt) (w : World) (hz : zs.length = n) (hn : n ≤ 9223372036854775807) (hr : Rd encR 4 w.heap.size w ao zs) :
    Calls Try.prog 3 #[.slice ao n c] w fun e w' => e = .returned (.bool true) ∧ Below w.heap.size w w' := by
  by_cases hbig : (1048576 : Int) < n
  · have H1 := hide (szV_big hbig)
    have HZ := hide hz
    clear hz
    go_enter Try.func3, Try.ntmps3
    go_wp2_with fail
    refine (szRightS_any _ _ _ _ _ hn (by omega) (by omega)).mono ?_
    rintro e w' ⟨rfl, rfl⟩
    rw [H1.out]
    go_wp2
    go_ret
    exact ⟨rfl, Below.refl _ _⟩
  · have H1 := hide (szV_ok hbig)
    have HZ := hide hz
    have hn2 : n ≤ 1048576 := by omega
    have hn3 : ¬ (1048576 : Int) - n < 0 := by omega
    clear hz
    have HR := hide hr
    clear hr
    go_enter Try.func3, Try.ntmps3
    go_wp2_with fail
    refine (szRightS_any _ _ _ _ _ hn (by omega) (by omega)).mono ?_
    rintro e w' ⟨rfl, rfl⟩
    rw [H1.out]
    go_wp2_with fail
    -- toS
    refine (toRightS_any _ _ _ zs _ HZ.out hn2 HR.out).mono ?_
    rintro e w1 ⟨rfl, ho1, hr1, hb1⟩
    have HR1 := hide hr1
    have HB1 := hide hb1
    clear ho1 hr1 hb1
    go_wp2_with fail
    refine (sAreRights_any _ _ _ zs _ HZ.out hn2 HR1.out).mono ?_
    rintro e w2 ⟨rfl, hb2⟩
    have HB2 := hide (HB1.out.trans (hb2.mono HB1.out.size))
    clear hb2 HR1 HB1
    go_wp2_with fail
    refine (toRightS_any _ _ _ zs _ HZ.out hn2 ((HR.out.below HB2.out (Nat.le_refl _)).mono HB2.out.size)).mono ?_
    rintro e w3 ⟨rfl, ho3, hr3, hb3⟩
    have HR3 := hide hr3
    have HB3 := hide (HB2.out.trans (hb3.mono HB2.out.size))
    have HW3 := hide hb3
    clear ho3 hr3 hb3 HB2
    go_wp2_with fail
    refine (AreRights_any _ _ _ zs _ HZ.out hn2 HR3.out).mono ?_
    rintro e w4 ⟨rfl, hb4⟩
    have HR4 := hide ((HR3.out.below hb4 (Nat.le_refl _)).mono hb4.size)
    have HB4 := hide (HB3.out.trans (hb4.mono HB3.out.size))
    clear hb4 HR3 HB3 HW3
    go_wp2_with fail
    refine (toRightS_any _ _ _ zs _ HZ.out hn2 ((HR.out.below HB4.out (Nat.le_refl _)).mono HB4.out.size)).mono ?_
    rintro e w5 ⟨rfl, ho5, hr5, hb5⟩
    have HR5 := hide hr5
    have HR5b := hide ((HR4.out.below hb5 (Nat.le_refl _)).mono hb5.size)
    have HB5 := hide (HB4.out.trans (hb5.mono HB4.out.size))
    clear ho5 hr5 hb5 HB4
    go_wp2_with fail
    refine (eqRightS_same _ _ _ _ _ zs _ HZ.out hn2 HR5b.out HR5.out).mono ?_
    rintro e w6 ⟨rfl, hb6⟩
    have HB6 := hide (HB5.out.trans (hb6.mono HB5.out.size))
    clear hb6
    go_wp2
    go_ret
    exact ⟨rfl, HB6.out⟩
end Go.Proofs.Ytbjnepojjfmifaa
