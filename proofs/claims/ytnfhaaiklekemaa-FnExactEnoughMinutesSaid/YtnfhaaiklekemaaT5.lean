/- MinutesOf, EnoughMinutes and their references. -/
import Derived.Test.YtnfhaaiklekemaaT4
namespace Go.Proofs.Ytnfhaaiklekemaa
open Go.RowKit

set_option maxRecDepth 100000 in
theorem MinutesOf_any (ao : Option Addr) (n c : Nat) (zs : List Lg) (w : World) (hz : zs.length = n) (hn : n ≤ 1048576) (hr : Rd encLg 3 w.heap.size w ao zs) :
    Calls Try.prog 44 #[.slice ao n c] w fun e w' => e = .returned (.tuple #[.int .i64 (minV zs), .int .i64 (denV zs), .bool (routeB zs)]) ∧ Below w.heap.size w w' := by
  have HA := hide (IsRoute_any ao n c zs w hz hn hr)
  have HZ := hide hz
  have HR := hide hr
  clear hz hr
  cases h0 : routeB zs with
  | false =>
    have HO := hide h0
    go_enter Try.func44, Try.ntmps44
    go_wp2_with fail
    refine HA.out.mono ?_
    rintro e w1 ⟨rfl, hb⟩
    have HB := hide hb
    clear hb
    go_wp2
    go_ret3
    exact ⟨ret_iib (by unfold minV; rw [HO.out]; rfl) (by unfold denV; rw [HO.out]; rfl) rfl, HB.out⟩
  | true =>
    have HO := hide h0
    have hM := min_bd h0
    go_enter Try.func44, Try.ntmps44
    go_wp2_with fail
    refine HA.out.mono ?_
    rintro e w1 ⟨rfl, hb⟩
    rw [HO.out]
    have HR1 := hide (rd_step HR.out hb)
    have HB := hide hb
    clear hb HA h0
    go_wp2_with fail
    refine (minutes_any _ _ _ zs _ HZ.out hn HR1.out HO.out).mono ?_
    rintro e w2 ⟨rfl, hb⟩
    have HB2 := hide (bl_step HB.out hb)
    clear hb
    generalize hs : sumI partsV yes zs = M at hM
    have HS := hide hs
    obtain ⟨hM0, hM1⟩ := hM
    clear hs
    go_wp2_with fail
    refine (fraction_any M _ hM0 hM1).mono ?_
    rintro e w3 ⟨rfl, hb⟩
    have HB3 := hide (bl_step HB2.out hb)
    clear hb
    go_wp2
    go_ret3
    exact ⟨ret_iib (by unfold minV; rw [HO.out, HS.out]; rfl) (by unfold denV; rw [HO.out, HS.out]; rfl) rfl, HB3.out⟩
set_option maxRecDepth 100000 in
theorem EnoughMinutes_any (ao : Option Addr) (n c : Nat) (zs : List Lg) (w : World) (hz : zs.length = n) (hn : n ≤ 1048576) (hr : Rd encLg 3 w.heap.size w ao zs) :
    Calls Try.prog 38 #[.slice ao n c] w fun e w' => e = .returned (.tuple #[.int .i64 (enoughV zs), .bool (routeB zs)]) ∧ Below w.heap.size w w' := by
  have HA := hide (IsRoute_any ao n c zs w hz hn hr)
  have HZ := hide hz
  have HR := hide hr
  clear hz hr
  cases h0 : routeB zs with
  | false =>
    have HO := hide h0
    go_enter Try.func38, Try.ntmps38
    go_wp2_with fail
    refine HA.out.mono ?_
    rintro e w1 ⟨rfl, hb⟩
    have HB := hide hb
    clear hb
    go_wp2
    go_ret2
    exact ⟨ret_ib (by unfold enoughV; rw [HO.out]; rfl) rfl, HB.out⟩
  | true =>
    have HO := hide h0
    have hM := min_bd h0
    go_enter Try.func38, Try.ntmps38
    go_wp2_with fail
    refine HA.out.mono ?_
    rintro e w1 ⟨rfl, hb⟩
    rw [HO.out]
    have HR1 := hide (rd_step HR.out hb)
    have HB := hide hb
    clear hb HA h0
    go_wp2_with fail
    refine (minutes_any _ _ _ zs _ HZ.out hn HR1.out HO.out).mono ?_
    rintro e w2 ⟨rfl, hb⟩
    have HB2 := hide (bl_step HB.out hb)
    clear hb
    generalize hs : sumI partsV yes zs = M at hM
    have HS := hide hs
    obtain ⟨hM0, hM1⟩ := hM
    clear hs
    go_wp2
    go_ret2
    exact ⟨ret_ib (by unfold enoughV; rw [HO.out, HS.out]; rfl) rfl, HB2.out⟩

set_option maxRecDepth 100000 in
theorem sMinutesOf_any (ao : Option Addr) (n c : Nat) (zs : List Lg) (w : World) (hz : zs.length = n) (hn : n ≤ 1048576) (hr : Rd encLg 3 w.heap.size w ao zs) :
    Calls Try.prog 43 #[.slice ao n c] w fun e w' => e = .returned (.tuple #[.int .i64 (minV zs), .int .i64 (denV zs), .bool (routeB zs)]) ∧ Below w.heap.size w w' := by
  have HA := hide (l15Good_any ao n c zs w hz hn hr)
  have HZ := hide hz
  have HR := hide hr
  clear hz hr
  cases h0 : routeB zs with
  | false =>
    have HO := hide h0
    go_enter Try.func43, Try.ntmps43
    go_wp2_with fail
    refine HA.out.mono ?_
    rintro e w1 ⟨rfl, hb⟩
    have HB := hide hb
    clear hb
    go_wp2
    go_ret3
    exact ⟨ret_iib (by unfold minV; rw [HO.out]; rfl) (by unfold denV; rw [HO.out]; rfl) rfl, HB.out⟩
  | true =>
    have HO := hide h0
    have HM := hide (min_bd h0)
    go_enter Try.func43, Try.ntmps43
    go_wp2_with fail
    refine HA.out.mono ?_
    rintro e w1 ⟨rfl, hb⟩
    rw [HO.out]
    have HB := hide hb
    clear hb HA h0
    go_wp2
    go_loopg [5, 6] n (fun gk t i wr => ∃ k : Nat, k ≤ n ∧ n - k ≤ gk ∧ i = .int .i64 k ∧ t = .int .i64 (sumI partsV yes (zs.take k)) ∧ Aside (Below w.heap.size w wr))
    case atStart => exact ⟨0, Nat.zero_le _, by omega, rfl, by rw [sum_zero], HB.out⟩
    case round =>
      obtain ⟨k, hk, hg, rfl, rfl, BW⟩ := hrel
      by_cases hlt : k < n
      · have hltz : (k : Int) < (n : Int) := by omega
        obtain ⟨b, off, rfl, hb1, hat⟩ := rdLg HR.out (by rw [HZ.out]; omega)
        obtain ⟨x, hx, hxc⟩ := hat k (by rw [HZ.out]; exact hlt)
        have HX := hide hx
        have HBD := hide (route_bd HO.out hx)
        obtain ⟨hbr, c0, c1, c2⟩ := hxc wr BW.out
        have HWN := hide (BW.out)
        clear hx hxc hat
        generalize ht : sumI partsV yes (zs.take k) = t
        have HT := hide ht
        clear ht
        go_wp2_with fail
        refine (l15Parts_any x _ HBD.out).mono ?_
        rintro e w2 ⟨rfl, hb⟩
        have HB2 := hide (bl_step HWN.out hb)
        clear hb HWN
        generalize hv : partsV x = v
        have HV := hide hv
        clear hv
        go_wp2
        go_roundg (n - (k + 1))
        case measure => omega
        case rel => exact ⟨k + 1, by omega, by omega, by go_num, by rw [sum_yes HX.out (show yes x = true from rfl), HT.out, HV.out], HB2.out⟩
      · have hltz : ¬ (k : Int) < (n : Int) := by omega
        go_wp2_with fail
        rw [sum_all (f := partsV) (c := yes) (zs := zs) (by rw [HZ.out]; omega)]
        obtain ⟨hM0, hM1⟩ := HM.out
        generalize hs : sumI partsV yes zs = M at hM0 hM1
        have HS := hide hs
        clear hs
        refine (l2Reduce_any M _ hM0 hM1).mono ?_
        rintro e w3 ⟨rfl, hb⟩
        have HB3 := hide (bl_step BW.out hb)
        clear hb
        go_wp2
        go_ret3
        exact ⟨ret_iib (by unfold minV; rw [HO.out, HS.out]; rfl) (by unfold denV; rw [HO.out, HS.out]; rfl) rfl, HB3.out⟩

set_option maxRecDepth 100000 in
theorem sEnoughMinutes_any (ao : Option Addr) (n c : Nat) (zs : List Lg) (w : World) (hz : zs.length = n) (hn : n ≤ 1048576) (hr : Rd encLg 3 w.heap.size w ao zs) :
    Calls Try.prog 37 #[.slice ao n c] w fun e w' => e = .returned (.tuple #[.int .i64 (enoughV zs), .bool (routeB zs)]) ∧ Below w.heap.size w w' := by
  have HA := hide (sMinutesOf_any ao n c zs w hz hn hr)
  clear hz hr
  cases h0 : routeB zs with
  | false =>
    have HO := hide h0
    go_enter Try.func37, Try.ntmps37
    go_wp2_with fail
    refine HA.out.mono ?_
    rintro e w1 ⟨rfl, hb⟩
    have HB := hide hb
    clear hb
    go_wp2
    go_ret2
    exact ⟨ret_ib (by unfold enoughV; rw [HO.out]; rfl) rfl, HB.out⟩
  | true =>
    have HO := hide h0
    obtain ⟨hM0, hM1⟩ := min_bd h0
    have HV : Hid (minV zs = sumI partsV yes zs / gV (sumI partsV yes zs)) := hide (by unfold minV; rw [h0]; rfl)
    have HD : Hid (denV zs = 150 / gV (sumI partsV yes zs)) := hide (by unfold denV; rw [h0]; rfl)
    have hg0 := g_pos (sumI partsV yes zs)
    have hg1 := g_le (sumI partsV yes zs)
    have HE := hide (enough_eq (sumI partsV yes zs))
    have HN : Hid (enoughV zs = (sumI partsV yes zs + 149) / 150) := hide (by unfold enoughV; rw [h0]; rfl)
    generalize sumI partsV yes zs = M at *
    generalize gV M = g at *
    have q0 : 0 ≤ M / g := Int.ediv_nonneg hM0 (by omega)
    have q1 : M / g ≤ M := Int.ediv_le_self _ hM0
    have q2 : 1 ≤ 150 / g := by
      have := Int.ediv_le_ediv (c := g) hg0 hg1
      rw [Int.ediv_self (by omega)] at this
      exact this
    have q3 : 150 / g ≤ 150 := Int.ediv_le_self _ (by omega)
    generalize hp : M / g = p at *
    generalize hq : 150 / g = q at *
    have k1 : (q == 0) = false := by rw [beq_eq_false_iff_ne]; omega
    clear h0 hp hq hg0 hg1
    go_enter Try.func37, Try.ntmps37
    go_wp2_with fail
    refine HA.out.mono ?_
    rintro e w1 ⟨rfl, hb⟩
    rw [HO.out, HV.out, HD.out]
    have HB := hide hb
    clear hb HA
    go_wp2
    go_ret2
    exact ⟨ret_ib (by rw [HN.out, ← HE.out]) rfl, HB.out⟩

end Go.Proofs.Ytnfhaaiklekemaa
