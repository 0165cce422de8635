/- EndOfRoute: the reference. -/
import Derived.Test.YthcfkihpihgjeaaT16
namespace Go.Proofs.Ythcfkihpihgjeaa
open Go.RowKit
set_option linter.unusedVariables false
set_option linter.unusedSimpArgs false

set_option maxRecDepth 100000 in
set_option maxHeartbeats 1000000 in
theorem l15End_any (ao : Option Addr) (n c : Nat) (zs : List Lg) (w : World) (hz : zs.length = n) (hn : n ≤ 1048576) (hr : Rd encLg 3 w.heap.size w ao zs) (hb0 : routeB zs = true) :
    Calls Try.prog 64 #[.slice ao n c] w fun e w' => e = .returned (.tuple #[.int .i64 (sumI fE yes zs), .int .i64 (sumI fN yes zs), .int .i64 (sumI fC yes zs)]) ∧ Below w.heap.size w w' := by
  have HZ := hide hz
  have HR := hide hr
  have HH1 := hide hb0
  have h12 := route_12 hb0
  rw [hz] at h12
  clear hz hr hb0
  go_enter Try.func64, Try.ntmps64
  go_wp2
  go_loopg [5, 6, 7, 8] n (fun gk a b t i wr => ∃ k : Nat, k ≤ n ∧ n - k ≤ gk ∧ i = .int .i64 k ∧ a = .int .i64 (sumI fE yes (zs.take k)) ∧ b = .int .i64 (sumI fN yes (zs.take k)) ∧ t = .int .i64 (sumI fC yes (zs.take k)) ∧ Aside (Below w.heap.size w wr))
  case atStart => exact ⟨0, Nat.zero_le _, by omega, rfl, by rw [sum_zero], by rw [sum_zero], by rw [sum_zero], Below.refl _ _⟩
  case round =>
    obtain ⟨k, hk, hg, rfl, rfl, rfl, rfl, BW⟩ := hrel
    by_cases hlt : k < n
    · have hltz : (k : Int) < (n : Int) := by omega
      obtain ⟨b', off, rfl, hb1, hat⟩ := rdLg HR.out (by rw [HZ.out]; omega)
      obtain ⟨x, hx, hxc⟩ := hat k (by rw [HZ.out]; exact hlt)
      have HX := hide hx
      have HXC := hide hxc
      have bx := route_bd HH1.out hx
      obtain ⟨hbr, c0, c1, c2⟩ := hxc wr BW.out
      have HFC : Hid (fC x = x.c) := hide rfl
      clear hx hxc hat
      obtain ⟨hdx, hdy⟩ := d_bd x.w
      have bu := bx.2.1
      have bw := bx.1
      have HFE : Hid (fE x = x.u * dX x.w) := hide rfl
      have HFN : Hid (fN x = x.u * dY x.w) := hide rfl
      generalize hp : dX x.w = p at hdx HFE
      generalize hq : dY x.w = q at hdy HFN
      have HP := hide hp
      have HQ := hide hq
      have m1 := up_bd bu hdx
      have m2 := up_bd bu hdy
      clear hp hq
      generalize hE : sumI fE yes (zs.take k) = E at *
      generalize hN : sumI fN yes (zs.take k) = N at *
      have HE := hide hE
      have HN := hide hN
      clear hE hN
      have k1 : IntKind.i64.wrap (p * x.u) = x.u * p := by rw [Int.mul_comm]; exact IntWalk.i64_in _ (by omega)
      have k2 : IntKind.i64.wrap (q * x.u) = x.u * q := by rw [Int.mul_comm]; exact IntWalk.i64_in _ (by omega)
      go_wp2_with fail
      refine (l15Step_any x.w _ bw).mono ?_
      rintro e w2 ⟨rfl, hb⟩
      rw [HP.out, HQ.out]
      have HB2 := hide (bl_step BW.out hb)
      clear hb hbr c0 c1 c2
      obtain ⟨hbr, c0, c1, c2⟩ := HXC.out w2 HB2.out
      go_wp2
      go_roundg (n - (k + 1))
      case measure => omega
      case rel => exact ⟨k + 1, by omega, by omega, by go_num, by rw [sum_yes HX.out (show yes x = true from rfl), HE.out, HFE.out], by rw [sum_yes HX.out (show yes x = true from rfl), HN.out, HFN.out], by rw [sum_yes HX.out (show yes x = true from rfl), HFC.out], HB2.out⟩
    · have hltz : ¬ (k : Int) < (n : Int) := by omega
      have HEE : Hid (sumI fE yes (zs.take k) = sumI fE yes zs) := hide (sum_all (by rw [HZ.out]; omega))
      have HNN : Hid (sumI fN yes (zs.take k) = sumI fN yes zs) := hide (sum_all (by rw [HZ.out]; omega))
      have HCC : Hid (sumI fC yes (zs.take k) = sumI fC yes zs) := hide (sum_all (by rw [HZ.out]; omega))
      go_wp2
      go_ret3
      exact ⟨ret_i3 HEE.out HNN.out HCC.out, BW.out⟩
set_option maxRecDepth 100000 in
theorem sEndOfRoute_any (ao : Option Addr) (n c : Nat) (zs : List Lg) (w : World) (hz : zs.length = n) (hn : n ≤ 1048576) (hr : Rd encLg 3 w.heap.size w ao zs) :
    Calls Try.prog 32 #[.slice ao n c] w fun e w' => e = .returned (.tuple #[.int .i64 (sumOf fE zs), .int .i64 (sumOf fN zs), .int .i64 (sumOf fC zs), .bool (routeB zs)]) ∧ Below w.heap.size w w' := by
  have HZ := hide hz
  have HR := hide hr
  have HA := hide (l15Good_any ao n c zs w hz hn hr)
  clear hz hr
  cases h1 : routeB zs with
  | false =>
    have HO : Hid (routeB zs = false) := hide h1
    clear h1
    go_enter Try.func32, Try.ntmps32
    go_wp2_with fail
    refine HA.out.mono ?_
    rintro e w1 ⟨rfl, hb⟩
    rw [HO.out]
    have HB := hide hb
    clear hb
    go_wp2
    (try simp only [Exit.inBlock, Exit.then]); refine bodyPost_ret (results_tmp4 rfl _ _ _) rfl ?_
    have h1 := HO.out
    exact ⟨ret_i4 (by unfold sumOf; rw [h1]; rfl) (by unfold sumOf; rw [h1]; rfl) (by unfold sumOf; rw [h1]; rfl) rfl, HB.out⟩
  | true =>
    have HO : Hid (routeB zs = true) := hide h1
    clear h1
    have HSE : Hid (sumOf fE zs = sumI fE yes zs) := hide (by unfold sumOf; rw [HO.out]; rfl)
    have HSN : Hid (sumOf fN zs = sumI fN yes zs) := hide (by unfold sumOf; rw [HO.out]; rfl)
    have HSC : Hid (sumOf fC zs = sumI fC yes zs) := hide (by unfold sumOf; rw [HO.out]; rfl)
    go_enter Try.func32, Try.ntmps32
    go_wp2_with fail
    refine HA.out.mono ?_
    rintro e w1 ⟨rfl, hb⟩
    rw [HO.out]
    have HB := hide hb
    clear hb HA
    go_wp2_with fail
    refine (l15End_any ao n c zs _ HZ.out hn (rd_step HR.out HB.out) HO.out).mono ?_
    rintro e w2 ⟨rfl, hb⟩
    have HB2 := hide (bl_step HB.out hb)
    clear hb
    go_wp2
    (try simp only [Exit.inBlock, Exit.then]); refine bodyPost_ret (results_tmp4 rfl _ _ _) rfl ?_
    exact ⟨ret_i4 HSE.out.symm HSN.out.symm HSC.out.symm rfl, HB2.out⟩

end Go.Proofs.Ythcfkihpihgjeaa
