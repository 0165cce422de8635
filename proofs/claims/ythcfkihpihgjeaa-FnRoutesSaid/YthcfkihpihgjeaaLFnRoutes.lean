/- The law FnRoutes walked. -/
import Derived.Test.YthcfkihpihgjeaaE1
import Derived.Test.YthcfkihpihgjeaaE2
import Derived.Test.YthcfkihpihgjeaaV1
import Derived.Test.YthcfkihpihgjeaaT13
import Derived.Test.YthcfkihpihgjeaaT14
import Derived.Test.YthcfkihpihgjeaaT18
import Derived.Test.YthcfkihpihgjeaaT19
import Derived.Test.YthcfkihpihgjeaaT21
import Derived.Test.YthcfkihpihgjeaaT22c
import Derived.Test.YthcfkihpihgjeaaT10
import Derived.Test.YthcfkihpihgjeaaT11
namespace Go.Proofs.Ythcfkihpihgjeaa
open Go.RowKit
set_option linter.unusedVariables false
set_option linter.unusedSimpArgs false

set_option maxRecDepth 100000 in
set_option maxHeartbeats 4000000 in
theorem law_FnRoutes (ao : Option Addr) (n c : Nat) (w : World) (hn : n ≤ 9223372036854775807) (hnc : n ≤ c) (hby : Bytes w.heap.size w ao n) :
    Calls Try.prog 6 #[.slice ao n c] w fun e w' => e = .returned (.bool true) ∧ Below w.heap.size w w' := by
  have HBIG := hide (vBig_any ao n c w hn)
  by_cases hbig : 65536 < n
  · have hd : decide (65536 < n) = true := by simpa using hbig
    have HD := hide hd
    clear hd
    go_enter Try.func6, Try.ntmps6
    go_wp2_with fail
    refine HBIG.out.mono ?_
    rintro e w1 ⟨rfl, rfl⟩
    rw [HD.out]
    go_wp2
    go_ret
    exact ⟨rfl, Below.refl _ _⟩
  have HD : Hid (decide (65536 < n) = false) := hide (by simpa using hbig)
  have HDR := hide (DrawWayBack_any ao n c w (by omega) hnc hby)
  have HB := hide (Below.refl w.heap.size w)
  clear hby hbig
  go_enter Try.func6, Try.ntmps6
  go_wp2_with fail
  refine HBIG.out.mono ?_
  rintro e w' ⟨rfl, rfl⟩
  rw [HD.out]
  go_wp2_with fail
  refine HDR.out.mono ?_
  rintro e w1 ⟨v, zs, rfl, hl, ho, hb⟩
  obtain ⟨N, hN⟩ : ∃ N, N = zs.length := ⟨_, rfl⟩
  rw [← hN] at ho hl
  obtain ⟨za, zc, rfl, hzc, hzm, hrd⟩ := own_rd encLg_len ho hN.symm
  have HZ := hide hN.symm
  have HR := hide hrd
  have HB := hide (bl_step HB.out hb)
  have hN1 : N ≤ 1048576 := by omega
  clear ho hb hrd hN HBIG HDR HD hzm
  obtain ⟨E, hE⟩ : ∃ E, E = sumOf fE zs := ⟨_, rfl⟩
  obtain ⟨Nn, hNn⟩ : ∃ Nn, Nn = sumOf fN zs := ⟨_, rfl⟩
  obtain ⟨Cc, hCc⟩ : ∃ Cc, Cc = sumOf fC zs := ⟨_, rfl⟩
  obtain ⟨Wk, hWk⟩ : ∃ Wk, Wk = sumOf walkV zs := ⟨_, rfl⟩
  have bE := sumOf_bd (zs := zs) (fun _ => fE_bd)
  have bN := sumOf_bd (zs := zs) (fun _ => fN_bd)
  have bC := sumOf_bd (zs := zs) (fun _ => fC_bd)
  have bW := sumOf_bd (zs := zs) (fun _ => fW_bd)
  rw [← hE] at bE
  rw [← hNn] at bN
  rw [← hCc] at bC
  rw [← hWk] at bW
  have HE := hide hE.symm
  have HNN := hide hNn.symm
  have HCC := hide hCc.symm
  have HWK := hide hWk.symm
  clear hE hNn hCc hWk
  have bW2 := bW
  obtain ⟨M, hM⟩ : ∃ M, M = (wbV zs).length := ⟨_, rfl⟩
  have hM1 : M ≤ 1048576 := by rw [hM]; exact Nat.le_trans wb_len (by rw [HZ.out]; exact hN1)
  have HM := hide hM
  obtain ⟨P, hP⟩ : ∃ P, P = (plV zs).length := ⟨_, rfl⟩
  have hP1 : P ≤ 1048576 := by rw [hP]; exact Nat.le_trans pl_len12 (by omega)
  have HP := hide hP
  obtain ⟨L, hL⟩ : ∃ L, L = (plcV zs).length := ⟨_, rfl⟩
  have hL1 : L ≤ 1048576 := by rw [hL]; exact Nat.le_trans plc_len (by rw [HZ.out]; exact hN1)
  have HL := hide hL
  have HK : Hid ((routeB zs = false ∧ okPl zs = false ∧ M = 0 ∧ P = 0 ∧ L = 0 ∧ E = 0 ∧ Nn = 0 ∧ Cc = 0 ∧ Wk = 0) ∨ routeB zs = true) := hide (by
    cases h1 : routeB zs with
    | true => exact .inr rfl
    | false =>
      refine .inl ⟨rfl, by unfold okPl; rw [h1]; rfl, ?_, ?_, ?_, ?_, ?_, ?_, ?_⟩
      · rw [hM]; unfold wbV; rw [h1]; rfl
      · rw [hP]; unfold plV okPl; rw [h1]; rfl
      · rw [hL]; rw [plc_no h1]; rfl
      · rw [← HE.out]; unfold sumOf; rw [h1]; rfl
      · rw [← HNN.out]; unfold sumOf; rw [h1]; rfl
      · rw [← HCC.out]; unfold sumOf; rw [h1]; rfl
      · rw [← HWK.out]; unfold sumOf; rw [h1]; rfl)
  clear hM hP hL
  rcases HK.out with ⟨h1, h2, rfl, rfl, rfl, rfl, rfl, rfl, rfl⟩ | h1
  · have HRB := hide h1
    have HPB := hide h2
    clear h1 h2 HK bE bN bC bW bW2
    go_wp2_with fail
    refine (WayBack_any _ N zc zs _ HZ.out hN1 HR.out).mono ?_
    rintro e w2 ⟨vb, rfl, ho, hb⟩
    have HR := hide (rd_step HR.out hb)
    have HB := hide (bl_step HB.out hb)
    rw [HRB.out]
    rw [← HM.out] at ho
    obtain ⟨ab, cb, rfl, hcb, _, hrb⟩ := own_rd encLg_len ho HM.out.symm
    have HOB := hide ho
    have HRK := hide hrb
    clear ho hrb
    clear hb
    go_wp2_with fail
    refine (sWayBack_any _ N zc zs _ HZ.out hN1 HR.out).mono ?_
    rintro e w3 ⟨vw, rfl, ho, hb⟩
    have HR := hide (rd_step HR.out hb)
    have HRK := hide (rd_step HRK.out hb)
    have HOB := hide (own_step HOB.out hb)
    have HB := hide (bl_step HB.out hb)
    rw [HRB.out]
    rw [← HM.out] at ho
    have HOW := hide ho
    clear ho
    clear hb
    go_wp2_with fail
    refine (vLegs_own _ _ 0 (wbV zs) _ HOB.out HOW.out HM.out.symm hM1).mono ?_
    rintro e w4 ⟨rfl, hb⟩
    have HR := hide (rd_step HR.out hb)
    have HRK := hide (rd_step HRK.out hb)
    have HOB := hide (own_step HOB.out hb)
    have HOW := hide (own_step HOW.out hb)
    have HB := hide (bl_step HB.out hb)
    clear hb
    clear HOW
    go_wp2_with fail
    refine (IsRoute_any _ N zc zs _ HZ.out hN1 HR.out).mono ?_
    rintro e w5 ⟨rfl, hb⟩
    have HR := hide (rd_step HR.out hb)
    have HRK := hide (rd_step HRK.out hb)
    have HOB := hide (own_step HOB.out hb)
    have HB := hide (bl_step HB.out hb)
    rw [HRB.out]
    clear hb
    go_wp2_with fail
    refine (EndOfRoute_any _ N zc zs _ HZ.out hN1 HR.out).mono ?_
    rintro e w6 ⟨rfl, hb⟩
    have HR := hide (rd_step HR.out hb)
    have HRK := hide (rd_step HRK.out hb)
    have HOB := hide (own_step HOB.out hb)
    have HB := hide (bl_step HB.out hb)
    rw [HE.out, HNN.out, HCC.out, HRB.out]
    clear hb
    go_wp2_with fail
    refine (sEndOfRoute_any _ N zc zs _ HZ.out hN1 HR.out).mono ?_
    rintro e w7 ⟨rfl, hb⟩
    have HR := hide (rd_step HR.out hb)
    have HRK := hide (rd_step HRK.out hb)
    have HOB := hide (own_step HOB.out hb)
    have HB := hide (bl_step HB.out hb)
    rw [HE.out, HNN.out, HCC.out, HRB.out]
    clear hb
    go_wp2_with fail
    refine (WalkOf_any _ N zc zs _ HZ.out hN1 HR.out).mono ?_
    rintro e w8 ⟨rfl, hb⟩
    have HR := hide (rd_step HR.out hb)
    have HRK := hide (rd_step HRK.out hb)
    have HOB := hide (own_step HOB.out hb)
    have HB := hide (bl_step HB.out hb)
    rw [HWK.out, HRB.out]
    clear hb
    go_wp2_with fail
    refine (sWalkOf_any _ N zc zs _ HZ.out hN1 HR.out).mono ?_
    rintro e w9 ⟨rfl, hb⟩
    have HR := hide (rd_step HR.out hb)
    have HRK := hide (rd_step HRK.out hb)
    have HOB := hide (own_step HOB.out hb)
    have HB := hide (bl_step HB.out hb)
    rw [HWK.out, HRB.out]
    clear hb
    go_wp2_with fail
    refine (PlainRoute_any _ N zc zs _ HZ.out hN1 HR.out).mono ?_
    rintro e w10 ⟨vp, rfl, ho, hb⟩
    have HR := hide (rd_step HR.out hb)
    have HRK := hide (rd_step HRK.out hb)
    have HOB := hide (own_step HOB.out hb)
    have HB := hide (bl_step HB.out hb)
    rw [HPB.out]
    rw [← HP.out] at ho
    obtain ⟨ap, cp, rfl, hcp, _, hrb⟩ := own_rd encLg_len ho HP.out.symm
    have HOP := hide ho
    have HRP := hide hrb
    clear ho hrb
    clear hb
    go_wp2_with fail
    refine (sPlainRoute_any _ N zc zs _ HZ.out hN1 HR.out).mono ?_
    rintro e w11 ⟨vq, rfl, ho, hb⟩
    have HR := hide (rd_step HR.out hb)
    have HRK := hide (rd_step HRK.out hb)
    have HRP := hide (rd_step HRP.out hb)
    have HOB := hide (own_step HOB.out hb)
    have HOP := hide (own_step HOP.out hb)
    have HB := hide (bl_step HB.out hb)
    rw [HPB.out]
    rw [← HP.out] at ho
    have HOW := hide ho
    clear ho
    clear hb
    go_wp2_with fail
    refine (vLegs_own _ _ 0 (plV zs) _ HOP.out HOW.out HP.out.symm hP1).mono ?_
    rintro e w12 ⟨rfl, hb⟩
    have HR := hide (rd_step HR.out hb)
    have HRK := hide (rd_step HRK.out hb)
    have HRP := hide (rd_step HRP.out hb)
    have HOB := hide (own_step HOB.out hb)
    have HOP := hide (own_step HOP.out hb)
    have HOW := hide (own_step HOW.out hb)
    have HB := hide (bl_step HB.out hb)
    clear hb
    clear HOW
    go_wp2_with fail
    refine (PlacesOn_any _ N zc zs _ HZ.out hN1 HR.out).mono ?_
    rintro e w13 ⟨vl, rfl, ho, hb⟩
    have HR := hide (rd_step HR.out hb)
    have HRK := hide (rd_step HRK.out hb)
    have HRP := hide (rd_step HRP.out hb)
    have HOB := hide (own_step HOB.out hb)
    have HOP := hide (own_step HOP.out hb)
    have HB := hide (bl_step HB.out hb)
    rw [HRB.out]
    rw [← HL.out] at ho
    obtain ⟨al, cl, rfl, hcl, _, hrb⟩ := own_rd encP_len ho HL.out.symm
    have HOL := hide ho
    have HRL := hide hrb
    clear ho hrb
    clear hb
    go_wp2_with fail
    refine (sPlacesOnC_any _ N zc zs _ HZ.out hN1 HR.out hzc).mono ?_
    rintro e w14 ⟨vm, rfl, ho, hb⟩
    have HR := hide (rd_step HR.out hb)
    have HRK := hide (rd_step HRK.out hb)
    have HRP := hide (rd_step HRP.out hb)
    have HRL := hide (rd_step HRL.out hb)
    have HOB := hide (own_step HOB.out hb)
    have HOP := hide (own_step HOP.out hb)
    have HOL := hide (own_step HOL.out hb)
    have HB := hide (bl_step HB.out hb)
    rw [HRB.out]
    rw [← HL.out] at ho
    have HOW := hide ho
    clear ho
    clear hb
    go_wp2_with fail
    refine (vPairs_own _ _ 0 (plcV zs) _ HOL.out HOW.out HL.out.symm hL1).mono ?_
    rintro e w15 ⟨rfl, hb⟩
    have HR := hide (rd_step HR.out hb)
    have HRK := hide (rd_step HRK.out hb)
    have HRP := hide (rd_step HRP.out hb)
    have HRL := hide (rd_step HRL.out hb)
    have HOB := hide (own_step HOB.out hb)
    have HOP := hide (own_step HOP.out hb)
    have HOL := hide (own_step HOL.out hb)
    have HOW := hide (own_step HOW.out hb)
    have HB := hide (bl_step HB.out hb)
    clear hb
    clear HOW
    go_wp2
    go_ret
    exact ⟨rfl, HB.out⟩
  · have HRB := hide h1
    have h1' : Hid (routeB zs = true) := HRB
    have HWB := hide (wb_same h1)
    have HWR := hide (wb_route h1)
    cases h2 : okPl zs with
    | false =>
      have HPB := hide h2
      clear h1 h2 HK
      go_wp2_with fail
      refine (WayBack_any _ N zc zs _ HZ.out hN1 HR.out).mono ?_
      rintro e w2 ⟨vb, rfl, ho, hb⟩
      have HR := hide (rd_step HR.out hb)
      have HB := hide (bl_step HB.out hb)
      rw [HRB.out]
      rw [← HM.out] at ho
      obtain ⟨ab, cb, rfl, hcb, _, hrb⟩ := own_rd encLg_len ho HM.out.symm
      have HOB := hide ho
      have HRK := hide hrb
      clear ho hrb
      clear hb
      go_wp2_with fail
      refine (sWayBack_any _ N zc zs _ HZ.out hN1 HR.out).mono ?_
      rintro e w3 ⟨vw, rfl, ho, hb⟩
      have HR := hide (rd_step HR.out hb)
      have HRK := hide (rd_step HRK.out hb)
      have HOB := hide (own_step HOB.out hb)
      have HB := hide (bl_step HB.out hb)
      rw [HRB.out]
      rw [← HM.out] at ho
      have HOW := hide ho
      clear ho
      clear hb
      go_wp2_with fail
      refine (vLegs_own _ _ M (wbV zs) _ HOB.out HOW.out HM.out.symm hM1).mono ?_
      rintro e w4 ⟨rfl, hb⟩
      have HR := hide (rd_step HR.out hb)
      have HRK := hide (rd_step HRK.out hb)
      have HOB := hide (own_step HOB.out hb)
      have HOW := hide (own_step HOW.out hb)
      have HB := hide (bl_step HB.out hb)
      clear hb
      clear HOW
      go_wp2_with fail
      refine (IsRoute_any _ N zc zs _ HZ.out hN1 HR.out).mono ?_
      rintro e w5 ⟨rfl, hb⟩
      have HR := hide (rd_step HR.out hb)
      have HRK := hide (rd_step HRK.out hb)
      have HOB := hide (own_step HOB.out hb)
      have HB := hide (bl_step HB.out hb)
      rw [HRB.out]
      clear hb
      go_wp2_with fail
      refine (EndOfRoute_any _ N zc zs _ HZ.out hN1 HR.out).mono ?_
      rintro e w6 ⟨rfl, hb⟩
      have HR := hide (rd_step HR.out hb)
      have HRK := hide (rd_step HRK.out hb)
      have HOB := hide (own_step HOB.out hb)
      have HB := hide (bl_step HB.out hb)
      rw [HE.out, HNN.out, HCC.out, HRB.out]
      clear hb
      go_wp2_with fail
      refine (sEndOfRoute_any _ N zc zs _ HZ.out hN1 HR.out).mono ?_
      rintro e w7 ⟨rfl, hb⟩
      have HR := hide (rd_step HR.out hb)
      have HRK := hide (rd_step HRK.out hb)
      have HOB := hide (own_step HOB.out hb)
      have HB := hide (bl_step HB.out hb)
      rw [HE.out, HNN.out, HCC.out, HRB.out]
      clear hb
      go_wp2_with fail
      refine (WalkOf_any _ N zc zs _ HZ.out hN1 HR.out).mono ?_
      rintro e w8 ⟨rfl, hb⟩
      have HR := hide (rd_step HR.out hb)
      have HRK := hide (rd_step HRK.out hb)
      have HOB := hide (own_step HOB.out hb)
      have HB := hide (bl_step HB.out hb)
      rw [HWK.out, HRB.out]
      clear hb
      go_wp2_with fail
      refine (sWalkOf_any _ N zc zs _ HZ.out hN1 HR.out).mono ?_
      rintro e w9 ⟨rfl, hb⟩
      have HR := hide (rd_step HR.out hb)
      have HRK := hide (rd_step HRK.out hb)
      have HOB := hide (own_step HOB.out hb)
      have HB := hide (bl_step HB.out hb)
      rw [HWK.out, HRB.out]
      clear hb
      go_wp2_with fail
      refine (EndOfRoute_any _ M cb (wbV zs) _ HM.out.symm hM1 HRK.out).mono ?_
      rintro e w10 ⟨rfl, hb⟩
      have HR := hide (rd_step HR.out hb)
      have HRK := hide (rd_step HRK.out hb)
      have HOB := hide (own_step HOB.out hb)
      have HB := hide (bl_step HB.out hb)
      rw [HWB.out.1, HWB.out.2.1, HWB.out.2.2.1, HWR.out, HE.out, HNN.out, HCC.out]
      clear hb
      go_wp2_with fail
      refine (WalkOf_any _ M cb (wbV zs) _ HM.out.symm hM1 HRK.out).mono ?_
      rintro e w11 ⟨rfl, hb⟩
      have HR := hide (rd_step HR.out hb)
      have HRK := hide (rd_step HRK.out hb)
      have HOB := hide (own_step HOB.out hb)
      have HB := hide (bl_step HB.out hb)
      rw [HWB.out.2.2.2, HWR.out, HWK.out]
      clear hb
      go_wp2_with fail
      refine (PlainRoute_any _ N zc zs _ HZ.out hN1 HR.out).mono ?_
      rintro e w12 ⟨vp, rfl, ho, hb⟩
      have HR := hide (rd_step HR.out hb)
      have HRK := hide (rd_step HRK.out hb)
      have HOB := hide (own_step HOB.out hb)
      have HB := hide (bl_step HB.out hb)
      rw [HPB.out]
      rw [← HP.out] at ho
      obtain ⟨ap, cp, rfl, hcp, _, hrb⟩ := own_rd encLg_len ho HP.out.symm
      have HOP := hide ho
      have HRP := hide hrb
      clear ho hrb
      clear hb
      go_wp2_with fail
      refine (sPlainRoute_any _ N zc zs _ HZ.out hN1 HR.out).mono ?_
      rintro e w13 ⟨vq, rfl, ho, hb⟩
      have HR := hide (rd_step HR.out hb)
      have HRK := hide (rd_step HRK.out hb)
      have HRP := hide (rd_step HRP.out hb)
      have HOB := hide (own_step HOB.out hb)
      have HOP := hide (own_step HOP.out hb)
      have HB := hide (bl_step HB.out hb)
      rw [HPB.out]
      rw [← HP.out] at ho
      have HOW := hide ho
      clear ho
      clear hb
      go_wp2_with fail
      refine (vLegs_own _ _ P (plV zs) _ HOP.out HOW.out HP.out.symm hP1).mono ?_
      rintro e w14 ⟨rfl, hb⟩
      have HR := hide (rd_step HR.out hb)
      have HRK := hide (rd_step HRK.out hb)
      have HRP := hide (rd_step HRP.out hb)
      have HOB := hide (own_step HOB.out hb)
      have HOP := hide (own_step HOP.out hb)
      have HOW := hide (own_step HOW.out hb)
      have HB := hide (bl_step HB.out hb)
      clear hb
      clear HOW
      go_wp2_with fail
      refine (PlacesOn_any _ N zc zs _ HZ.out hN1 HR.out).mono ?_
      rintro e w15 ⟨vl, rfl, ho, hb⟩
      have HR := hide (rd_step HR.out hb)
      have HRK := hide (rd_step HRK.out hb)
      have HRP := hide (rd_step HRP.out hb)
      have HOB := hide (own_step HOB.out hb)
      have HOP := hide (own_step HOP.out hb)
      have HB := hide (bl_step HB.out hb)
      rw [HRB.out]
      rw [← HL.out] at ho
      obtain ⟨al, cl, rfl, hcl, _, hrb⟩ := own_rd encP_len ho HL.out.symm
      have HOL := hide ho
      have HRL := hide hrb
      clear ho hrb
      clear hb
      go_wp2_with fail
      refine (sPlacesOnC_any _ N zc zs _ HZ.out hN1 HR.out hzc).mono ?_
      rintro e w16 ⟨vm, rfl, ho, hb⟩
      have HR := hide (rd_step HR.out hb)
      have HRK := hide (rd_step HRK.out hb)
      have HRP := hide (rd_step HRP.out hb)
      have HRL := hide (rd_step HRL.out hb)
      have HOB := hide (own_step HOB.out hb)
      have HOP := hide (own_step HOP.out hb)
      have HOL := hide (own_step HOL.out hb)
      have HB := hide (bl_step HB.out hb)
      rw [HRB.out]
      rw [← HL.out] at ho
      have HOW := hide ho
      clear ho
      clear hb
      go_wp2_with fail
      refine (vPairs_own _ _ L (plcV zs) _ HOL.out HOW.out HL.out.symm hL1).mono ?_
      rintro e w17 ⟨rfl, hb⟩
      have HR := hide (rd_step HR.out hb)
      have HRK := hide (rd_step HRK.out hb)
      have HRP := hide (rd_step HRP.out hb)
      have HRL := hide (rd_step HRL.out hb)
      have HOB := hide (own_step HOB.out hb)
      have HOP := hide (own_step HOP.out hb)
      have HOL := hide (own_step HOL.out hb)
      have HOW := hide (own_step HOW.out hb)
      have HB := hide (bl_step HB.out hb)
      clear hb
      clear HOW
      by_cases hl0 : 0 < L
      · obtain ⟨j, rfl⟩ : ∃ j, L = j + 1 := ⟨L - 1, by omega⟩
        have hx := plc_last HRB.out HL.out.symm
        obtain ⟨b, off, rfl, hbl, hat⟩ := rdP HRL.out (by rw [← HL.out]; omega)
        obtain ⟨q, hq, hqc⟩ := hat j (by rw [← HL.out]; omega)
        obtain rfl : q = (sumOf fE zs, sumOf fN zs) := by rw [hx] at hq; injection hq with hq; exact hq.symm
        obtain ⟨_, c0, c1⟩ := hqc w17 (Below.refl _ _)
        simp only [HE.out, HNN.out] at c0 c1
        clear hx hq hqc hat
        have k1 : ¬ ((j + 1 : Nat) : Int) = 0 := by omega
        have k2 : ((j + 1 : Nat) : Int) - 1 = (j : Int) := by omega
        have k3 : (0 : Int) ≤ ((j + 1 : Nat) : Int) - 1 := by omega
        go_wp2
        go_ret
        exact ⟨rfl, HB.out⟩
      · obtain rfl : L = 0 := by omega
        clear hl0
        go_wp2
        go_ret
        exact ⟨rfl, HB.out⟩
    | true =>
      have HPB := hide h2
      have HPS := hide (pl_same h2)
      have HPR := hide (pl_route h2).2.1
      clear h1 h2 HK
      go_wp2_with fail
      refine (WayBack_any _ N zc zs _ HZ.out hN1 HR.out).mono ?_
      rintro e w2 ⟨vb, rfl, ho, hb⟩
      have HR := hide (rd_step HR.out hb)
      have HB := hide (bl_step HB.out hb)
      rw [HRB.out]
      rw [← HM.out] at ho
      obtain ⟨ab, cb, rfl, hcb, _, hrb⟩ := own_rd encLg_len ho HM.out.symm
      have HOB := hide ho
      have HRK := hide hrb
      clear ho hrb
      clear hb
      go_wp2_with fail
      refine (sWayBack_any _ N zc zs _ HZ.out hN1 HR.out).mono ?_
      rintro e w3 ⟨vw, rfl, ho, hb⟩
      have HR := hide (rd_step HR.out hb)
      have HRK := hide (rd_step HRK.out hb)
      have HOB := hide (own_step HOB.out hb)
      have HB := hide (bl_step HB.out hb)
      rw [HRB.out]
      rw [← HM.out] at ho
      have HOW := hide ho
      clear ho
      clear hb
      go_wp2_with fail
      refine (vLegs_own _ _ M (wbV zs) _ HOB.out HOW.out HM.out.symm hM1).mono ?_
      rintro e w4 ⟨rfl, hb⟩
      have HR := hide (rd_step HR.out hb)
      have HRK := hide (rd_step HRK.out hb)
      have HOB := hide (own_step HOB.out hb)
      have HOW := hide (own_step HOW.out hb)
      have HB := hide (bl_step HB.out hb)
      clear hb
      clear HOW
      go_wp2_with fail
      refine (IsRoute_any _ N zc zs _ HZ.out hN1 HR.out).mono ?_
      rintro e w5 ⟨rfl, hb⟩
      have HR := hide (rd_step HR.out hb)
      have HRK := hide (rd_step HRK.out hb)
      have HOB := hide (own_step HOB.out hb)
      have HB := hide (bl_step HB.out hb)
      rw [HRB.out]
      clear hb
      go_wp2_with fail
      refine (EndOfRoute_any _ N zc zs _ HZ.out hN1 HR.out).mono ?_
      rintro e w6 ⟨rfl, hb⟩
      have HR := hide (rd_step HR.out hb)
      have HRK := hide (rd_step HRK.out hb)
      have HOB := hide (own_step HOB.out hb)
      have HB := hide (bl_step HB.out hb)
      rw [HE.out, HNN.out, HCC.out, HRB.out]
      clear hb
      go_wp2_with fail
      refine (sEndOfRoute_any _ N zc zs _ HZ.out hN1 HR.out).mono ?_
      rintro e w7 ⟨rfl, hb⟩
      have HR := hide (rd_step HR.out hb)
      have HRK := hide (rd_step HRK.out hb)
      have HOB := hide (own_step HOB.out hb)
      have HB := hide (bl_step HB.out hb)
      rw [HE.out, HNN.out, HCC.out, HRB.out]
      clear hb
      go_wp2_with fail
      refine (WalkOf_any _ N zc zs _ HZ.out hN1 HR.out).mono ?_
      rintro e w8 ⟨rfl, hb⟩
      have HR := hide (rd_step HR.out hb)
      have HRK := hide (rd_step HRK.out hb)
      have HOB := hide (own_step HOB.out hb)
      have HB := hide (bl_step HB.out hb)
      rw [HWK.out, HRB.out]
      clear hb
      go_wp2_with fail
      refine (sWalkOf_any _ N zc zs _ HZ.out hN1 HR.out).mono ?_
      rintro e w9 ⟨rfl, hb⟩
      have HR := hide (rd_step HR.out hb)
      have HRK := hide (rd_step HRK.out hb)
      have HOB := hide (own_step HOB.out hb)
      have HB := hide (bl_step HB.out hb)
      rw [HWK.out, HRB.out]
      clear hb
      go_wp2_with fail
      refine (EndOfRoute_any _ M cb (wbV zs) _ HM.out.symm hM1 HRK.out).mono ?_
      rintro e w10 ⟨rfl, hb⟩
      have HR := hide (rd_step HR.out hb)
      have HRK := hide (rd_step HRK.out hb)
      have HOB := hide (own_step HOB.out hb)
      have HB := hide (bl_step HB.out hb)
      rw [HWB.out.1, HWB.out.2.1, HWB.out.2.2.1, HWR.out, HE.out, HNN.out, HCC.out]
      clear hb
      go_wp2_with fail
      refine (WalkOf_any _ M cb (wbV zs) _ HM.out.symm hM1 HRK.out).mono ?_
      rintro e w11 ⟨rfl, hb⟩
      have HR := hide (rd_step HR.out hb)
      have HRK := hide (rd_step HRK.out hb)
      have HOB := hide (own_step HOB.out hb)
      have HB := hide (bl_step HB.out hb)
      rw [HWB.out.2.2.2, HWR.out, HWK.out]
      clear hb
      go_wp2_with fail
      refine (PlainRoute_any _ N zc zs _ HZ.out hN1 HR.out).mono ?_
      rintro e w12 ⟨vp, rfl, ho, hb⟩
      have HR := hide (rd_step HR.out hb)
      have HRK := hide (rd_step HRK.out hb)
      have HOB := hide (own_step HOB.out hb)
      have HB := hide (bl_step HB.out hb)
      rw [HPB.out]
      rw [← HP.out] at ho
      obtain ⟨ap, cp, rfl, hcp, _, hrb⟩ := own_rd encLg_len ho HP.out.symm
      have HOP := hide ho
      have HRP := hide hrb
      clear ho hrb
      clear hb
      go_wp2_with fail
      refine (sPlainRoute_any _ N zc zs _ HZ.out hN1 HR.out).mono ?_
      rintro e w13 ⟨vq, rfl, ho, hb⟩
      have HR := hide (rd_step HR.out hb)
      have HRK := hide (rd_step HRK.out hb)
      have HRP := hide (rd_step HRP.out hb)
      have HOB := hide (own_step HOB.out hb)
      have HOP := hide (own_step HOP.out hb)
      have HB := hide (bl_step HB.out hb)
      rw [HPB.out]
      rw [← HP.out] at ho
      have HOW := hide ho
      clear ho
      clear hb
      go_wp2_with fail
      refine (vLegs_own _ _ P (plV zs) _ HOP.out HOW.out HP.out.symm hP1).mono ?_
      rintro e w14 ⟨rfl, hb⟩
      have HR := hide (rd_step HR.out hb)
      have HRK := hide (rd_step HRK.out hb)
      have HRP := hide (rd_step HRP.out hb)
      have HOB := hide (own_step HOB.out hb)
      have HOP := hide (own_step HOP.out hb)
      have HOW := hide (own_step HOW.out hb)
      have HB := hide (bl_step HB.out hb)
      clear hb
      clear HOW
      go_wp2_with fail
      refine (EndOfRoute_any _ P cp (plV zs) _ HP.out.symm hP1 HRP.out).mono ?_
      rintro e w15 ⟨rfl, hb⟩
      have HR := hide (rd_step HR.out hb)
      have HRK := hide (rd_step HRK.out hb)
      have HRP := hide (rd_step HRP.out hb)
      have HOB := hide (own_step HOB.out hb)
      have HOP := hide (own_step HOP.out hb)
      have HB := hide (bl_step HB.out hb)
      rw [HPS.out.1, HPS.out.2.1, HPS.out.2.2.1, HPR.out, HE.out, HNN.out, HCC.out]
      clear hb
      go_wp2_with fail
      refine (WalkOf_any _ P cp (plV zs) _ HP.out.symm hP1 HRP.out).mono ?_
      rintro e w16 ⟨rfl, hb⟩
      have HR := hide (rd_step HR.out hb)
      have HRK := hide (rd_step HRK.out hb)
      have HRP := hide (rd_step HRP.out hb)
      have HOB := hide (own_step HOB.out hb)
      have HOP := hide (own_step HOP.out hb)
      have HB := hide (bl_step HB.out hb)
      rw [HPS.out.2.2.2, HPR.out, HWK.out]
      clear hb
      go_wp2_with fail
      refine (PlacesOn_any _ N zc zs _ HZ.out hN1 HR.out).mono ?_
      rintro e w17 ⟨vl, rfl, ho, hb⟩
      have HR := hide (rd_step HR.out hb)
      have HRK := hide (rd_step HRK.out hb)
      have HRP := hide (rd_step HRP.out hb)
      have HOB := hide (own_step HOB.out hb)
      have HOP := hide (own_step HOP.out hb)
      have HB := hide (bl_step HB.out hb)
      rw [HRB.out]
      rw [← HL.out] at ho
      obtain ⟨al, cl, rfl, hcl, _, hrb⟩ := own_rd encP_len ho HL.out.symm
      have HOL := hide ho
      have HRL := hide hrb
      clear ho hrb
      clear hb
      go_wp2_with fail
      refine (sPlacesOnC_any _ N zc zs _ HZ.out hN1 HR.out hzc).mono ?_
      rintro e w18 ⟨vm, rfl, ho, hb⟩
      have HR := hide (rd_step HR.out hb)
      have HRK := hide (rd_step HRK.out hb)
      have HRP := hide (rd_step HRP.out hb)
      have HRL := hide (rd_step HRL.out hb)
      have HOB := hide (own_step HOB.out hb)
      have HOP := hide (own_step HOP.out hb)
      have HOL := hide (own_step HOL.out hb)
      have HB := hide (bl_step HB.out hb)
      rw [HRB.out]
      rw [← HL.out] at ho
      have HOW := hide ho
      clear ho
      clear hb
      go_wp2_with fail
      refine (vPairs_own _ _ L (plcV zs) _ HOL.out HOW.out HL.out.symm hL1).mono ?_
      rintro e w19 ⟨rfl, hb⟩
      have HR := hide (rd_step HR.out hb)
      have HRK := hide (rd_step HRK.out hb)
      have HRP := hide (rd_step HRP.out hb)
      have HRL := hide (rd_step HRL.out hb)
      have HOB := hide (own_step HOB.out hb)
      have HOP := hide (own_step HOP.out hb)
      have HOL := hide (own_step HOL.out hb)
      have HOW := hide (own_step HOW.out hb)
      have HB := hide (bl_step HB.out hb)
      clear hb
      clear HOW
      by_cases hl0 : 0 < L
      · obtain ⟨j, rfl⟩ : ∃ j, L = j + 1 := ⟨L - 1, by omega⟩
        have hx := plc_last HRB.out HL.out.symm
        obtain ⟨b, off, rfl, hbl, hat⟩ := rdP HRL.out (by rw [← HL.out]; omega)
        obtain ⟨q, hq, hqc⟩ := hat j (by rw [← HL.out]; omega)
        obtain rfl : q = (sumOf fE zs, sumOf fN zs) := by rw [hx] at hq; injection hq with hq; exact hq.symm
        obtain ⟨_, c0, c1⟩ := hqc w19 (Below.refl _ _)
        simp only [HE.out, HNN.out] at c0 c1
        clear hx hq hqc hat
        have k1 : ¬ ((j + 1 : Nat) : Int) = 0 := by omega
        have k2 : ((j + 1 : Nat) : Int) - 1 = (j : Int) := by omega
        have k3 : (0 : Int) ≤ ((j + 1 : Nat) : Int) - 1 := by omega
        go_wp2
        go_ret
        exact ⟨rfl, HB.out⟩
      · obtain rfl : L = 0 := by omega
        clear hl0
        go_wp2
        go_ret
        exact ⟨rfl, HB.out⟩

end Go.Proofs.Ythcfkihpihgjeaa
