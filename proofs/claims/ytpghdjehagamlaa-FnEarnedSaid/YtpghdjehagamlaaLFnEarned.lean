/- The law FnEarned walked. -/
import Derived.Test.YtpghdjehagamlaaE7
import Derived.Test.YtpghdjehagamlaaE8
import Derived.Test.YtpghdjehagamlaaE1
import Derived.Test.YtpghdjehagamlaaW1
import Derived.Test.YtpghdjehagamlaaRF
import Derived.Test.YtpghdjehagamlaaRG
import Derived.Test.YtpghdjehagamlaaR3
import Derived.Test.YtpghdjehagamlaaR9
import Derived.Test.YtpghdjehagamlaaRA
import Derived.Test.YtpghdjehagamlaaB3M
import Derived.Test.YtpghdjehagamlaaB4
namespace Go.Proofs.Ytpghdjehagamlaa
open Go.RowKit
set_option linter.unusedVariables false
set_option linter.unusedSimpArgs false

set_option maxRecDepth 100000 in
set_option maxHeartbeats 8000000 in
theorem law_FnEarned (ao : Option Addr) (n c : Nat) (w : World) (hn : n ≤ 9223372036854775807) (hnc : n ≤ c) (hby : Bytes w.heap.size w ao n) :
    Calls Try.prog 6 #[.slice ao n c] w fun e w' => e = .returned (.bool true) ∧ Below w.heap.size w w' := by
  have HBIG := hide (rBig_any ao n c w hn)
  by_cases hbig : 65536 < n
  · have hd : decide (65536 < n) = true := by simpa using hbig
    have HD := hide hd
    clear hd
    go_enter Try.func6, Try.ntmps6
    go_wp2_with fail
    refine HBIG.out.mono ?_
    rintro e w1 ⟨rfl, rfl⟩
    rw [HD.out]
    go_wp2
    go_ret
    exact ⟨rfl, Below.refl _ _⟩
  have HD : Hid (decide (65536 < n) = false) := hide (by simpa using hbig)
  have hn6 : n ≤ 65536 := by omega
  have HDR := hide (DrawCopySheet_any ao n c w hn6 hnc hby)
  have HBY := hide hby
  have HB := hide (Below.refl w.heap.size w)
  clear hby hbig
  go_enter Try.func6, Try.ntmps6
  go_wp2_with fail
  refine HBIG.out.mono ?_
  rintro e w' ⟨rfl, rfl⟩
  rw [HD.out]
  go_wp2_with fail
  refine HDR.out.mono ?_
  rintro e w1 ⟨ro, M, mc, rz, zo, N, zc, zs, x, rfl, hrz, hz, hM, hN, hmc, hzc, hrr, hr, hb⟩
  have HB := hide (bl_step HB.out hb)
  have HZR := hide hrz
  have HZS := hide hz
  have HRR := hide hrr
  have HRS := hide hr
  have bR : M ≤ 1048576 := by omega
  have bS : N ≤ 1048576 := by omega
  clear hb hrz hz hrr hr hmc hzc
  obtain ⟨L, hL⟩ : ∃ L, L = (cpV rz zs x).length := ⟨_, rfl⟩
  have bL : L ≤ 1048576 := by have := cp_len (rz := rz) (zs := zs) (x := x); omega
  have HL := hide hL
  clear hL
  obtain ⟨cf, hcf⟩ : ∃ cf, cpF rz zs x = cf := ⟨_, rfl⟩
  have HCF := hide hcf
  clear hcf
  clear HBIG HDR HD
  have HK : Hid (okCopy rz zs x = true ∨ okCopy rz zs x = false) := hide (by cases okCopy rz zs x <;> simp)
  rcases HK.out with k0 | k0
  · obtain ⟨wX, hwX⟩ : ∃ wX, wX = w1.alloc (.cells #[.int .i64 x.s, .int .i64 x.r, .int .i64 x.d, .int .i64 x.p] 34) := ⟨_, rfl⟩
    have hbX : Below w1.heap.size w1 wX := by rw [hwX]; exact (Below.refl _ _).alloc (Nat.le_refl _) _
    have HX : Hid (Blk wX w1.heap.size 34 #[.int .i64 x.s, .int .i64 x.r, .int .i64 x.d, .int .i64 x.p]) := hide (by rw [hwX]; exact Blk.new w1 _ _)
    have HWX := hide hwX
    have HB := hide (bl_step HB.out hbX)
    have HRR := hide (rd_step HRR.out hbX)
    have HRS := hide (rd_step HRS.out hbX)
    clear hbX hwX
    have HK0 := hide k0
    have HC := hide (copy_ok k0)
    obtain ⟨pa, hpa⟩ : ∃ pa, paidV rz zs x.r = pa := ⟨_, rfl⟩
    obtain ⟨ea, hea⟩ : ∃ ea, earnedV rz zs x.s = ea := ⟨_, rfl⟩
    have hp := copy_paid k0
    have he := copy_earned k0
    rw [hpa, HCF.out] at hp
    rw [hea, HCF.out] at he
    have HPA := hide hpa
    have HPB := hide hp.2.2.1
    have HEA := hide hea
    have HEB := hide he.2.2.1
    have kw1 : IntKind.i64.wrap (pa + cf - pa) = cf := by rw [IntWalk.i64_in _ (by omega)]; omega
    have kw2 : IntKind.i64.wrap (ea + cf - ea) = cf := by rw [IntWalk.i64_in _ (by omega)]; omega
    clear hpa hea hp he
    clear k0 HK
    go_wp2_with fail
    rw [← HWX.out]
    refine (CopySheet_any ro M mc rz zo N zc zs x _ HZR.out bR HRR.out HZS.out bS HRS.out).mono ?_
    rintro e w2 ⟨vf, rfl, ho, hb⟩
    have HRR := hide (rd_step HRR.out hb)
    have HRS := hide (rd_step HRS.out hb)
    have HB := hide (bl_step HB.out hb)
    have HX := hide (HX.out.below' hb)
    rw [HCF.out, HK0.out]
    rw [← HL.out] at ho
    obtain ⟨fo, fc, rfl, hfc, _, hrd⟩ := own_rd encCp_len ho HL.out.symm
    have HOF := hide ho
    have HRF := hide hrd
    clear ho hrd
    have e0 := HX.out.cell 0
    have e1 := HX.out.cell 1
    have e2 := HX.out.cell 2
    have e3 := HX.out.cell 3
    simp only [List.getElem?_toArray, List.getElem?_cons_zero, List.getElem?_cons_succ] at e0 e1 e2 e3
    clear hb
    go_wp2_with fail
    refine (sCopySheet_any ro M mc rz zo N zc zs x _ HZR.out bR HRR.out HZS.out bS HRS.out).mono ?_
    rintro e w3 ⟨vg, rfl, ho, hb⟩
    have HRR := hide (rd_step HRR.out hb)
    have HRS := hide (rd_step HRS.out hb)
    have HRF := hide (rd_step HRF.out hb)
    have HOF := hide (own_step HOF.out hb)
    have HB := hide (bl_step HB.out hb)
    clear e0 e1 e2 e3
    have HX := hide (HX.out.below' hb)
    rw [HCF.out, HK0.out]
    rw [← HL.out] at ho
    obtain ⟨go_, gc, rfl, hgc, _, hrd⟩ := own_rd encCp_len ho HL.out.symm
    have HOG := hide ho
    have HRG := hide hrd
    clear ho hrd
    have e0 := HX.out.cell 0
    have e1 := HX.out.cell 1
    have e2 := HX.out.cell 2
    have e3 := HX.out.cell 3
    simp only [List.getElem?_toArray, List.getElem?_cons_zero, List.getElem?_cons_succ] at e0 e1 e2 e3
    clear hb
    go_wp2_with fail
    refine (rCopyings_own _ _ L (cpV rz zs x) _ HOF.out HOG.out HL.out.symm bL).mono ?_
    rintro e w4 ⟨rfl, hb⟩
    have HRR := hide (rd_step HRR.out hb)
    have HRS := hide (rd_step HRS.out hb)
    have HRF := hide (rd_step HRF.out hb)
    have HRG := hide (rd_step HRG.out hb)
    have HOF := hide (own_step HOF.out hb)
    have HOG := hide (own_step HOG.out hb)
    have HB := hide (bl_step HB.out hb)
    clear e0 e1 e2 e3
    have HX := hide (HX.out.below' hb)
    have e0 := HX.out.cell 0
    have e1 := HX.out.cell 1
    have e2 := HX.out.cell 2
    have e3 := HX.out.cell 3
    simp only [List.getElem?_toArray, List.getElem?_cons_zero, List.getElem?_cons_succ] at e0 e1 e2 e3
    clear hb
    clear HOG HRG
    go_wp2_with fail
    refine (PaidBy_any ro M mc rz _ N zc zs x.r _ HZR.out bR HRR.out HZS.out bS HRS.out).mono ?_
    rintro e w5 ⟨rfl, hb⟩
    have HRR := hide (rd_step HRR.out hb)
    have HRS := hide (rd_step HRS.out hb)
    have HRF := hide (rd_step HRF.out hb)
    have HOF := hide (own_step HOF.out hb)
    have HB := hide (bl_step HB.out hb)
    clear e0 e1 e2 e3
    have HX := hide (HX.out.below' hb)
    rw [HPA.out, HC.out.2.2.2.1]
    have e0 := HX.out.cell 0
    have e1 := HX.out.cell 1
    have e2 := HX.out.cell 2
    have e3 := HX.out.cell 3
    simp only [List.getElem?_toArray, List.getElem?_cons_zero, List.getElem?_cons_succ] at e0 e1 e2 e3
    clear hb
    go_wp2_with fail
    refine (PaidBy_any ro M mc rz _ L fc (cpV rz zs x) x.r _ HZR.out bR HRR.out HL.out.symm bL HRF.out).mono ?_
    rintro e w6 ⟨rfl, hb⟩
    have HRR := hide (rd_step HRR.out hb)
    have HRS := hide (rd_step HRS.out hb)
    have HRF := hide (rd_step HRF.out hb)
    have HOF := hide (own_step HOF.out hb)
    have HB := hide (bl_step HB.out hb)
    clear e0 e1 e2 e3
    have HX := hide (HX.out.below' hb)
    rw [HPB.out, HC.out.2.2.2.2.1]
    have e0 := HX.out.cell 0
    have e1 := HX.out.cell 1
    have e2 := HX.out.cell 2
    have e3 := HX.out.cell 3
    simp only [List.getElem?_toArray, List.getElem?_cons_zero, List.getElem?_cons_succ] at e0 e1 e2 e3
    clear hb
    go_wp2_with fail
    refine (EarnedBy_any ro M mc rz _ N zc zs x.s _ HZR.out bR HRR.out HZS.out bS HRS.out).mono ?_
    rintro e w7 ⟨rfl, hb⟩
    have HRR := hide (rd_step HRR.out hb)
    have HRS := hide (rd_step HRS.out hb)
    have HRF := hide (rd_step HRF.out hb)
    have HOF := hide (own_step HOF.out hb)
    have HB := hide (bl_step HB.out hb)
    clear e0 e1 e2 e3
    have HX := hide (HX.out.below' hb)
    rw [HEA.out, HC.out.2.2.2.2.2.1]
    have e0 := HX.out.cell 0
    have e1 := HX.out.cell 1
    have e2 := HX.out.cell 2
    have e3 := HX.out.cell 3
    simp only [List.getElem?_toArray, List.getElem?_cons_zero, List.getElem?_cons_succ] at e0 e1 e2 e3
    clear hb
    go_wp2_with fail
    refine (EarnedBy_any ro M mc rz _ L fc (cpV rz zs x) x.s _ HZR.out bR HRR.out HL.out.symm bL HRF.out).mono ?_
    rintro e w8 ⟨rfl, hb⟩
    have HRR := hide (rd_step HRR.out hb)
    have HRS := hide (rd_step HRS.out hb)
    have HRF := hide (rd_step HRF.out hb)
    have HOF := hide (own_step HOF.out hb)
    have HB := hide (bl_step HB.out hb)
    clear e0 e1 e2 e3
    have HX := hide (HX.out.below' hb)
    rw [HEB.out, HC.out.2.2.2.2.2.2]
    have e0 := HX.out.cell 0
    have e1 := HX.out.cell 1
    have e2 := HX.out.cell 2
    have e3 := HX.out.cell 3
    simp only [List.getElem?_toArray, List.getElem?_cons_zero, List.getElem?_cons_succ] at e0 e1 e2 e3
    clear hb
    have HBY2 := hide (HBY.out.later HB.out)
    go_wp2_with fail
    refine (DrawClosedFor_any ao n c _ hn6 hnc HBY2.out).mono ?_
    rintro e u2 ⟨r2, M2, m2, z2, q2, N2, n2, y2, a2, b2, rfl, hrz, hz, hM2, hN2, hmc2, hzc2, hrr, hr, hb⟩
    have HB := hide (bl_step HB.out hb)
    have HZ2 := hide hrz
    have HY2 := hide hz
    have HR2 := hide hrr
    have HS2 := hide hr
    have b2R : M2 ≤ 1048576 := by omega
    have b2S : N2 ≤ 1048576 := by omega
    clear hb hrz hz hrr hr hmc2 hzc2
    obtain ⟨L2, hL2⟩ : ∃ L2, L2 = (closedV z2 y2 a2 b2).length := ⟨_, rfl⟩
    have bL2 : L2 ≤ 1048576 := by rw [hL2]; exact Nat.le_trans closed_len (by rw [HZ2.out]; exact b2R)
    have HL2 := hide hL2
    clear hL2
    obtain ⟨o2, ho2⟩ : ∃ o2, okTwo z2 y2 a2 b2 = o2 := ⟨_, rfl⟩
    have HO2 := hide ho2
    clear ho2
    have s2 : (o2 == o2) = true := by cases o2 <;> rfl
    have s2b : (o2 != o2) = false := by cases o2 <;> rfl
    go_wp2_with fail
    refine (ClosedFor_any r2 M2 m2 z2 _ N2 n2 y2 a2 b2 _ HZ2.out b2R HR2.out HY2.out b2S HS2.out).mono ?_
    rintro e w9 ⟨v2, rfl, ho, hb⟩
    have HR2 := hide (rd_step HR2.out hb)
    have HS2 := hide (rd_step HS2.out hb)
    have HB := hide (bl_step HB.out hb)
    rw [HO2.out]
    rw [← HL2.out] at ho
    obtain ⟨c2a, c2c, rfl, hc2c, _, hrd⟩ := own_rd encI_len ho HL2.out.symm
    have HOC := hide ho
    have HRC := hide hrd
    clear ho hrd
    clear hb
    go_wp2_with fail
    refine (sClosedFor_any r2 M2 m2 z2 _ N2 n2 y2 a2 b2 _ HZ2.out b2R HR2.out HY2.out b2S HS2.out).mono ?_
    rintro e w10 ⟨v2b, rfl, ho, hb⟩
    have HR2 := hide (rd_step HR2.out hb)
    have HS2 := hide (rd_step HS2.out hb)
    have HRC := hide (rd_step HRC.out hb)
    have HOC := hide (own_step HOC.out hb)
    have HB := hide (bl_step HB.out hb)
    rw [HO2.out]
    rw [← HL2.out] at ho
    obtain ⟨d2a, d2c, rfl, hd2c, _, hrd⟩ := own_rd encI_len ho HL2.out.symm
    have HOD := hide ho
    have HRD := hide hrd
    clear ho hrd
    clear hb
    go_wp2_with fail
    refine (rInts_own _ _ L2 (closedV z2 y2 a2 b2) _ HOC.out HOD.out HL2.out.symm bL2).mono ?_
    rintro e w11 ⟨rfl, hb⟩
    have HR2 := hide (rd_step HR2.out hb)
    have HS2 := hide (rd_step HS2.out hb)
    have HRC := hide (rd_step HRC.out hb)
    have HRD := hide (rd_step HRD.out hb)
    have HOC := hide (own_step HOC.out hb)
    have HOD := hide (own_step HOD.out hb)
    have HB := hide (bl_step HB.out hb)
    clear hb
    clear HOD HRD
    go_wp2
    go_loopg [28] L2 (fun gk i wr => ∃ k : Nat, k ≤ L2 ∧ L2 - k ≤ gk ∧ i = .int .i64 k ∧ Aside (Below w11.heap.size w11 wr))
    case atStart => exact ⟨0, Nat.zero_le _, by omega, rfl, Below.refl _ _⟩
    case round =>
      obtain ⟨k, hk, hgk, rfl, BW⟩ := hrel
      by_cases hlt : k < L2
      · have hlti : (k : Int) < (L2 : Int) := by omega
        have hk0 : (0 : Int) ≤ (k : Int) := by omega
        obtain ⟨b, off, rfl, hb1, hat⟩ := rdI HRC.out (by rw [← HL2.out]; omega)
        obtain ⟨s, hs, hsc⟩ := hat k (by rw [← HL2.out]; exact hlt)
        obtain ⟨hbr, c0⟩ := hsc wr BW.out
        have HCZ := hide (closed_zero (List.mem_of_getElem? hs))
        clear hs hsc hat
        go_wp2_with fail
        refine (PartLeft_any r2 M2 m2 z2 _ N2 n2 y2 s a2 b2 _ HZ2.out b2R (rd_step HR2.out BW.out) HY2.out b2S (rd_step HS2.out BW.out)).mono ?_
        rintro e u9 ⟨rfl, hb⟩
        rw [HCZ.out.1, HCZ.out.2]
        have BW2 := hide (bl_step BW.out hb)
        clear hb c0
        go_wp2
        go_roundg (L2 - (k + 1))
        case measure => omega
        case rel => exact ⟨k + 1, by omega, by omega, by go_num, BW2.out⟩
      · have hlti : ¬ (k : Int) < (L2 : Int) := by omega
        have HB := hide (bl_step HB.out BW.out)
        clear BW
        have HBY3 := hide (HBY.out.later HB.out)
        go_wp2_with fail
        refine (DrawExtendRight_any ao n c _ hn6 hnc HBY3.out).mono ?_
        rintro e u3 ⟨r3, M3, m3, z3, q3, N3, n3, y3, a3, b3, rfl, hrz, hz, hM3, hN3, hmc3, hzc3, hrr, hr, hb⟩
        have HB := hide (bl_step HB.out hb)
        have HZ3 := hide hrz
        have HY3 := hide hz
        have HR3 := hide hrr
        have HS3 := hide hr
        have b3R : M3 ≤ 1048576 := by omega
        have b3S : N3 ≤ 1048576 := by omega
        clear hb hrz hz hrr hr hmc3 hzc3
        obtain ⟨L3, hL3⟩ : ∃ L3, L3 = (extV z3 y3 a3 b3).length := ⟨_, rfl⟩
        have bL3 : L3 ≤ 1048576 := by rw [hL3]; exact Nat.le_trans ext_len (by rw [HZ3.out]; exact b3R)
        have HL3 := hide hL3
        clear hL3
        have HX3 : Hid (okExt z3 y3 a3 b3 = false ∨ (okExt z3 y3 a3 b3 = true ∧ okSD (extV z3 y3 a3 b3) a3 b3 = true ∧ freeV (extV z3 y3 a3 b3) a3 b3 = false)) := hide (by
          cases hk : okExt z3 y3 a3 b3 with
          | false => exact .inl rfl
          | true =>
            obtain ⟨h1, h2⟩ := ext_free hk
            exact .inr ⟨rfl, h1, by unfold freeV; rw [h1]; exact h2⟩)
        rcases HX3.out with x3 | ⟨x3, x4, x5⟩
        · have HE3 := hide x3
          clear x3 HX3
          go_wp2_with fail
          refine (ExtendRightO_any r3 M3 m3 z3 _ N3 n3 y3 a3 b3 _ HZ3.out b3R HR3.out HY3.out b3S HS3.out).mono ?_
          rintro e w12 ⟨v3, rfl, ho, hb⟩
          have HR3 := hide (rd_step HR3.out hb)
          have HS3 := hide (rd_step HS3.out hb)
          have HB := hide (bl_step HB.out hb)
          rw [HE3.out]
          rw [← HL3.out] at ho
          obtain ⟨e3a, e3c, rfl, he3c, _, hrd⟩ := own_rd encRt_len ho HL3.out.symm
          have HOG := hide ho
          have HRG := hide hrd
          clear ho hrd
          clear hb
          go_wp2_with fail
          refine (sExtendRightO_any r3 M3 m3 z3 _ N3 n3 y3 a3 b3 _ HZ3.out b3R HR3.out HY3.out b3S HS3.out).mono ?_
          rintro e w13 ⟨v3b, rfl, ho, hb⟩
          have HR3 := hide (rd_step HR3.out hb)
          have HS3 := hide (rd_step HS3.out hb)
          have HRG := hide (rd_step HRG.out hb)
          have HOG := hide (own_step HOG.out hb)
          have HB := hide (bl_step HB.out hb)
          rw [HE3.out]
          rw [← HL3.out] at ho
          obtain ⟨f3a, f3c, rfl, hf3c, _, hrd⟩ := own_rd encRt_len ho HL3.out.symm
          have HOH := hide ho
          have HRH := hide hrd
          clear ho hrd
          clear hb
          go_wp2_with fail
          refine (rRights_own _ _ L3 (extV z3 y3 a3 b3) _ HOG.out HOH.out HL3.out.symm bL3).mono ?_
          rintro e w14 ⟨rfl, hb⟩
          have HR3 := hide (rd_step HR3.out hb)
          have HS3 := hide (rd_step HS3.out hb)
          have HRG := hide (rd_step HRG.out hb)
          have HRH := hide (rd_step HRH.out hb)
          have HOG := hide (own_step HOG.out hb)
          have HOH := hide (own_step HOH.out hb)
          have HB := hide (bl_step HB.out hb)
          clear hb
          clear HOH HRH
          have HBY4 := hide (HBY.out.later HB.out)
          go_wp2_with fail
          refine (DrawBestEarners_any ao n c _ hn6 hnc HBY4.out).mono ?_
          rintro e u4 ⟨r4, M4, m4, z4, q4, N4, n4, y4, a4, rfl, hrz, hz, hM4, hN4, hmc4, hzc4, hrr, hr, hb⟩
          have HB := hide (bl_step HB.out hb)
          have HZ4 := hide hrz
          have HY4 := hide hz
          have HR4 := hide hrr
          have HS4 := hide hr
          have b4R : M4 ≤ 1048576 := by omega
          have b4S : N4 ≤ 1048576 := by omega
          clear hb hrz hz hrr hr hmc4 hzc4
          obtain ⟨L4, hL4⟩ : ∃ L4, L4 = (bestV z4 y4 a4).length := ⟨_, rfl⟩
          have bL4 : L4 ≤ 1048576 := by rw [hL4]; exact Nat.le_trans best_len (by rw [HZ4.out]; exact b4R)
          have HL4 := hide hL4
          clear hL4
          obtain ⟨o4, ho4⟩ : ∃ o4, okBest z4 y4 a4 = o4 := ⟨_, rfl⟩
          have HO4 := hide ho4
          clear ho4
          go_wp2_with fail
          refine (BestEarners_any r4 M4 m4 z4 _ N4 n4 y4 a4 _ HZ4.out b4R HR4.out HY4.out b4S HS4.out).mono ?_
          rintro e w15 ⟨v4, rfl, ho, hb⟩
          have HR4 := hide (rd_step HR4.out hb)
          have HS4 := hide (rd_step HS4.out hb)
          have HB := hide (bl_step HB.out hb)
          rw [HO4.out]
          rw [← HL4.out] at ho
          obtain ⟨e4a, e4c, rfl, he4c, _, hrd⟩ := own_rd encI_len ho HL4.out.symm
          have HOE := hide ho
          have HRE := hide hrd
          clear ho hrd
          clear hb
          go_wp2_with fail
          refine (sBestEarners_any r4 M4 m4 z4 _ N4 n4 y4 a4 _ HZ4.out b4R HR4.out HY4.out b4S HS4.out).mono ?_
          rintro e w16 ⟨v5, rfl, ho, hb⟩
          have HR4 := hide (rd_step HR4.out hb)
          have HS4 := hide (rd_step HS4.out hb)
          have HRE := hide (rd_step HRE.out hb)
          have HOE := hide (own_step HOE.out hb)
          have HB := hide (bl_step HB.out hb)
          rw [HO4.out]
          rw [← HL4.out] at ho
          obtain ⟨f4a, f4c, rfl, hf4c, _, hrd⟩ := own_rd encI_len ho HL4.out.symm
          have HOF := hide ho
          have HRF := hide hrd
          clear ho hrd
          clear hb
          have HBY5 := hide (HBY.out.later HB.out)
          go_wp2_with fail
          refine (DrawPaidBy_any ao n c _ hn6 hnc HBY5.out).mono ?_
          rintro e u5 ⟨r5, M5, m5, z5, q5, N5, n5, y5, a5, rfl, hrz, hz, hM5, hN5, hmc5, hzc5, hrr, hr, hb⟩
          have HB := hide (bl_step HB.out hb)
          have HOE := hide (own_step HOE.out hb)
          have HOF := hide (own_step HOF.out hb)
          have HZ5 := hide hrz
          have HY5 := hide hz
          have HR5 := hide hrr
          have HS5 := hide hr
          have b5R : M5 ≤ 1048576 := by omega
          have b5S : N5 ≤ 1048576 := by omega
          clear hb hrz hz hrr hr hmc5 hzc5
          obtain ⟨o5, ho5⟩ : ∃ o5, okOne z5 y5 a5 = o5 := ⟨_, rfl⟩
          obtain ⟨p5, hp5⟩ : ∃ p5, paidV z5 y5 a5 = p5 := ⟨_, rfl⟩
          have HO5 := hide ho5
          have HP5 := hide hp5
          clear ho5 hp5
          go_wp2_with fail
          refine (PaidBy_any r5 M5 m5 z5 _ N5 n5 y5 a5 _ HZ5.out b5R HR5.out HY5.out b5S HS5.out).mono ?_
          rintro e w17 ⟨rfl, hb⟩
          have HR5 := hide (rd_step HR5.out hb)
          have HS5 := hide (rd_step HS5.out hb)
          have HOE := hide (own_step HOE.out hb)
          have HOF := hide (own_step HOF.out hb)
          have HB := hide (bl_step HB.out hb)
          rw [HP5.out, HO5.out]
          clear hb
          go_wp2_with fail
          refine (sPaidBy_any r5 M5 m5 z5 _ N5 n5 y5 a5 _ HZ5.out b5R HR5.out HY5.out b5S HS5.out).mono ?_
          rintro e w18 ⟨rfl, hb⟩
          have HR5 := hide (rd_step HR5.out hb)
          have HS5 := hide (rd_step HS5.out hb)
          have HOE := hide (own_step HOE.out hb)
          have HOF := hide (own_step HOF.out hb)
          have HB := hide (bl_step HB.out hb)
          rw [HP5.out, HO5.out]
          clear hb
          have s4 : (o4 == o4) = true := by cases o4 <;> rfl
          have s5 : (o5 == o5) = true := by cases o5 <;> rfl
          go_wp2_with fail
          refine (rInts_own _ _ L4 (bestV z4 y4 a4) _ HOE.out HOF.out HL4.out.symm bL4).mono ?_
          rintro e w19 ⟨rfl, hb⟩
          have HR5 := hide (rd_step HR5.out hb)
          have HS5 := hide (rd_step HS5.out hb)
          have HOE := hide (own_step HOE.out hb)
          have HOF := hide (own_step HOF.out hb)
          have HB := hide (bl_step HB.out hb)
          clear hb
          go_wp2
          go_ret
          exact ⟨rfl, HB.out⟩
        · have HE3 := hide x3
          have HE4 := hide x4
          have HE5 := hide x5
          clear x4 x5
          clear x3 HX3
          go_wp2_with fail
          refine (ExtendRightO_any r3 M3 m3 z3 _ N3 n3 y3 a3 b3 _ HZ3.out b3R HR3.out HY3.out b3S HS3.out).mono ?_
          rintro e w12 ⟨v3, rfl, ho, hb⟩
          have HR3 := hide (rd_step HR3.out hb)
          have HS3 := hide (rd_step HS3.out hb)
          have HB := hide (bl_step HB.out hb)
          rw [HE3.out]
          rw [← HL3.out] at ho
          obtain ⟨e3a, e3c, rfl, he3c, _, hrd⟩ := own_rd encRt_len ho HL3.out.symm
          have HOG := hide ho
          have HRG := hide hrd
          clear ho hrd
          clear hb
          go_wp2_with fail
          refine (sExtendRightO_any r3 M3 m3 z3 _ N3 n3 y3 a3 b3 _ HZ3.out b3R HR3.out HY3.out b3S HS3.out).mono ?_
          rintro e w13 ⟨v3b, rfl, ho, hb⟩
          have HR3 := hide (rd_step HR3.out hb)
          have HS3 := hide (rd_step HS3.out hb)
          have HRG := hide (rd_step HRG.out hb)
          have HOG := hide (own_step HOG.out hb)
          have HB := hide (bl_step HB.out hb)
          rw [HE3.out]
          rw [← HL3.out] at ho
          obtain ⟨f3a, f3c, rfl, hf3c, _, hrd⟩ := own_rd encRt_len ho HL3.out.symm
          have HOH := hide ho
          have HRH := hide hrd
          clear ho hrd
          clear hb
          go_wp2_with fail
          refine (rRights_own _ _ L3 (extV z3 y3 a3 b3) _ HOG.out HOH.out HL3.out.symm bL3).mono ?_
          rintro e w14 ⟨rfl, hb⟩
          have HR3 := hide (rd_step HR3.out hb)
          have HS3 := hide (rd_step HS3.out hb)
          have HRG := hide (rd_step HRG.out hb)
          have HRH := hide (rd_step HRH.out hb)
          have HOG := hide (own_step HOG.out hb)
          have HOH := hide (own_step HOH.out hb)
          have HB := hide (bl_step HB.out hb)
          clear hb
          clear HOH HRH
          go_wp2_with fail
          refine (IsFree_any e3a L3 e3c (extV z3 y3 a3 b3) a3 b3 _ HL3.out.symm bL3 HRG.out).mono ?_
          rintro e w15 ⟨rfl, hb⟩
          have HR3 := hide (rd_step HR3.out hb)
          have HS3 := hide (rd_step HS3.out hb)
          have HRG := hide (rd_step HRG.out hb)
          have HOG := hide (own_step HOG.out hb)
          have HB := hide (bl_step HB.out hb)
          rw [HE4.out, HE5.out]
          clear hb
          have HBY4 := hide (HBY.out.later HB.out)
          go_wp2_with fail
          refine (DrawBestEarners_any ao n c _ hn6 hnc HBY4.out).mono ?_
          rintro e u4 ⟨r4, M4, m4, z4, q4, N4, n4, y4, a4, rfl, hrz, hz, hM4, hN4, hmc4, hzc4, hrr, hr, hb⟩
          have HB := hide (bl_step HB.out hb)
          have HZ4 := hide hrz
          have HY4 := hide hz
          have HR4 := hide hrr
          have HS4 := hide hr
          have b4R : M4 ≤ 1048576 := by omega
          have b4S : N4 ≤ 1048576 := by omega
          clear hb hrz hz hrr hr hmc4 hzc4
          obtain ⟨L4, hL4⟩ : ∃ L4, L4 = (bestV z4 y4 a4).length := ⟨_, rfl⟩
          have bL4 : L4 ≤ 1048576 := by rw [hL4]; exact Nat.le_trans best_len (by rw [HZ4.out]; exact b4R)
          have HL4 := hide hL4
          clear hL4
          obtain ⟨o4, ho4⟩ : ∃ o4, okBest z4 y4 a4 = o4 := ⟨_, rfl⟩
          have HO4 := hide ho4
          clear ho4
          go_wp2_with fail
          refine (BestEarners_any r4 M4 m4 z4 _ N4 n4 y4 a4 _ HZ4.out b4R HR4.out HY4.out b4S HS4.out).mono ?_
          rintro e w16 ⟨v4, rfl, ho, hb⟩
          have HR4 := hide (rd_step HR4.out hb)
          have HS4 := hide (rd_step HS4.out hb)
          have HB := hide (bl_step HB.out hb)
          rw [HO4.out]
          rw [← HL4.out] at ho
          obtain ⟨e4a, e4c, rfl, he4c, _, hrd⟩ := own_rd encI_len ho HL4.out.symm
          have HOE := hide ho
          have HRE := hide hrd
          clear ho hrd
          clear hb
          go_wp2_with fail
          refine (sBestEarners_any r4 M4 m4 z4 _ N4 n4 y4 a4 _ HZ4.out b4R HR4.out HY4.out b4S HS4.out).mono ?_
          rintro e w17 ⟨v5, rfl, ho, hb⟩
          have HR4 := hide (rd_step HR4.out hb)
          have HS4 := hide (rd_step HS4.out hb)
          have HRE := hide (rd_step HRE.out hb)
          have HOE := hide (own_step HOE.out hb)
          have HB := hide (bl_step HB.out hb)
          rw [HO4.out]
          rw [← HL4.out] at ho
          obtain ⟨f4a, f4c, rfl, hf4c, _, hrd⟩ := own_rd encI_len ho HL4.out.symm
          have HOF := hide ho
          have HRF := hide hrd
          clear ho hrd
          clear hb
          have HBY5 := hide (HBY.out.later HB.out)
          go_wp2_with fail
          refine (DrawPaidBy_any ao n c _ hn6 hnc HBY5.out).mono ?_
          rintro e u5 ⟨r5, M5, m5, z5, q5, N5, n5, y5, a5, rfl, hrz, hz, hM5, hN5, hmc5, hzc5, hrr, hr, hb⟩
          have HB := hide (bl_step HB.out hb)
          have HOE := hide (own_step HOE.out hb)
          have HOF := hide (own_step HOF.out hb)
          have HZ5 := hide hrz
          have HY5 := hide hz
          have HR5 := hide hrr
          have HS5 := hide hr
          have b5R : M5 ≤ 1048576 := by omega
          have b5S : N5 ≤ 1048576 := by omega
          clear hb hrz hz hrr hr hmc5 hzc5
          obtain ⟨o5, ho5⟩ : ∃ o5, okOne z5 y5 a5 = o5 := ⟨_, rfl⟩
          obtain ⟨p5, hp5⟩ : ∃ p5, paidV z5 y5 a5 = p5 := ⟨_, rfl⟩
          have HO5 := hide ho5
          have HP5 := hide hp5
          clear ho5 hp5
          go_wp2_with fail
          refine (PaidBy_any r5 M5 m5 z5 _ N5 n5 y5 a5 _ HZ5.out b5R HR5.out HY5.out b5S HS5.out).mono ?_
          rintro e w18 ⟨rfl, hb⟩
          have HR5 := hide (rd_step HR5.out hb)
          have HS5 := hide (rd_step HS5.out hb)
          have HOE := hide (own_step HOE.out hb)
          have HOF := hide (own_step HOF.out hb)
          have HB := hide (bl_step HB.out hb)
          rw [HP5.out, HO5.out]
          clear hb
          go_wp2_with fail
          refine (sPaidBy_any r5 M5 m5 z5 _ N5 n5 y5 a5 _ HZ5.out b5R HR5.out HY5.out b5S HS5.out).mono ?_
          rintro e w19 ⟨rfl, hb⟩
          have HR5 := hide (rd_step HR5.out hb)
          have HS5 := hide (rd_step HS5.out hb)
          have HOE := hide (own_step HOE.out hb)
          have HOF := hide (own_step HOF.out hb)
          have HB := hide (bl_step HB.out hb)
          rw [HP5.out, HO5.out]
          clear hb
          have s4 : (o4 == o4) = true := by cases o4 <;> rfl
          have s5 : (o5 == o5) = true := by cases o5 <;> rfl
          go_wp2_with fail
          refine (rInts_own _ _ L4 (bestV z4 y4 a4) _ HOE.out HOF.out HL4.out.symm bL4).mono ?_
          rintro e w20 ⟨rfl, hb⟩
          have HR5 := hide (rd_step HR5.out hb)
          have HS5 := hide (rd_step HS5.out hb)
          have HOE := hide (own_step HOE.out hb)
          have HOF := hide (own_step HOF.out hb)
          have HB := hide (bl_step HB.out hb)
          clear hb
          go_wp2
          go_ret
          exact ⟨rfl, HB.out⟩
  · obtain ⟨wX, hwX⟩ : ∃ wX, wX = w1.alloc (.cells #[.int .i64 x.s, .int .i64 x.r, .int .i64 x.d, .int .i64 x.p] 34) := ⟨_, rfl⟩
    have hbX : Below w1.heap.size w1 wX := by rw [hwX]; exact (Below.refl _ _).alloc (Nat.le_refl _) _
    have HX : Hid (Blk wX w1.heap.size 34 #[.int .i64 x.s, .int .i64 x.r, .int .i64 x.d, .int .i64 x.p]) := hide (by rw [hwX]; exact Blk.new w1 _ _)
    have HWX := hide hwX
    have HB := hide (bl_step HB.out hbX)
    have HRR := hide (rd_step HRR.out hbX)
    have HRS := hide (rd_step HRS.out hbX)
    clear hbX hwX
    have HK0 := hide k0
    clear k0 HK
    go_wp2_with fail
    rw [← HWX.out]
    refine (CopySheet_any ro M mc rz zo N zc zs x _ HZR.out bR HRR.out HZS.out bS HRS.out).mono ?_
    rintro e w2 ⟨vf, rfl, ho, hb⟩
    have HRR := hide (rd_step HRR.out hb)
    have HRS := hide (rd_step HRS.out hb)
    have HB := hide (bl_step HB.out hb)
    have HX := hide (HX.out.below' hb)
    rw [HCF.out, HK0.out]
    rw [← HL.out] at ho
    obtain ⟨fo, fc, rfl, hfc, _, hrd⟩ := own_rd encCp_len ho HL.out.symm
    have HOF := hide ho
    have HRF := hide hrd
    clear ho hrd
    have e0 := HX.out.cell 0
    have e1 := HX.out.cell 1
    have e2 := HX.out.cell 2
    have e3 := HX.out.cell 3
    simp only [List.getElem?_toArray, List.getElem?_cons_zero, List.getElem?_cons_succ] at e0 e1 e2 e3
    clear hb
    go_wp2_with fail
    refine (sCopySheet_any ro M mc rz zo N zc zs x _ HZR.out bR HRR.out HZS.out bS HRS.out).mono ?_
    rintro e w3 ⟨vg, rfl, ho, hb⟩
    have HRR := hide (rd_step HRR.out hb)
    have HRS := hide (rd_step HRS.out hb)
    have HRF := hide (rd_step HRF.out hb)
    have HOF := hide (own_step HOF.out hb)
    have HB := hide (bl_step HB.out hb)
    clear e0 e1 e2 e3
    have HX := hide (HX.out.below' hb)
    rw [HCF.out, HK0.out]
    rw [← HL.out] at ho
    obtain ⟨go_, gc, rfl, hgc, _, hrd⟩ := own_rd encCp_len ho HL.out.symm
    have HOG := hide ho
    have HRG := hide hrd
    clear ho hrd
    have e0 := HX.out.cell 0
    have e1 := HX.out.cell 1
    have e2 := HX.out.cell 2
    have e3 := HX.out.cell 3
    simp only [List.getElem?_toArray, List.getElem?_cons_zero, List.getElem?_cons_succ] at e0 e1 e2 e3
    clear hb
    go_wp2_with fail
    refine (rCopyings_own _ _ L (cpV rz zs x) _ HOF.out HOG.out HL.out.symm bL).mono ?_
    rintro e w4 ⟨rfl, hb⟩
    have HRR := hide (rd_step HRR.out hb)
    have HRS := hide (rd_step HRS.out hb)
    have HRF := hide (rd_step HRF.out hb)
    have HRG := hide (rd_step HRG.out hb)
    have HOF := hide (own_step HOF.out hb)
    have HOG := hide (own_step HOG.out hb)
    have HB := hide (bl_step HB.out hb)
    clear e0 e1 e2 e3
    have HX := hide (HX.out.below' hb)
    have e0 := HX.out.cell 0
    have e1 := HX.out.cell 1
    have e2 := HX.out.cell 2
    have e3 := HX.out.cell 3
    simp only [List.getElem?_toArray, List.getElem?_cons_zero, List.getElem?_cons_succ] at e0 e1 e2 e3
    clear hb
    clear HOG HRG
    have HBY2 := hide (HBY.out.later HB.out)
    go_wp2_with fail
    refine (DrawClosedFor_any ao n c _ hn6 hnc HBY2.out).mono ?_
    rintro e u2 ⟨r2, M2, m2, z2, q2, N2, n2, y2, a2, b2, rfl, hrz, hz, hM2, hN2, hmc2, hzc2, hrr, hr, hb⟩
    have HB := hide (bl_step HB.out hb)
    have HZ2 := hide hrz
    have HY2 := hide hz
    have HR2 := hide hrr
    have HS2 := hide hr
    have b2R : M2 ≤ 1048576 := by omega
    have b2S : N2 ≤ 1048576 := by omega
    clear hb hrz hz hrr hr hmc2 hzc2
    obtain ⟨L2, hL2⟩ : ∃ L2, L2 = (closedV z2 y2 a2 b2).length := ⟨_, rfl⟩
    have bL2 : L2 ≤ 1048576 := by rw [hL2]; exact Nat.le_trans closed_len (by rw [HZ2.out]; exact b2R)
    have HL2 := hide hL2
    clear hL2
    obtain ⟨o2, ho2⟩ : ∃ o2, okTwo z2 y2 a2 b2 = o2 := ⟨_, rfl⟩
    have HO2 := hide ho2
    clear ho2
    have s2 : (o2 == o2) = true := by cases o2 <;> rfl
    have s2b : (o2 != o2) = false := by cases o2 <;> rfl
    go_wp2_with fail
    refine (ClosedFor_any r2 M2 m2 z2 _ N2 n2 y2 a2 b2 _ HZ2.out b2R HR2.out HY2.out b2S HS2.out).mono ?_
    rintro e w5 ⟨v2, rfl, ho, hb⟩
    have HR2 := hide (rd_step HR2.out hb)
    have HS2 := hide (rd_step HS2.out hb)
    have HB := hide (bl_step HB.out hb)
    rw [HO2.out]
    rw [← HL2.out] at ho
    obtain ⟨c2a, c2c, rfl, hc2c, _, hrd⟩ := own_rd encI_len ho HL2.out.symm
    have HOC := hide ho
    have HRC := hide hrd
    clear ho hrd
    clear hb
    go_wp2_with fail
    refine (sClosedFor_any r2 M2 m2 z2 _ N2 n2 y2 a2 b2 _ HZ2.out b2R HR2.out HY2.out b2S HS2.out).mono ?_
    rintro e w6 ⟨v2b, rfl, ho, hb⟩
    have HR2 := hide (rd_step HR2.out hb)
    have HS2 := hide (rd_step HS2.out hb)
    have HRC := hide (rd_step HRC.out hb)
    have HOC := hide (own_step HOC.out hb)
    have HB := hide (bl_step HB.out hb)
    rw [HO2.out]
    rw [← HL2.out] at ho
    obtain ⟨d2a, d2c, rfl, hd2c, _, hrd⟩ := own_rd encI_len ho HL2.out.symm
    have HOD := hide ho
    have HRD := hide hrd
    clear ho hrd
    clear hb
    go_wp2_with fail
    refine (rInts_own _ _ L2 (closedV z2 y2 a2 b2) _ HOC.out HOD.out HL2.out.symm bL2).mono ?_
    rintro e w7 ⟨rfl, hb⟩
    have HR2 := hide (rd_step HR2.out hb)
    have HS2 := hide (rd_step HS2.out hb)
    have HRC := hide (rd_step HRC.out hb)
    have HRD := hide (rd_step HRD.out hb)
    have HOC := hide (own_step HOC.out hb)
    have HOD := hide (own_step HOD.out hb)
    have HB := hide (bl_step HB.out hb)
    clear hb
    clear HOD HRD
    go_wp2
    go_loopg [28] L2 (fun gk i wr => ∃ k : Nat, k ≤ L2 ∧ L2 - k ≤ gk ∧ i = .int .i64 k ∧ Aside (Below w7.heap.size w7 wr))
    case atStart => exact ⟨0, Nat.zero_le _, by omega, rfl, Below.refl _ _⟩
    case round =>
      obtain ⟨k, hk, hgk, rfl, BW⟩ := hrel
      by_cases hlt : k < L2
      · have hlti : (k : Int) < (L2 : Int) := by omega
        have hk0 : (0 : Int) ≤ (k : Int) := by omega
        obtain ⟨b, off, rfl, hb1, hat⟩ := rdI HRC.out (by rw [← HL2.out]; omega)
        obtain ⟨s, hs, hsc⟩ := hat k (by rw [← HL2.out]; exact hlt)
        obtain ⟨hbr, c0⟩ := hsc wr BW.out
        have HCZ := hide (closed_zero (List.mem_of_getElem? hs))
        clear hs hsc hat
        go_wp2_with fail
        refine (PartLeft_any r2 M2 m2 z2 _ N2 n2 y2 s a2 b2 _ HZ2.out b2R (rd_step HR2.out BW.out) HY2.out b2S (rd_step HS2.out BW.out)).mono ?_
        rintro e u9 ⟨rfl, hb⟩
        rw [HCZ.out.1, HCZ.out.2]
        have BW2 := hide (bl_step BW.out hb)
        clear hb c0
        go_wp2
        go_roundg (L2 - (k + 1))
        case measure => omega
        case rel => exact ⟨k + 1, by omega, by omega, by go_num, BW2.out⟩
      · have hlti : ¬ (k : Int) < (L2 : Int) := by omega
        have HB := hide (bl_step HB.out BW.out)
        clear BW
        have HBY3 := hide (HBY.out.later HB.out)
        go_wp2_with fail
        refine (DrawExtendRight_any ao n c _ hn6 hnc HBY3.out).mono ?_
        rintro e u3 ⟨r3, M3, m3, z3, q3, N3, n3, y3, a3, b3, rfl, hrz, hz, hM3, hN3, hmc3, hzc3, hrr, hr, hb⟩
        have HB := hide (bl_step HB.out hb)
        have HZ3 := hide hrz
        have HY3 := hide hz
        have HR3 := hide hrr
        have HS3 := hide hr
        have b3R : M3 ≤ 1048576 := by omega
        have b3S : N3 ≤ 1048576 := by omega
        clear hb hrz hz hrr hr hmc3 hzc3
        obtain ⟨L3, hL3⟩ : ∃ L3, L3 = (extV z3 y3 a3 b3).length := ⟨_, rfl⟩
        have bL3 : L3 ≤ 1048576 := by rw [hL3]; exact Nat.le_trans ext_len (by rw [HZ3.out]; exact b3R)
        have HL3 := hide hL3
        clear hL3
        have HX3 : Hid (okExt z3 y3 a3 b3 = false ∨ (okExt z3 y3 a3 b3 = true ∧ okSD (extV z3 y3 a3 b3) a3 b3 = true ∧ freeV (extV z3 y3 a3 b3) a3 b3 = false)) := hide (by
          cases hk : okExt z3 y3 a3 b3 with
          | false => exact .inl rfl
          | true =>
            obtain ⟨h1, h2⟩ := ext_free hk
            exact .inr ⟨rfl, h1, by unfold freeV; rw [h1]; exact h2⟩)
        rcases HX3.out with x3 | ⟨x3, x4, x5⟩
        · have HE3 := hide x3
          clear x3 HX3
          go_wp2_with fail
          refine (ExtendRightO_any r3 M3 m3 z3 _ N3 n3 y3 a3 b3 _ HZ3.out b3R HR3.out HY3.out b3S HS3.out).mono ?_
          rintro e w8 ⟨v3, rfl, ho, hb⟩
          have HR3 := hide (rd_step HR3.out hb)
          have HS3 := hide (rd_step HS3.out hb)
          have HB := hide (bl_step HB.out hb)
          rw [HE3.out]
          rw [← HL3.out] at ho
          obtain ⟨e3a, e3c, rfl, he3c, _, hrd⟩ := own_rd encRt_len ho HL3.out.symm
          have HOG := hide ho
          have HRG := hide hrd
          clear ho hrd
          clear hb
          go_wp2_with fail
          refine (sExtendRightO_any r3 M3 m3 z3 _ N3 n3 y3 a3 b3 _ HZ3.out b3R HR3.out HY3.out b3S HS3.out).mono ?_
          rintro e w9 ⟨v3b, rfl, ho, hb⟩
          have HR3 := hide (rd_step HR3.out hb)
          have HS3 := hide (rd_step HS3.out hb)
          have HRG := hide (rd_step HRG.out hb)
          have HOG := hide (own_step HOG.out hb)
          have HB := hide (bl_step HB.out hb)
          rw [HE3.out]
          rw [← HL3.out] at ho
          obtain ⟨f3a, f3c, rfl, hf3c, _, hrd⟩ := own_rd encRt_len ho HL3.out.symm
          have HOH := hide ho
          have HRH := hide hrd
          clear ho hrd
          clear hb
          go_wp2_with fail
          refine (rRights_own _ _ L3 (extV z3 y3 a3 b3) _ HOG.out HOH.out HL3.out.symm bL3).mono ?_
          rintro e w10 ⟨rfl, hb⟩
          have HR3 := hide (rd_step HR3.out hb)
          have HS3 := hide (rd_step HS3.out hb)
          have HRG := hide (rd_step HRG.out hb)
          have HRH := hide (rd_step HRH.out hb)
          have HOG := hide (own_step HOG.out hb)
          have HOH := hide (own_step HOH.out hb)
          have HB := hide (bl_step HB.out hb)
          clear hb
          clear HOH HRH
          have HBY4 := hide (HBY.out.later HB.out)
          go_wp2_with fail
          refine (DrawBestEarners_any ao n c _ hn6 hnc HBY4.out).mono ?_
          rintro e u4 ⟨r4, M4, m4, z4, q4, N4, n4, y4, a4, rfl, hrz, hz, hM4, hN4, hmc4, hzc4, hrr, hr, hb⟩
          have HB := hide (bl_step HB.out hb)
          have HZ4 := hide hrz
          have HY4 := hide hz
          have HR4 := hide hrr
          have HS4 := hide hr
          have b4R : M4 ≤ 1048576 := by omega
          have b4S : N4 ≤ 1048576 := by omega
          clear hb hrz hz hrr hr hmc4 hzc4
          obtain ⟨L4, hL4⟩ : ∃ L4, L4 = (bestV z4 y4 a4).length := ⟨_, rfl⟩
          have bL4 : L4 ≤ 1048576 := by rw [hL4]; exact Nat.le_trans best_len (by rw [HZ4.out]; exact b4R)
          have HL4 := hide hL4
          clear hL4
          obtain ⟨o4, ho4⟩ : ∃ o4, okBest z4 y4 a4 = o4 := ⟨_, rfl⟩
          have HO4 := hide ho4
          clear ho4
          go_wp2_with fail
          refine (BestEarners_any r4 M4 m4 z4 _ N4 n4 y4 a4 _ HZ4.out b4R HR4.out HY4.out b4S HS4.out).mono ?_
          rintro e w11 ⟨v4, rfl, ho, hb⟩
          have HR4 := hide (rd_step HR4.out hb)
          have HS4 := hide (rd_step HS4.out hb)
          have HB := hide (bl_step HB.out hb)
          rw [HO4.out]
          rw [← HL4.out] at ho
          obtain ⟨e4a, e4c, rfl, he4c, _, hrd⟩ := own_rd encI_len ho HL4.out.symm
          have HOE := hide ho
          have HRE := hide hrd
          clear ho hrd
          clear hb
          go_wp2_with fail
          refine (sBestEarners_any r4 M4 m4 z4 _ N4 n4 y4 a4 _ HZ4.out b4R HR4.out HY4.out b4S HS4.out).mono ?_
          rintro e w12 ⟨v5, rfl, ho, hb⟩
          have HR4 := hide (rd_step HR4.out hb)
          have HS4 := hide (rd_step HS4.out hb)
          have HRE := hide (rd_step HRE.out hb)
          have HOE := hide (own_step HOE.out hb)
          have HB := hide (bl_step HB.out hb)
          rw [HO4.out]
          rw [← HL4.out] at ho
          obtain ⟨f4a, f4c, rfl, hf4c, _, hrd⟩ := own_rd encI_len ho HL4.out.symm
          have HOF := hide ho
          have HRF := hide hrd
          clear ho hrd
          clear hb
          have HBY5 := hide (HBY.out.later HB.out)
          go_wp2_with fail
          refine (DrawPaidBy_any ao n c _ hn6 hnc HBY5.out).mono ?_
          rintro e u5 ⟨r5, M5, m5, z5, q5, N5, n5, y5, a5, rfl, hrz, hz, hM5, hN5, hmc5, hzc5, hrr, hr, hb⟩
          have HB := hide (bl_step HB.out hb)
          have HOE := hide (own_step HOE.out hb)
          have HOF := hide (own_step HOF.out hb)
          have HZ5 := hide hrz
          have HY5 := hide hz
          have HR5 := hide hrr
          have HS5 := hide hr
          have b5R : M5 ≤ 1048576 := by omega
          have b5S : N5 ≤ 1048576 := by omega
          clear hb hrz hz hrr hr hmc5 hzc5
          obtain ⟨o5, ho5⟩ : ∃ o5, okOne z5 y5 a5 = o5 := ⟨_, rfl⟩
          obtain ⟨p5, hp5⟩ : ∃ p5, paidV z5 y5 a5 = p5 := ⟨_, rfl⟩
          have HO5 := hide ho5
          have HP5 := hide hp5
          clear ho5 hp5
          go_wp2_with fail
          refine (PaidBy_any r5 M5 m5 z5 _ N5 n5 y5 a5 _ HZ5.out b5R HR5.out HY5.out b5S HS5.out).mono ?_
          rintro e w13 ⟨rfl, hb⟩
          have HR5 := hide (rd_step HR5.out hb)
          have HS5 := hide (rd_step HS5.out hb)
          have HOE := hide (own_step HOE.out hb)
          have HOF := hide (own_step HOF.out hb)
          have HB := hide (bl_step HB.out hb)
          rw [HP5.out, HO5.out]
          clear hb
          go_wp2_with fail
          refine (sPaidBy_any r5 M5 m5 z5 _ N5 n5 y5 a5 _ HZ5.out b5R HR5.out HY5.out b5S HS5.out).mono ?_
          rintro e w14 ⟨rfl, hb⟩
          have HR5 := hide (rd_step HR5.out hb)
          have HS5 := hide (rd_step HS5.out hb)
          have HOE := hide (own_step HOE.out hb)
          have HOF := hide (own_step HOF.out hb)
          have HB := hide (bl_step HB.out hb)
          rw [HP5.out, HO5.out]
          clear hb
          have s4 : (o4 == o4) = true := by cases o4 <;> rfl
          have s5 : (o5 == o5) = true := by cases o5 <;> rfl
          go_wp2_with fail
          refine (rInts_own _ _ L4 (bestV z4 y4 a4) _ HOE.out HOF.out HL4.out.symm bL4).mono ?_
          rintro e w15 ⟨rfl, hb⟩
          have HR5 := hide (rd_step HR5.out hb)
          have HS5 := hide (rd_step HS5.out hb)
          have HOE := hide (own_step HOE.out hb)
          have HOF := hide (own_step HOF.out hb)
          have HB := hide (bl_step HB.out hb)
          clear hb
          go_wp2
          go_ret
          exact ⟨rfl, HB.out⟩
        · have HE3 := hide x3
          have HE4 := hide x4
          have HE5 := hide x5
          clear x4 x5
          clear x3 HX3
          go_wp2_with fail
          refine (ExtendRightO_any r3 M3 m3 z3 _ N3 n3 y3 a3 b3 _ HZ3.out b3R HR3.out HY3.out b3S HS3.out).mono ?_
          rintro e w8 ⟨v3, rfl, ho, hb⟩
          have HR3 := hide (rd_step HR3.out hb)
          have HS3 := hide (rd_step HS3.out hb)
          have HB := hide (bl_step HB.out hb)
          rw [HE3.out]
          rw [← HL3.out] at ho
          obtain ⟨e3a, e3c, rfl, he3c, _, hrd⟩ := own_rd encRt_len ho HL3.out.symm
          have HOG := hide ho
          have HRG := hide hrd
          clear ho hrd
          clear hb
          go_wp2_with fail
          refine (sExtendRightO_any r3 M3 m3 z3 _ N3 n3 y3 a3 b3 _ HZ3.out b3R HR3.out HY3.out b3S HS3.out).mono ?_
          rintro e w9 ⟨v3b, rfl, ho, hb⟩
          have HR3 := hide (rd_step HR3.out hb)
          have HS3 := hide (rd_step HS3.out hb)
          have HRG := hide (rd_step HRG.out hb)
          have HOG := hide (own_step HOG.out hb)
          have HB := hide (bl_step HB.out hb)
          rw [HE3.out]
          rw [← HL3.out] at ho
          obtain ⟨f3a, f3c, rfl, hf3c, _, hrd⟩ := own_rd encRt_len ho HL3.out.symm
          have HOH := hide ho
          have HRH := hide hrd
          clear ho hrd
          clear hb
          go_wp2_with fail
          refine (rRights_own _ _ L3 (extV z3 y3 a3 b3) _ HOG.out HOH.out HL3.out.symm bL3).mono ?_
          rintro e w10 ⟨rfl, hb⟩
          have HR3 := hide (rd_step HR3.out hb)
          have HS3 := hide (rd_step HS3.out hb)
          have HRG := hide (rd_step HRG.out hb)
          have HRH := hide (rd_step HRH.out hb)
          have HOG := hide (own_step HOG.out hb)
          have HOH := hide (own_step HOH.out hb)
          have HB := hide (bl_step HB.out hb)
          clear hb
          clear HOH HRH
          go_wp2_with fail
          refine (IsFree_any e3a L3 e3c (extV z3 y3 a3 b3) a3 b3 _ HL3.out.symm bL3 HRG.out).mono ?_
          rintro e w11 ⟨rfl, hb⟩
          have HR3 := hide (rd_step HR3.out hb)
          have HS3 := hide (rd_step HS3.out hb)
          have HRG := hide (rd_step HRG.out hb)
          have HOG := hide (own_step HOG.out hb)
          have HB := hide (bl_step HB.out hb)
          rw [HE4.out, HE5.out]
          clear hb
          have HBY4 := hide (HBY.out.later HB.out)
          go_wp2_with fail
          refine (DrawBestEarners_any ao n c _ hn6 hnc HBY4.out).mono ?_
          rintro e u4 ⟨r4, M4, m4, z4, q4, N4, n4, y4, a4, rfl, hrz, hz, hM4, hN4, hmc4, hzc4, hrr, hr, hb⟩
          have HB := hide (bl_step HB.out hb)
          have HZ4 := hide hrz
          have HY4 := hide hz
          have HR4 := hide hrr
          have HS4 := hide hr
          have b4R : M4 ≤ 1048576 := by omega
          have b4S : N4 ≤ 1048576 := by omega
          clear hb hrz hz hrr hr hmc4 hzc4
          obtain ⟨L4, hL4⟩ : ∃ L4, L4 = (bestV z4 y4 a4).length := ⟨_, rfl⟩
          have bL4 : L4 ≤ 1048576 := by rw [hL4]; exact Nat.le_trans best_len (by rw [HZ4.out]; exact b4R)
          have HL4 := hide hL4
          clear hL4
          obtain ⟨o4, ho4⟩ : ∃ o4, okBest z4 y4 a4 = o4 := ⟨_, rfl⟩
          have HO4 := hide ho4
          clear ho4
          go_wp2_with fail
          refine (BestEarners_any r4 M4 m4 z4 _ N4 n4 y4 a4 _ HZ4.out b4R HR4.out HY4.out b4S HS4.out).mono ?_
          rintro e w12 ⟨v4, rfl, ho, hb⟩
          have HR4 := hide (rd_step HR4.out hb)
          have HS4 := hide (rd_step HS4.out hb)
          have HB := hide (bl_step HB.out hb)
          rw [HO4.out]
          rw [← HL4.out] at ho
          obtain ⟨e4a, e4c, rfl, he4c, _, hrd⟩ := own_rd encI_len ho HL4.out.symm
          have HOE := hide ho
          have HRE := hide hrd
          clear ho hrd
          clear hb
          go_wp2_with fail
          refine (sBestEarners_any r4 M4 m4 z4 _ N4 n4 y4 a4 _ HZ4.out b4R HR4.out HY4.out b4S HS4.out).mono ?_
          rintro e w13 ⟨v5, rfl, ho, hb⟩
          have HR4 := hide (rd_step HR4.out hb)
          have HS4 := hide (rd_step HS4.out hb)
          have HRE := hide (rd_step HRE.out hb)
          have HOE := hide (own_step HOE.out hb)
          have HB := hide (bl_step HB.out hb)
          rw [HO4.out]
          rw [← HL4.out] at ho
          obtain ⟨f4a, f4c, rfl, hf4c, _, hrd⟩ := own_rd encI_len ho HL4.out.symm
          have HOF := hide ho
          have HRF := hide hrd
          clear ho hrd
          clear hb
          have HBY5 := hide (HBY.out.later HB.out)
          go_wp2_with fail
          refine (DrawPaidBy_any ao n c _ hn6 hnc HBY5.out).mono ?_
          rintro e u5 ⟨r5, M5, m5, z5, q5, N5, n5, y5, a5, rfl, hrz, hz, hM5, hN5, hmc5, hzc5, hrr, hr, hb⟩
          have HB := hide (bl_step HB.out hb)
          have HOE := hide (own_step HOE.out hb)
          have HOF := hide (own_step HOF.out hb)
          have HZ5 := hide hrz
          have HY5 := hide hz
          have HR5 := hide hrr
          have HS5 := hide hr
          have b5R : M5 ≤ 1048576 := by omega
          have b5S : N5 ≤ 1048576 := by omega
          clear hb hrz hz hrr hr hmc5 hzc5
          obtain ⟨o5, ho5⟩ : ∃ o5, okOne z5 y5 a5 = o5 := ⟨_, rfl⟩
          obtain ⟨p5, hp5⟩ : ∃ p5, paidV z5 y5 a5 = p5 := ⟨_, rfl⟩
          have HO5 := hide ho5
          have HP5 := hide hp5
          clear ho5 hp5
          go_wp2_with fail
          refine (PaidBy_any r5 M5 m5 z5 _ N5 n5 y5 a5 _ HZ5.out b5R HR5.out HY5.out b5S HS5.out).mono ?_
          rintro e w14 ⟨rfl, hb⟩
          have HR5 := hide (rd_step HR5.out hb)
          have HS5 := hide (rd_step HS5.out hb)
          have HOE := hide (own_step HOE.out hb)
          have HOF := hide (own_step HOF.out hb)
          have HB := hide (bl_step HB.out hb)
          rw [HP5.out, HO5.out]
          clear hb
          go_wp2_with fail
          refine (sPaidBy_any r5 M5 m5 z5 _ N5 n5 y5 a5 _ HZ5.out b5R HR5.out HY5.out b5S HS5.out).mono ?_
          rintro e w15 ⟨rfl, hb⟩
          have HR5 := hide (rd_step HR5.out hb)
          have HS5 := hide (rd_step HS5.out hb)
          have HOE := hide (own_step HOE.out hb)
          have HOF := hide (own_step HOF.out hb)
          have HB := hide (bl_step HB.out hb)
          rw [HP5.out, HO5.out]
          clear hb
          have s4 : (o4 == o4) = true := by cases o4 <;> rfl
          have s5 : (o5 == o5) = true := by cases o5 <;> rfl
          go_wp2_with fail
          refine (rInts_own _ _ L4 (bestV z4 y4 a4) _ HOE.out HOF.out HL4.out.symm bL4).mono ?_
          rintro e w16 ⟨rfl, hb⟩
          have HR5 := hide (rd_step HR5.out hb)
          have HS5 := hide (rd_step HS5.out hb)
          have HOE := hide (own_step HOE.out hb)
          have HOF := hide (own_step HOF.out hb)
          have HB := hide (bl_step HB.out hb)
          clear hb
          go_wp2
          go_ret
          exact ⟨rfl, HB.out⟩

end Go.Proofs.Ytpghdjehagamlaa
