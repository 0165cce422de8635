/- The law FnRights walked. -/
import Derived.Test.YtpghdjehagamlaaE6
import Derived.Test.YtpghdjehagamlaaE1
import Derived.Test.YtpghdjehagamlaaW1
import Derived.Test.YtpghdjehagamlaaRF
import Derived.Test.YtpghdjehagamlaaRG
import Derived.Test.YtpghdjehagamlaaR3
import Derived.Test.YtpghdjehagamlaaR7
import Derived.Test.YtpghdjehagamlaaR9
import Derived.Test.YtpghdjehagamlaaR1
namespace Go.Proofs.Ytpghdjehagamlaa
open Go.RowKit
set_option linter.unusedVariables false
set_option linter.unusedSimpArgs false

set_option maxRecDepth 100000 in
set_option maxHeartbeats 8000000 in
theorem law_FnRights (ao : Option Addr) (n c : Nat) (w : World) (hn : n ≤ 9223372036854775807) (hnc : n ≤ c) (hby : Bytes w.heap.size w ao n) :
    Calls Try.prog 4 #[.slice ao n c] w fun e w' => e = .returned (.bool true) ∧ Below w.heap.size w w' := by
  have HBIG := hide (rBig_any ao n c w hn)
  by_cases hbig : 65536 < n
  · have hd : decide (65536 < n) = true := by simpa using hbig
    have HD := hide hd
    clear hd
    go_enter Try.func4, Try.ntmps4
    go_wp2_with fail
    refine HBIG.out.mono ?_
    rintro e w1 ⟨rfl, rfl⟩
    rw [HD.out]
    go_wp2
    go_ret
    exact ⟨rfl, Below.refl _ _⟩
  have HD : Hid (decide (65536 < n) = false) := hide (by simpa using hbig)
  have hn6 : n ≤ 65536 := by omega
  have HDR := hide (DrawCopySheet_any ao n c w hn6 hnc hby)
  have HBY := hide hby
  have HB := hide (Below.refl w.heap.size w)
  clear hby hbig
  go_enter Try.func4, Try.ntmps4
  go_wp2_with fail
  refine HBIG.out.mono ?_
  rintro e w' ⟨rfl, rfl⟩
  rw [HD.out]
  go_wp2_with fail
  refine HDR.out.mono ?_
  rintro e w1 ⟨ro, M, mc, rz, zo, N, zc, zs, x, rfl, hrz, hz, hM, hN, hmc, hzc, hrr, hr, hb⟩
  have HB := hide (bl_step HB.out hb)
  have HZR := hide hrz
  have HZS := hide hz
  have HRR := hide hrr
  have HRS := hide hr
  have bR : M ≤ 1048576 := by omega
  have bS : N ≤ 1048576 := by omega
  clear hb hrz hz hrr hr hmc hzc
  obtain ⟨L, hL⟩ : ∃ L, L = (cpV rz zs x).length := ⟨_, rfl⟩
  have bL : L ≤ 1048576 := by have := cp_len (rz := rz) (zs := zs) (x := x); omega
  have HL := hide hL
  clear hL
  clear HBIG HDR HD
  have HK : Hid ((okCopy rz zs x = true ∧ freeR rz x.s x.d = true ∧ partV rz zs x.s x.r x.d = 100 ∧ partV rz (cpV rz zs x) x.s x.r x.d = 100 ∧ cpF rz zs x = 0 ∧ freeV rz x.s x.d = true) ∨ (okCopy rz zs x = true ∧ freeR rz x.s x.d = false ∧ -10000 ≤ partV rz zs x.s x.r x.d ∧ partV rz zs x.s x.r x.d ≤ 10000 ∧ partV rz zs x.s x.r x.d = partV rz (cpV rz zs x) x.s x.r x.d + x.p ∧ 1 ≤ x.p ∧ x.p ≤ 100 ∧ freeV rz x.s x.d = false) ∨ okCopy rz zs x = false) := hide (by
    cases hk : okCopy rz zs x with
    | false => exact .inr (.inr rfl)
    | true =>
      have h3 := (copy_ok hk).2.2.1
      have hf : freeV rz x.s x.d = freeR rz x.s x.d := by unfold freeV; rw [h3]; rfl
      rcases copy_left hk with ⟨a, b, c, d⟩ | ⟨a, b, c, d, e, f⟩
      · exact .inl ⟨rfl, a, b, c, d, hf.trans a⟩
      · exact .inr (.inl ⟨rfl, a, b, c, d, e, f, hf.trans a⟩))
  rcases HK.out with ⟨k0, k1, k2, k3, k4, k5⟩ | ⟨k0, k1, k2, k3, k4, k5, k6, k7⟩ | k0
  · obtain ⟨wX, hwX⟩ : ∃ wX, wX = w1.alloc (.cells #[.int .i64 x.s, .int .i64 x.r, .int .i64 x.d, .int .i64 x.p] 34) := ⟨_, rfl⟩
    have hbX : Below w1.heap.size w1 wX := by rw [hwX]; exact (Below.refl _ _).alloc (Nat.le_refl _) _
    have HX : Hid (Blk wX w1.heap.size 34 #[.int .i64 x.s, .int .i64 x.r, .int .i64 x.d, .int .i64 x.p]) := hide (by rw [hwX]; exact Blk.new w1 _ _)
    have HWX := hide hwX
    have HB := hide (bl_step HB.out hbX)
    have HRR := hide (rd_step HRR.out hbX)
    have HRS := hide (rd_step HRS.out hbX)
    clear hbX hwX
    have HK0 := hide k0
    have HC := hide (copy_ok k0)
    have HK1 := hide k5
    
    have HP1 := hide k2
    have HP2 := hide k3
    have HCF := hide k4
    clear k1 k2 k3 k4 k5
    clear k0 HK
    go_wp2_with fail
    rw [← HWX.out]
    refine (CopySheet_any ro M mc rz zo N zc zs x _ HZR.out bR HRR.out HZS.out bS HRS.out).mono ?_
    rintro e w2 ⟨vf, rfl, ho, hb⟩
    have HRR := hide (rd_step HRR.out hb)
    have HRS := hide (rd_step HRS.out hb)
    have HB := hide (bl_step HB.out hb)
    have HX := hide (HX.out.below' hb)
    rw [HCF.out, HK0.out]
    rw [← HL.out] at ho
    obtain ⟨fo, fc, rfl, hfc, _, hrd⟩ := own_rd encCp_len ho HL.out.symm
    have HOF := hide ho
    have HRF := hide hrd
    clear ho hrd
    have e0 := HX.out.cell 0
    have e1 := HX.out.cell 1
    have e2 := HX.out.cell 2
    have e3 := HX.out.cell 3
    simp only [List.getElem?_toArray, List.getElem?_cons_zero, List.getElem?_cons_succ] at e0 e1 e2 e3
    clear hb
    go_wp2_with fail
    refine (sCopySheet_any ro M mc rz zo N zc zs x _ HZR.out bR HRR.out HZS.out bS HRS.out).mono ?_
    rintro e w3 ⟨vg, rfl, ho, hb⟩
    have HRR := hide (rd_step HRR.out hb)
    have HRS := hide (rd_step HRS.out hb)
    have HRF := hide (rd_step HRF.out hb)
    have HOF := hide (own_step HOF.out hb)
    have HB := hide (bl_step HB.out hb)
    clear e0 e1 e2 e3
    have HX := hide (HX.out.below' hb)
    rw [HCF.out, HK0.out]
    rw [← HL.out] at ho
    obtain ⟨go_, gc, rfl, hgc, _, hrd⟩ := own_rd encCp_len ho HL.out.symm
    have HOG := hide ho
    have HRG := hide hrd
    clear ho hrd
    have e0 := HX.out.cell 0
    have e1 := HX.out.cell 1
    have e2 := HX.out.cell 2
    have e3 := HX.out.cell 3
    simp only [List.getElem?_toArray, List.getElem?_cons_zero, List.getElem?_cons_succ] at e0 e1 e2 e3
    clear hb
    go_wp2_with fail
    refine (rCopyings_own _ _ L (cpV rz zs x) _ HOF.out HOG.out HL.out.symm bL).mono ?_
    rintro e w4 ⟨rfl, hb⟩
    have HRR := hide (rd_step HRR.out hb)
    have HRS := hide (rd_step HRS.out hb)
    have HRF := hide (rd_step HRF.out hb)
    have HRG := hide (rd_step HRG.out hb)
    have HOF := hide (own_step HOF.out hb)
    have HOG := hide (own_step HOG.out hb)
    have HB := hide (bl_step HB.out hb)
    clear e0 e1 e2 e3
    have HX := hide (HX.out.below' hb)
    have e0 := HX.out.cell 0
    have e1 := HX.out.cell 1
    have e2 := HX.out.cell 2
    have e3 := HX.out.cell 3
    simp only [List.getElem?_toArray, List.getElem?_cons_zero, List.getElem?_cons_succ] at e0 e1 e2 e3
    clear hb
    clear HOG HRG
    go_wp2_with fail
    refine (PartLeft_any ro M mc rz _ N zc zs x.s x.r x.d _ HZR.out bR HRR.out HZS.out bS HRS.out).mono ?_
    rintro e w5 ⟨rfl, hb⟩
    have HRR := hide (rd_step HRR.out hb)
    have HRS := hide (rd_step HRS.out hb)
    have HRF := hide (rd_step HRF.out hb)
    have HOF := hide (own_step HOF.out hb)
    have HB := hide (bl_step HB.out hb)
    clear e0 e1 e2 e3
    have HX := hide (HX.out.below' hb)
    rw [HP1.out, HC.out.1]
    have e0 := HX.out.cell 0
    have e1 := HX.out.cell 1
    have e2 := HX.out.cell 2
    have e3 := HX.out.cell 3
    simp only [List.getElem?_toArray, List.getElem?_cons_zero, List.getElem?_cons_succ] at e0 e1 e2 e3
    clear hb
    go_wp2_with fail
    refine (PartLeft_any ro M mc rz _ L fc (cpV rz zs x) x.s x.r x.d _ HZR.out bR HRR.out HL.out.symm bL HRF.out).mono ?_
    rintro e w6 ⟨rfl, hb⟩
    have HRR := hide (rd_step HRR.out hb)
    have HRS := hide (rd_step HRS.out hb)
    have HRF := hide (rd_step HRF.out hb)
    have HOF := hide (own_step HOF.out hb)
    have HB := hide (bl_step HB.out hb)
    clear e0 e1 e2 e3
    have HX := hide (HX.out.below' hb)
    rw [HP2.out, HC.out.2.1]
    have e0 := HX.out.cell 0
    have e1 := HX.out.cell 1
    have e2 := HX.out.cell 2
    have e3 := HX.out.cell 3
    simp only [List.getElem?_toArray, List.getElem?_cons_zero, List.getElem?_cons_succ] at e0 e1 e2 e3
    clear hb
    go_wp2_with fail
    refine (IsFree_any ro M mc rz x.s x.d _ HZR.out bR HRR.out).mono ?_
    rintro e w7 ⟨rfl, hb⟩
    have HRR := hide (rd_step HRR.out hb)
    have HRS := hide (rd_step HRS.out hb)
    have HRF := hide (rd_step HRF.out hb)
    have HOF := hide (own_step HOF.out hb)
    have HB := hide (bl_step HB.out hb)
    clear e0 e1 e2 e3
    have HX := hide (HX.out.below' hb)
    rw [HK1.out, HC.out.2.2.1]
    have e0 := HX.out.cell 0
    have e1 := HX.out.cell 1
    have e2 := HX.out.cell 2
    have e3 := HX.out.cell 3
    simp only [List.getElem?_toArray, List.getElem?_cons_zero, List.getElem?_cons_succ] at e0 e1 e2 e3
    clear hb
    have HBY2 := hide (HBY.out.later HB.out)
    go_wp2_with fail
    refine (DrawFreeFrom_any ao n c _ hn6 hnc HBY2.out).mono ?_
    rintro e u1 ⟨r2, M2, m2, z2, a2, rfl, hrz, hM2, hrr, hb⟩
    have HB := hide (bl_step HB.out hb)
    have HZ2 := hide hrz
    have HR2 := hide hrr
    have b2R : M2 ≤ 1048576 := by omega
    clear hb hrz hrr
    obtain ⟨fv, hfv⟩ : ∃ fv, fromV z2 a2 = fv := ⟨_, rfl⟩
    have HFV := hide hfv
    have HF : Hid ((fromOk z2 a2 = true ∧ okSD z2 a2 fv = true ∧ freeV z2 a2 fv = true ∧ 0 < fv ∧ fv ≤ 4000 ∧ okSD z2 a2 (fv - 1) = true ∧ freeV z2 a2 (fv - 1) = false) ∨ (fromOk z2 a2 = true ∧ okSD z2 a2 fv = true ∧ freeV z2 a2 fv = true ∧ fv = 0) ∨ fromOk z2 a2 = false) := hide (by
      cases hk : fromOk z2 a2 with
      | false => exact .inr (.inr rfl)
      | true =>
        obtain ⟨h1, h2, h3, h4, h5⟩ := from_free hk
        rw [hfv] at h1 h2 h3 h4 h5
        have e1 : freeV z2 a2 fv = true := by unfold freeV; rw [h1]; exact h2
        by_cases h0 : 0 < fv
        · obtain ⟨h6, h7⟩ := h5 h0
          exact .inl ⟨rfl, h1, e1, h0, h4, h6, by unfold freeV; rw [h6]; exact h7⟩
        · exact .inr (.inl ⟨rfl, h1, e1, by omega⟩))
    clear hfv
    rcases HF.out with ⟨m0, m1, m2', m3', m4, m5, m6⟩ | ⟨m0, m1, m2', rfl⟩ | m0
    · have HM0 := hide m0
      have HM1 := hide m1
      have HM2 := hide m2'
      clear m1 m2'
      have HM5 := hide m5
      have HM6 := hide m6
      have m7 : IntKind.i64.wrap (fv - 1) = fv - 1 := IntWalk.i64_in _ (by omega)
      clear m5 m6
      clear m0 HF
      go_wp2_with fail
      refine (FreeFrom_any r2 M2 m2 z2 a2 _ HZ2.out b2R HR2.out).mono ?_
      rintro e w28 ⟨rfl, hb⟩
      have HR2 := hide (rd_step HR2.out hb)
      have HB := hide (bl_step HB.out hb)
      rw [HFV.out, HM0.out]
      clear hb
      go_wp2_with fail
      refine (sFreeFrom_any r2 M2 m2 z2 a2 _ HZ2.out b2R HR2.out).mono ?_
      rintro e w29 ⟨rfl, hb⟩
      have HR2 := hide (rd_step HR2.out hb)
      have HB := hide (bl_step HB.out hb)
      rw [HFV.out, HM0.out]
      clear hb
      go_wp2_with fail
      refine (IsFree_any r2 M2 m2 z2 a2 _ _ HZ2.out b2R HR2.out).mono ?_
      rintro e w30 ⟨rfl, hb⟩
      have HR2 := hide (rd_step HR2.out hb)
      have HB := hide (bl_step HB.out hb)
      rw [HM1.out, HM2.out]
      clear hb
      go_wp2_with fail
      refine (IsFree_any r2 M2 m2 z2 a2 (fv - 1) _ HZ2.out b2R HR2.out).mono ?_
      rintro e w31 ⟨rfl, hb⟩
      have HR2 := hide (rd_step HR2.out hb)
      have HB := hide (bl_step HB.out hb)
      rw [HM5.out, HM6.out]
      clear hb
      have HBY3 := hide (HBY.out.later HB.out)
      go_wp2_with fail
      refine (DrawPartLeft_any ao n c _ hn6 hnc HBY3.out).mono ?_
      rintro e u3 ⟨r3, M3, m3, z3, q3, N3, n3, y3, a3, b3, d3, rfl, hrz, hz, hM3, hN3, hmc3, hzc3, hrr, hr, hb⟩
      have HB := hide (bl_step HB.out hb)
      have HR2 := hide (rd_step HR2.out hb)
      have HZ3 := hide hrz
      have HY3 := hide hz
      have HR3 := hide hrr
      have HS3 := hide hr
      have b3R : M3 ≤ 1048576 := by omega
      have b3S : N3 ≤ 1048576 := by omega
      clear hb hrz hz hrr hr hmc3 hzc3
      obtain ⟨ob, hob⟩ : ∃ ob, okPL z3 y3 a3 b3 d3 = ob := ⟨_, rfl⟩
      obtain ⟨pv, hpv⟩ : ∃ pv, partV z3 y3 a3 b3 d3 = pv := ⟨_, rfl⟩
      obtain ⟨lw, hlw⟩ : ∃ lw, lawful z3 y3 = lw := ⟨_, rfl⟩
      obtain ⟨ar, har⟩ : ∃ ar, areR z2 = ar := ⟨_, rfl⟩
      have HOB := hide hob
      have HPV := hide hpv
      have HLW := hide hlw
      have HAR := hide har
      clear hob hpv hlw har
      go_wp2_with fail
      refine (PartLeft_any r3 M3 m3 z3 _ N3 n3 y3 a3 b3 d3 _ HZ3.out b3R HR3.out HY3.out b3S HS3.out).mono ?_
      rintro e w32 ⟨rfl, hb⟩
      have HR2 := hide (rd_step HR2.out hb)
      have HR3 := hide (rd_step HR3.out hb)
      have HS3 := hide (rd_step HS3.out hb)
      have HB := hide (bl_step HB.out hb)
      rw [HPV.out, HOB.out]
      clear hb
      go_wp2_with fail
      refine (sPartLeft_any r3 M3 m3 z3 _ N3 n3 y3 a3 b3 d3 _ HZ3.out b3R HR3.out HY3.out b3S HS3.out).mono ?_
      rintro e w33 ⟨rfl, hb⟩
      have HR2 := hide (rd_step HR2.out hb)
      have HR3 := hide (rd_step HR3.out hb)
      have HS3 := hide (rd_step HS3.out hb)
      have HB := hide (bl_step HB.out hb)
      rw [HPV.out, HOB.out]
      clear hb
      go_wp2_with fail
      refine (AreRights_any r2 M2 m2 z2 _ HZ2.out b2R HR2.out).mono ?_
      rintro e w34 ⟨rfl, hb⟩
      have HR2 := hide (rd_step HR2.out hb)
      have HR3 := hide (rd_step HR3.out hb)
      have HS3 := hide (rd_step HS3.out hb)
      have HB := hide (bl_step HB.out hb)
      rw [HAR.out]
      clear hb
      go_wp2_with fail
      refine (sAreRights_any r2 M2 m2 z2 _ HZ2.out b2R HR2.out).mono ?_
      rintro e w35 ⟨rfl, hb⟩
      have HR2 := hide (rd_step HR2.out hb)
      have HR3 := hide (rd_step HR3.out hb)
      have HS3 := hide (rd_step HS3.out hb)
      have HB := hide (bl_step HB.out hb)
      rw [HAR.out]
      clear hb
      go_wp2_with fail
      refine (AreLawful_any r3 M3 m3 z3 _ N3 n3 y3 _ HZ3.out b3R HR3.out HY3.out b3S HS3.out).mono ?_
      rintro e w36 ⟨rfl, hb⟩
      have HR2 := hide (rd_step HR2.out hb)
      have HR3 := hide (rd_step HR3.out hb)
      have HS3 := hide (rd_step HS3.out hb)
      have HB := hide (bl_step HB.out hb)
      rw [HLW.out]
      clear hb
      go_wp2_with fail
      refine (sAreLawful_any r3 M3 m3 z3 _ N3 n3 y3 _ HZ3.out b3R HR3.out HY3.out b3S HS3.out).mono ?_
      rintro e w37 ⟨rfl, hb⟩
      have HR2 := hide (rd_step HR2.out hb)
      have HR3 := hide (rd_step HR3.out hb)
      have HS3 := hide (rd_step HS3.out hb)
      have HB := hide (bl_step HB.out hb)
      rw [HLW.out]
      clear hb
      cases lw
      all_goals cases ar
      all_goals cases ob
      all_goals
        go_wp2
        go_ret
        exact ⟨rfl, HB.out⟩
    · have HM0 := hide m0
      have HM1 := hide m1
      have HM2 := hide m2'
      clear m1 m2'
      clear m0 HF
      go_wp2_with fail
      refine (FreeFrom_any r2 M2 m2 z2 a2 _ HZ2.out b2R HR2.out).mono ?_
      rintro e w28 ⟨rfl, hb⟩
      have HR2 := hide (rd_step HR2.out hb)
      have HB := hide (bl_step HB.out hb)
      rw [HFV.out, HM0.out]
      clear hb
      go_wp2_with fail
      refine (sFreeFrom_any r2 M2 m2 z2 a2 _ HZ2.out b2R HR2.out).mono ?_
      rintro e w29 ⟨rfl, hb⟩
      have HR2 := hide (rd_step HR2.out hb)
      have HB := hide (bl_step HB.out hb)
      rw [HFV.out, HM0.out]
      clear hb
      go_wp2_with fail
      refine (IsFree_any r2 M2 m2 z2 a2 _ _ HZ2.out b2R HR2.out).mono ?_
      rintro e w30 ⟨rfl, hb⟩
      have HR2 := hide (rd_step HR2.out hb)
      have HB := hide (bl_step HB.out hb)
      rw [HM1.out, HM2.out]
      clear hb
      have HBY3 := hide (HBY.out.later HB.out)
      go_wp2_with fail
      refine (DrawPartLeft_any ao n c _ hn6 hnc HBY3.out).mono ?_
      rintro e u3 ⟨r3, M3, m3, z3, q3, N3, n3, y3, a3, b3, d3, rfl, hrz, hz, hM3, hN3, hmc3, hzc3, hrr, hr, hb⟩
      have HB := hide (bl_step HB.out hb)
      have HR2 := hide (rd_step HR2.out hb)
      have HZ3 := hide hrz
      have HY3 := hide hz
      have HR3 := hide hrr
      have HS3 := hide hr
      have b3R : M3 ≤ 1048576 := by omega
      have b3S : N3 ≤ 1048576 := by omega
      clear hb hrz hz hrr hr hmc3 hzc3
      obtain ⟨ob, hob⟩ : ∃ ob, okPL z3 y3 a3 b3 d3 = ob := ⟨_, rfl⟩
      obtain ⟨pv, hpv⟩ : ∃ pv, partV z3 y3 a3 b3 d3 = pv := ⟨_, rfl⟩
      obtain ⟨lw, hlw⟩ : ∃ lw, lawful z3 y3 = lw := ⟨_, rfl⟩
      obtain ⟨ar, har⟩ : ∃ ar, areR z2 = ar := ⟨_, rfl⟩
      have HOB := hide hob
      have HPV := hide hpv
      have HLW := hide hlw
      have HAR := hide har
      clear hob hpv hlw har
      go_wp2_with fail
      refine (PartLeft_any r3 M3 m3 z3 _ N3 n3 y3 a3 b3 d3 _ HZ3.out b3R HR3.out HY3.out b3S HS3.out).mono ?_
      rintro e w31 ⟨rfl, hb⟩
      have HR2 := hide (rd_step HR2.out hb)
      have HR3 := hide (rd_step HR3.out hb)
      have HS3 := hide (rd_step HS3.out hb)
      have HB := hide (bl_step HB.out hb)
      rw [HPV.out, HOB.out]
      clear hb
      go_wp2_with fail
      refine (sPartLeft_any r3 M3 m3 z3 _ N3 n3 y3 a3 b3 d3 _ HZ3.out b3R HR3.out HY3.out b3S HS3.out).mono ?_
      rintro e w32 ⟨rfl, hb⟩
      have HR2 := hide (rd_step HR2.out hb)
      have HR3 := hide (rd_step HR3.out hb)
      have HS3 := hide (rd_step HS3.out hb)
      have HB := hide (bl_step HB.out hb)
      rw [HPV.out, HOB.out]
      clear hb
      go_wp2_with fail
      refine (AreRights_any r2 M2 m2 z2 _ HZ2.out b2R HR2.out).mono ?_
      rintro e w33 ⟨rfl, hb⟩
      have HR2 := hide (rd_step HR2.out hb)
      have HR3 := hide (rd_step HR3.out hb)
      have HS3 := hide (rd_step HS3.out hb)
      have HB := hide (bl_step HB.out hb)
      rw [HAR.out]
      clear hb
      go_wp2_with fail
      refine (sAreRights_any r2 M2 m2 z2 _ HZ2.out b2R HR2.out).mono ?_
      rintro e w34 ⟨rfl, hb⟩
      have HR2 := hide (rd_step HR2.out hb)
      have HR3 := hide (rd_step HR3.out hb)
      have HS3 := hide (rd_step HS3.out hb)
      have HB := hide (bl_step HB.out hb)
      rw [HAR.out]
      clear hb
      go_wp2_with fail
      refine (AreLawful_any r3 M3 m3 z3 _ N3 n3 y3 _ HZ3.out b3R HR3.out HY3.out b3S HS3.out).mono ?_
      rintro e w35 ⟨rfl, hb⟩
      have HR2 := hide (rd_step HR2.out hb)
      have HR3 := hide (rd_step HR3.out hb)
      have HS3 := hide (rd_step HS3.out hb)
      have HB := hide (bl_step HB.out hb)
      rw [HLW.out]
      clear hb
      go_wp2_with fail
      refine (sAreLawful_any r3 M3 m3 z3 _ N3 n3 y3 _ HZ3.out b3R HR3.out HY3.out b3S HS3.out).mono ?_
      rintro e w36 ⟨rfl, hb⟩
      have HR2 := hide (rd_step HR2.out hb)
      have HR3 := hide (rd_step HR3.out hb)
      have HS3 := hide (rd_step HS3.out hb)
      have HB := hide (bl_step HB.out hb)
      rw [HLW.out]
      clear hb
      cases lw
      all_goals cases ar
      all_goals cases ob
      all_goals
        go_wp2
        go_ret
        exact ⟨rfl, HB.out⟩
    · have HM0 := hide m0
      clear m0 HF
      go_wp2_with fail
      refine (FreeFrom_any r2 M2 m2 z2 a2 _ HZ2.out b2R HR2.out).mono ?_
      rintro e w28 ⟨rfl, hb⟩
      have HR2 := hide (rd_step HR2.out hb)
      have HB := hide (bl_step HB.out hb)
      rw [HFV.out, HM0.out]
      clear hb
      go_wp2_with fail
      refine (sFreeFrom_any r2 M2 m2 z2 a2 _ HZ2.out b2R HR2.out).mono ?_
      rintro e w29 ⟨rfl, hb⟩
      have HR2 := hide (rd_step HR2.out hb)
      have HB := hide (bl_step HB.out hb)
      rw [HFV.out, HM0.out]
      clear hb
      have HBY3 := hide (HBY.out.later HB.out)
      go_wp2_with fail
      refine (DrawPartLeft_any ao n c _ hn6 hnc HBY3.out).mono ?_
      rintro e u3 ⟨r3, M3, m3, z3, q3, N3, n3, y3, a3, b3, d3, rfl, hrz, hz, hM3, hN3, hmc3, hzc3, hrr, hr, hb⟩
      have HB := hide (bl_step HB.out hb)
      have HR2 := hide (rd_step HR2.out hb)
      have HZ3 := hide hrz
      have HY3 := hide hz
      have HR3 := hide hrr
      have HS3 := hide hr
      have b3R : M3 ≤ 1048576 := by omega
      have b3S : N3 ≤ 1048576 := by omega
      clear hb hrz hz hrr hr hmc3 hzc3
      obtain ⟨ob, hob⟩ : ∃ ob, okPL z3 y3 a3 b3 d3 = ob := ⟨_, rfl⟩
      obtain ⟨pv, hpv⟩ : ∃ pv, partV z3 y3 a3 b3 d3 = pv := ⟨_, rfl⟩
      obtain ⟨lw, hlw⟩ : ∃ lw, lawful z3 y3 = lw := ⟨_, rfl⟩
      obtain ⟨ar, har⟩ : ∃ ar, areR z2 = ar := ⟨_, rfl⟩
      have HOB := hide hob
      have HPV := hide hpv
      have HLW := hide hlw
      have HAR := hide har
      clear hob hpv hlw har
      go_wp2_with fail
      refine (PartLeft_any r3 M3 m3 z3 _ N3 n3 y3 a3 b3 d3 _ HZ3.out b3R HR3.out HY3.out b3S HS3.out).mono ?_
      rintro e w30 ⟨rfl, hb⟩
      have HR2 := hide (rd_step HR2.out hb)
      have HR3 := hide (rd_step HR3.out hb)
      have HS3 := hide (rd_step HS3.out hb)
      have HB := hide (bl_step HB.out hb)
      rw [HPV.out, HOB.out]
      clear hb
      go_wp2_with fail
      refine (sPartLeft_any r3 M3 m3 z3 _ N3 n3 y3 a3 b3 d3 _ HZ3.out b3R HR3.out HY3.out b3S HS3.out).mono ?_
      rintro e w31 ⟨rfl, hb⟩
      have HR2 := hide (rd_step HR2.out hb)
      have HR3 := hide (rd_step HR3.out hb)
      have HS3 := hide (rd_step HS3.out hb)
      have HB := hide (bl_step HB.out hb)
      rw [HPV.out, HOB.out]
      clear hb
      go_wp2_with fail
      refine (AreRights_any r2 M2 m2 z2 _ HZ2.out b2R HR2.out).mono ?_
      rintro e w32 ⟨rfl, hb⟩
      have HR2 := hide (rd_step HR2.out hb)
      have HR3 := hide (rd_step HR3.out hb)
      have HS3 := hide (rd_step HS3.out hb)
      have HB := hide (bl_step HB.out hb)
      rw [HAR.out]
      clear hb
      go_wp2_with fail
      refine (sAreRights_any r2 M2 m2 z2 _ HZ2.out b2R HR2.out).mono ?_
      rintro e w33 ⟨rfl, hb⟩
      have HR2 := hide (rd_step HR2.out hb)
      have HR3 := hide (rd_step HR3.out hb)
      have HS3 := hide (rd_step HS3.out hb)
      have HB := hide (bl_step HB.out hb)
      rw [HAR.out]
      clear hb
      go_wp2_with fail
      refine (AreLawful_any r3 M3 m3 z3 _ N3 n3 y3 _ HZ3.out b3R HR3.out HY3.out b3S HS3.out).mono ?_
      rintro e w34 ⟨rfl, hb⟩
      have HR2 := hide (rd_step HR2.out hb)
      have HR3 := hide (rd_step HR3.out hb)
      have HS3 := hide (rd_step HS3.out hb)
      have HB := hide (bl_step HB.out hb)
      rw [HLW.out]
      clear hb
      go_wp2_with fail
      refine (sAreLawful_any r3 M3 m3 z3 _ N3 n3 y3 _ HZ3.out b3R HR3.out HY3.out b3S HS3.out).mono ?_
      rintro e w35 ⟨rfl, hb⟩
      have HR2 := hide (rd_step HR2.out hb)
      have HR3 := hide (rd_step HR3.out hb)
      have HS3 := hide (rd_step HS3.out hb)
      have HB := hide (bl_step HB.out hb)
      rw [HLW.out]
      clear hb
      cases lw
      all_goals cases ar
      all_goals cases ob
      all_goals
        go_wp2
        go_ret
        exact ⟨rfl, HB.out⟩
  · obtain ⟨wX, hwX⟩ : ∃ wX, wX = w1.alloc (.cells #[.int .i64 x.s, .int .i64 x.r, .int .i64 x.d, .int .i64 x.p] 34) := ⟨_, rfl⟩
    have hbX : Below w1.heap.size w1 wX := by rw [hwX]; exact (Below.refl _ _).alloc (Nat.le_refl _) _
    have HX : Hid (Blk wX w1.heap.size 34 #[.int .i64 x.s, .int .i64 x.r, .int .i64 x.d, .int .i64 x.p]) := hide (by rw [hwX]; exact Blk.new w1 _ _)
    have HWX := hide hwX
    have HB := hide (bl_step HB.out hbX)
    have HRR := hide (rd_step HRR.out hbX)
    have HRS := hide (rd_step HRS.out hbX)
    clear hbX hwX
    have HK0 := hide k0
    have HC := hide (copy_ok k0)
    have HK1 := hide k7
    
    obtain ⟨cf, hcf⟩ : ∃ cf, cpF rz zs x = cf := ⟨_, rfl⟩
    have HCF := hide hcf
    clear hcf
    obtain ⟨pa, hpa⟩ : ∃ pa, partV rz zs x.s x.r x.d = pa := ⟨_, rfl⟩
    obtain ⟨pb, hpb⟩ : ∃ pb, partV rz (cpV rz zs x) x.s x.r x.d = pb := ⟨_, rfl⟩
    rw [hpa] at k2 k3 k4
    rw [hpb] at k4
    have HP1 := hide hpa
    have HP2 := hide hpb
    have kw : IntKind.i64.wrap (pa - pb) = x.p := by rw [IntWalk.i64_in _ (by omega)]; omega
    clear k1 k7 hpa hpb
    clear k0 HK
    go_wp2_with fail
    rw [← HWX.out]
    refine (CopySheet_any ro M mc rz zo N zc zs x _ HZR.out bR HRR.out HZS.out bS HRS.out).mono ?_
    rintro e w2 ⟨vf, rfl, ho, hb⟩
    have HRR := hide (rd_step HRR.out hb)
    have HRS := hide (rd_step HRS.out hb)
    have HB := hide (bl_step HB.out hb)
    have HX := hide (HX.out.below' hb)
    rw [HCF.out, HK0.out]
    rw [← HL.out] at ho
    obtain ⟨fo, fc, rfl, hfc, _, hrd⟩ := own_rd encCp_len ho HL.out.symm
    have HOF := hide ho
    have HRF := hide hrd
    clear ho hrd
    have e0 := HX.out.cell 0
    have e1 := HX.out.cell 1
    have e2 := HX.out.cell 2
    have e3 := HX.out.cell 3
    simp only [List.getElem?_toArray, List.getElem?_cons_zero, List.getElem?_cons_succ] at e0 e1 e2 e3
    clear hb
    go_wp2_with fail
    refine (sCopySheet_any ro M mc rz zo N zc zs x _ HZR.out bR HRR.out HZS.out bS HRS.out).mono ?_
    rintro e w3 ⟨vg, rfl, ho, hb⟩
    have HRR := hide (rd_step HRR.out hb)
    have HRS := hide (rd_step HRS.out hb)
    have HRF := hide (rd_step HRF.out hb)
    have HOF := hide (own_step HOF.out hb)
    have HB := hide (bl_step HB.out hb)
    clear e0 e1 e2 e3
    have HX := hide (HX.out.below' hb)
    rw [HCF.out, HK0.out]
    rw [← HL.out] at ho
    obtain ⟨go_, gc, rfl, hgc, _, hrd⟩ := own_rd encCp_len ho HL.out.symm
    have HOG := hide ho
    have HRG := hide hrd
    clear ho hrd
    have e0 := HX.out.cell 0
    have e1 := HX.out.cell 1
    have e2 := HX.out.cell 2
    have e3 := HX.out.cell 3
    simp only [List.getElem?_toArray, List.getElem?_cons_zero, List.getElem?_cons_succ] at e0 e1 e2 e3
    clear hb
    go_wp2_with fail
    refine (rCopyings_own _ _ L (cpV rz zs x) _ HOF.out HOG.out HL.out.symm bL).mono ?_
    rintro e w4 ⟨rfl, hb⟩
    have HRR := hide (rd_step HRR.out hb)
    have HRS := hide (rd_step HRS.out hb)
    have HRF := hide (rd_step HRF.out hb)
    have HRG := hide (rd_step HRG.out hb)
    have HOF := hide (own_step HOF.out hb)
    have HOG := hide (own_step HOG.out hb)
    have HB := hide (bl_step HB.out hb)
    clear e0 e1 e2 e3
    have HX := hide (HX.out.below' hb)
    have e0 := HX.out.cell 0
    have e1 := HX.out.cell 1
    have e2 := HX.out.cell 2
    have e3 := HX.out.cell 3
    simp only [List.getElem?_toArray, List.getElem?_cons_zero, List.getElem?_cons_succ] at e0 e1 e2 e3
    clear hb
    clear HOG HRG
    go_wp2_with fail
    refine (PartLeft_any ro M mc rz _ N zc zs x.s x.r x.d _ HZR.out bR HRR.out HZS.out bS HRS.out).mono ?_
    rintro e w5 ⟨rfl, hb⟩
    have HRR := hide (rd_step HRR.out hb)
    have HRS := hide (rd_step HRS.out hb)
    have HRF := hide (rd_step HRF.out hb)
    have HOF := hide (own_step HOF.out hb)
    have HB := hide (bl_step HB.out hb)
    clear e0 e1 e2 e3
    have HX := hide (HX.out.below' hb)
    rw [HP1.out, HC.out.1]
    have e0 := HX.out.cell 0
    have e1 := HX.out.cell 1
    have e2 := HX.out.cell 2
    have e3 := HX.out.cell 3
    simp only [List.getElem?_toArray, List.getElem?_cons_zero, List.getElem?_cons_succ] at e0 e1 e2 e3
    clear hb
    go_wp2_with fail
    refine (PartLeft_any ro M mc rz _ L fc (cpV rz zs x) x.s x.r x.d _ HZR.out bR HRR.out HL.out.symm bL HRF.out).mono ?_
    rintro e w6 ⟨rfl, hb⟩
    have HRR := hide (rd_step HRR.out hb)
    have HRS := hide (rd_step HRS.out hb)
    have HRF := hide (rd_step HRF.out hb)
    have HOF := hide (own_step HOF.out hb)
    have HB := hide (bl_step HB.out hb)
    clear e0 e1 e2 e3
    have HX := hide (HX.out.below' hb)
    rw [HP2.out, HC.out.2.1]
    have e0 := HX.out.cell 0
    have e1 := HX.out.cell 1
    have e2 := HX.out.cell 2
    have e3 := HX.out.cell 3
    simp only [List.getElem?_toArray, List.getElem?_cons_zero, List.getElem?_cons_succ] at e0 e1 e2 e3
    clear hb
    go_wp2_with fail
    refine (IsFree_any ro M mc rz x.s x.d _ HZR.out bR HRR.out).mono ?_
    rintro e w7 ⟨rfl, hb⟩
    have HRR := hide (rd_step HRR.out hb)
    have HRS := hide (rd_step HRS.out hb)
    have HRF := hide (rd_step HRF.out hb)
    have HOF := hide (own_step HOF.out hb)
    have HB := hide (bl_step HB.out hb)
    clear e0 e1 e2 e3
    have HX := hide (HX.out.below' hb)
    rw [HK1.out, HC.out.2.2.1]
    have e0 := HX.out.cell 0
    have e1 := HX.out.cell 1
    have e2 := HX.out.cell 2
    have e3 := HX.out.cell 3
    simp only [List.getElem?_toArray, List.getElem?_cons_zero, List.getElem?_cons_succ] at e0 e1 e2 e3
    clear hb
    have HBY2 := hide (HBY.out.later HB.out)
    go_wp2_with fail
    refine (DrawFreeFrom_any ao n c _ hn6 hnc HBY2.out).mono ?_
    rintro e u1 ⟨r2, M2, m2, z2, a2, rfl, hrz, hM2, hrr, hb⟩
    have HB := hide (bl_step HB.out hb)
    have HZ2 := hide hrz
    have HR2 := hide hrr
    have b2R : M2 ≤ 1048576 := by omega
    clear hb hrz hrr
    obtain ⟨fv, hfv⟩ : ∃ fv, fromV z2 a2 = fv := ⟨_, rfl⟩
    have HFV := hide hfv
    have HF : Hid ((fromOk z2 a2 = true ∧ okSD z2 a2 fv = true ∧ freeV z2 a2 fv = true ∧ 0 < fv ∧ fv ≤ 4000 ∧ okSD z2 a2 (fv - 1) = true ∧ freeV z2 a2 (fv - 1) = false) ∨ (fromOk z2 a2 = true ∧ okSD z2 a2 fv = true ∧ freeV z2 a2 fv = true ∧ fv = 0) ∨ fromOk z2 a2 = false) := hide (by
      cases hk : fromOk z2 a2 with
      | false => exact .inr (.inr rfl)
      | true =>
        obtain ⟨h1, h2, h3, h4, h5⟩ := from_free hk
        rw [hfv] at h1 h2 h3 h4 h5
        have e1 : freeV z2 a2 fv = true := by unfold freeV; rw [h1]; exact h2
        by_cases h0 : 0 < fv
        · obtain ⟨h6, h7⟩ := h5 h0
          exact .inl ⟨rfl, h1, e1, h0, h4, h6, by unfold freeV; rw [h6]; exact h7⟩
        · exact .inr (.inl ⟨rfl, h1, e1, by omega⟩))
    clear hfv
    rcases HF.out with ⟨m0, m1, m2', m3', m4, m5, m6⟩ | ⟨m0, m1, m2', rfl⟩ | m0
    · have HM0 := hide m0
      have HM1 := hide m1
      have HM2 := hide m2'
      clear m1 m2'
      have HM5 := hide m5
      have HM6 := hide m6
      have m7 : IntKind.i64.wrap (fv - 1) = fv - 1 := IntWalk.i64_in _ (by omega)
      clear m5 m6
      clear m0 HF
      go_wp2_with fail
      refine (FreeFrom_any r2 M2 m2 z2 a2 _ HZ2.out b2R HR2.out).mono ?_
      rintro e w28 ⟨rfl, hb⟩
      have HR2 := hide (rd_step HR2.out hb)
      have HB := hide (bl_step HB.out hb)
      rw [HFV.out, HM0.out]
      clear hb
      go_wp2_with fail
      refine (sFreeFrom_any r2 M2 m2 z2 a2 _ HZ2.out b2R HR2.out).mono ?_
      rintro e w29 ⟨rfl, hb⟩
      have HR2 := hide (rd_step HR2.out hb)
      have HB := hide (bl_step HB.out hb)
      rw [HFV.out, HM0.out]
      clear hb
      go_wp2_with fail
      refine (IsFree_any r2 M2 m2 z2 a2 _ _ HZ2.out b2R HR2.out).mono ?_
      rintro e w30 ⟨rfl, hb⟩
      have HR2 := hide (rd_step HR2.out hb)
      have HB := hide (bl_step HB.out hb)
      rw [HM1.out, HM2.out]
      clear hb
      go_wp2_with fail
      refine (IsFree_any r2 M2 m2 z2 a2 (fv - 1) _ HZ2.out b2R HR2.out).mono ?_
      rintro e w31 ⟨rfl, hb⟩
      have HR2 := hide (rd_step HR2.out hb)
      have HB := hide (bl_step HB.out hb)
      rw [HM5.out, HM6.out]
      clear hb
      have HBY3 := hide (HBY.out.later HB.out)
      go_wp2_with fail
      refine (DrawPartLeft_any ao n c _ hn6 hnc HBY3.out).mono ?_
      rintro e u3 ⟨r3, M3, m3, z3, q3, N3, n3, y3, a3, b3, d3, rfl, hrz, hz, hM3, hN3, hmc3, hzc3, hrr, hr, hb⟩
      have HB := hide (bl_step HB.out hb)
      have HR2 := hide (rd_step HR2.out hb)
      have HZ3 := hide hrz
      have HY3 := hide hz
      have HR3 := hide hrr
      have HS3 := hide hr
      have b3R : M3 ≤ 1048576 := by omega
      have b3S : N3 ≤ 1048576 := by omega
      clear hb hrz hz hrr hr hmc3 hzc3
      obtain ⟨ob, hob⟩ : ∃ ob, okPL z3 y3 a3 b3 d3 = ob := ⟨_, rfl⟩
      obtain ⟨pv, hpv⟩ : ∃ pv, partV z3 y3 a3 b3 d3 = pv := ⟨_, rfl⟩
      obtain ⟨lw, hlw⟩ : ∃ lw, lawful z3 y3 = lw := ⟨_, rfl⟩
      obtain ⟨ar, har⟩ : ∃ ar, areR z2 = ar := ⟨_, rfl⟩
      have HOB := hide hob
      have HPV := hide hpv
      have HLW := hide hlw
      have HAR := hide har
      clear hob hpv hlw har
      go_wp2_with fail
      refine (PartLeft_any r3 M3 m3 z3 _ N3 n3 y3 a3 b3 d3 _ HZ3.out b3R HR3.out HY3.out b3S HS3.out).mono ?_
      rintro e w32 ⟨rfl, hb⟩
      have HR2 := hide (rd_step HR2.out hb)
      have HR3 := hide (rd_step HR3.out hb)
      have HS3 := hide (rd_step HS3.out hb)
      have HB := hide (bl_step HB.out hb)
      rw [HPV.out, HOB.out]
      clear hb
      go_wp2_with fail
      refine (sPartLeft_any r3 M3 m3 z3 _ N3 n3 y3 a3 b3 d3 _ HZ3.out b3R HR3.out HY3.out b3S HS3.out).mono ?_
      rintro e w33 ⟨rfl, hb⟩
      have HR2 := hide (rd_step HR2.out hb)
      have HR3 := hide (rd_step HR3.out hb)
      have HS3 := hide (rd_step HS3.out hb)
      have HB := hide (bl_step HB.out hb)
      rw [HPV.out, HOB.out]
      clear hb
      go_wp2_with fail
      refine (AreRights_any r2 M2 m2 z2 _ HZ2.out b2R HR2.out).mono ?_
      rintro e w34 ⟨rfl, hb⟩
      have HR2 := hide (rd_step HR2.out hb)
      have HR3 := hide (rd_step HR3.out hb)
      have HS3 := hide (rd_step HS3.out hb)
      have HB := hide (bl_step HB.out hb)
      rw [HAR.out]
      clear hb
      go_wp2_with fail
      refine (sAreRights_any r2 M2 m2 z2 _ HZ2.out b2R HR2.out).mono ?_
      rintro e w35 ⟨rfl, hb⟩
      have HR2 := hide (rd_step HR2.out hb)
      have HR3 := hide (rd_step HR3.out hb)
      have HS3 := hide (rd_step HS3.out hb)
      have HB := hide (bl_step HB.out hb)
      rw [HAR.out]
      clear hb
      go_wp2_with fail
      refine (AreLawful_any r3 M3 m3 z3 _ N3 n3 y3 _ HZ3.out b3R HR3.out HY3.out b3S HS3.out).mono ?_
      rintro e w36 ⟨rfl, hb⟩
      have HR2 := hide (rd_step HR2.out hb)
      have HR3 := hide (rd_step HR3.out hb)
      have HS3 := hide (rd_step HS3.out hb)
      have HB := hide (bl_step HB.out hb)
      rw [HLW.out]
      clear hb
      go_wp2_with fail
      refine (sAreLawful_any r3 M3 m3 z3 _ N3 n3 y3 _ HZ3.out b3R HR3.out HY3.out b3S HS3.out).mono ?_
      rintro e w37 ⟨rfl, hb⟩
      have HR2 := hide (rd_step HR2.out hb)
      have HR3 := hide (rd_step HR3.out hb)
      have HS3 := hide (rd_step HS3.out hb)
      have HB := hide (bl_step HB.out hb)
      rw [HLW.out]
      clear hb
      cases lw
      all_goals cases ar
      all_goals cases ob
      all_goals
        go_wp2
        go_ret
        exact ⟨rfl, HB.out⟩
    · have HM0 := hide m0
      have HM1 := hide m1
      have HM2 := hide m2'
      clear m1 m2'
      clear m0 HF
      go_wp2_with fail
      refine (FreeFrom_any r2 M2 m2 z2 a2 _ HZ2.out b2R HR2.out).mono ?_
      rintro e w28 ⟨rfl, hb⟩
      have HR2 := hide (rd_step HR2.out hb)
      have HB := hide (bl_step HB.out hb)
      rw [HFV.out, HM0.out]
      clear hb
      go_wp2_with fail
      refine (sFreeFrom_any r2 M2 m2 z2 a2 _ HZ2.out b2R HR2.out).mono ?_
      rintro e w29 ⟨rfl, hb⟩
      have HR2 := hide (rd_step HR2.out hb)
      have HB := hide (bl_step HB.out hb)
      rw [HFV.out, HM0.out]
      clear hb
      go_wp2_with fail
      refine (IsFree_any r2 M2 m2 z2 a2 _ _ HZ2.out b2R HR2.out).mono ?_
      rintro e w30 ⟨rfl, hb⟩
      have HR2 := hide (rd_step HR2.out hb)
      have HB := hide (bl_step HB.out hb)
      rw [HM1.out, HM2.out]
      clear hb
      have HBY3 := hide (HBY.out.later HB.out)
      go_wp2_with fail
      refine (DrawPartLeft_any ao n c _ hn6 hnc HBY3.out).mono ?_
      rintro e u3 ⟨r3, M3, m3, z3, q3, N3, n3, y3, a3, b3, d3, rfl, hrz, hz, hM3, hN3, hmc3, hzc3, hrr, hr, hb⟩
      have HB := hide (bl_step HB.out hb)
      have HR2 := hide (rd_step HR2.out hb)
      have HZ3 := hide hrz
      have HY3 := hide hz
      have HR3 := hide hrr
      have HS3 := hide hr
      have b3R : M3 ≤ 1048576 := by omega
      have b3S : N3 ≤ 1048576 := by omega
      clear hb hrz hz hrr hr hmc3 hzc3
      obtain ⟨ob, hob⟩ : ∃ ob, okPL z3 y3 a3 b3 d3 = ob := ⟨_, rfl⟩
      obtain ⟨pv, hpv⟩ : ∃ pv, partV z3 y3 a3 b3 d3 = pv := ⟨_, rfl⟩
      obtain ⟨lw, hlw⟩ : ∃ lw, lawful z3 y3 = lw := ⟨_, rfl⟩
      obtain ⟨ar, har⟩ : ∃ ar, areR z2 = ar := ⟨_, rfl⟩
      have HOB := hide hob
      have HPV := hide hpv
      have HLW := hide hlw
      have HAR := hide har
      clear hob hpv hlw har
      go_wp2_with fail
      refine (PartLeft_any r3 M3 m3 z3 _ N3 n3 y3 a3 b3 d3 _ HZ3.out b3R HR3.out HY3.out b3S HS3.out).mono ?_
      rintro e w31 ⟨rfl, hb⟩
      have HR2 := hide (rd_step HR2.out hb)
      have HR3 := hide (rd_step HR3.out hb)
      have HS3 := hide (rd_step HS3.out hb)
      have HB := hide (bl_step HB.out hb)
      rw [HPV.out, HOB.out]
      clear hb
      go_wp2_with fail
      refine (sPartLeft_any r3 M3 m3 z3 _ N3 n3 y3 a3 b3 d3 _ HZ3.out b3R HR3.out HY3.out b3S HS3.out).mono ?_
      rintro e w32 ⟨rfl, hb⟩
      have HR2 := hide (rd_step HR2.out hb)
      have HR3 := hide (rd_step HR3.out hb)
      have HS3 := hide (rd_step HS3.out hb)
      have HB := hide (bl_step HB.out hb)
      rw [HPV.out, HOB.out]
      clear hb
      go_wp2_with fail
      refine (AreRights_any r2 M2 m2 z2 _ HZ2.out b2R HR2.out).mono ?_
      rintro e w33 ⟨rfl, hb⟩
      have HR2 := hide (rd_step HR2.out hb)
      have HR3 := hide (rd_step HR3.out hb)
      have HS3 := hide (rd_step HS3.out hb)
      have HB := hide (bl_step HB.out hb)
      rw [HAR.out]
      clear hb
      go_wp2_with fail
      refine (sAreRights_any r2 M2 m2 z2 _ HZ2.out b2R HR2.out).mono ?_
      rintro e w34 ⟨rfl, hb⟩
      have HR2 := hide (rd_step HR2.out hb)
      have HR3 := hide (rd_step HR3.out hb)
      have HS3 := hide (rd_step HS3.out hb)
      have HB := hide (bl_step HB.out hb)
      rw [HAR.out]
      clear hb
      go_wp2_with fail
      refine (AreLawful_any r3 M3 m3 z3 _ N3 n3 y3 _ HZ3.out b3R HR3.out HY3.out b3S HS3.out).mono ?_
      rintro e w35 ⟨rfl, hb⟩
      have HR2 := hide (rd_step HR2.out hb)
      have HR3 := hide (rd_step HR3.out hb)
      have HS3 := hide (rd_step HS3.out hb)
      have HB := hide (bl_step HB.out hb)
      rw [HLW.out]
      clear hb
      go_wp2_with fail
      refine (sAreLawful_any r3 M3 m3 z3 _ N3 n3 y3 _ HZ3.out b3R HR3.out HY3.out b3S HS3.out).mono ?_
      rintro e w36 ⟨rfl, hb⟩
      have HR2 := hide (rd_step HR2.out hb)
      have HR3 := hide (rd_step HR3.out hb)
      have HS3 := hide (rd_step HS3.out hb)
      have HB := hide (bl_step HB.out hb)
      rw [HLW.out]
      clear hb
      cases lw
      all_goals cases ar
      all_goals cases ob
      all_goals
        go_wp2
        go_ret
        exact ⟨rfl, HB.out⟩
    · have HM0 := hide m0
      clear m0 HF
      go_wp2_with fail
      refine (FreeFrom_any r2 M2 m2 z2 a2 _ HZ2.out b2R HR2.out).mono ?_
      rintro e w28 ⟨rfl, hb⟩
      have HR2 := hide (rd_step HR2.out hb)
      have HB := hide (bl_step HB.out hb)
      rw [HFV.out, HM0.out]
      clear hb
      go_wp2_with fail
      refine (sFreeFrom_any r2 M2 m2 z2 a2 _ HZ2.out b2R HR2.out).mono ?_
      rintro e w29 ⟨rfl, hb⟩
      have HR2 := hide (rd_step HR2.out hb)
      have HB := hide (bl_step HB.out hb)
      rw [HFV.out, HM0.out]
      clear hb
      have HBY3 := hide (HBY.out.later HB.out)
      go_wp2_with fail
      refine (DrawPartLeft_any ao n c _ hn6 hnc HBY3.out).mono ?_
      rintro e u3 ⟨r3, M3, m3, z3, q3, N3, n3, y3, a3, b3, d3, rfl, hrz, hz, hM3, hN3, hmc3, hzc3, hrr, hr, hb⟩
      have HB := hide (bl_step HB.out hb)
      have HR2 := hide (rd_step HR2.out hb)
      have HZ3 := hide hrz
      have HY3 := hide hz
      have HR3 := hide hrr
      have HS3 := hide hr
      have b3R : M3 ≤ 1048576 := by omega
      have b3S : N3 ≤ 1048576 := by omega
      clear hb hrz hz hrr hr hmc3 hzc3
      obtain ⟨ob, hob⟩ : ∃ ob, okPL z3 y3 a3 b3 d3 = ob := ⟨_, rfl⟩
      obtain ⟨pv, hpv⟩ : ∃ pv, partV z3 y3 a3 b3 d3 = pv := ⟨_, rfl⟩
      obtain ⟨lw, hlw⟩ : ∃ lw, lawful z3 y3 = lw := ⟨_, rfl⟩
      obtain ⟨ar, har⟩ : ∃ ar, areR z2 = ar := ⟨_, rfl⟩
      have HOB := hide hob
      have HPV := hide hpv
      have HLW := hide hlw
      have HAR := hide har
      clear hob hpv hlw har
      go_wp2_with fail
      refine (PartLeft_any r3 M3 m3 z3 _ N3 n3 y3 a3 b3 d3 _ HZ3.out b3R HR3.out HY3.out b3S HS3.out).mono ?_
      rintro e w30 ⟨rfl, hb⟩
      have HR2 := hide (rd_step HR2.out hb)
      have HR3 := hide (rd_step HR3.out hb)
      have HS3 := hide (rd_step HS3.out hb)
      have HB := hide (bl_step HB.out hb)
      rw [HPV.out, HOB.out]
      clear hb
      go_wp2_with fail
      refine (sPartLeft_any r3 M3 m3 z3 _ N3 n3 y3 a3 b3 d3 _ HZ3.out b3R HR3.out HY3.out b3S HS3.out).mono ?_
      rintro e w31 ⟨rfl, hb⟩
      have HR2 := hide (rd_step HR2.out hb)
      have HR3 := hide (rd_step HR3.out hb)
      have HS3 := hide (rd_step HS3.out hb)
      have HB := hide (bl_step HB.out hb)
      rw [HPV.out, HOB.out]
      clear hb
      go_wp2_with fail
      refine (AreRights_any r2 M2 m2 z2 _ HZ2.out b2R HR2.out).mono ?_
      rintro e w32 ⟨rfl, hb⟩
      have HR2 := hide (rd_step HR2.out hb)
      have HR3 := hide (rd_step HR3.out hb)
      have HS3 := hide (rd_step HS3.out hb)
      have HB := hide (bl_step HB.out hb)
      rw [HAR.out]
      clear hb
      go_wp2_with fail
      refine (sAreRights_any r2 M2 m2 z2 _ HZ2.out b2R HR2.out).mono ?_
      rintro e w33 ⟨rfl, hb⟩
      have HR2 := hide (rd_step HR2.out hb)
      have HR3 := hide (rd_step HR3.out hb)
      have HS3 := hide (rd_step HS3.out hb)
      have HB := hide (bl_step HB.out hb)
      rw [HAR.out]
      clear hb
      go_wp2_with fail
      refine (AreLawful_any r3 M3 m3 z3 _ N3 n3 y3 _ HZ3.out b3R HR3.out HY3.out b3S HS3.out).mono ?_
      rintro e w34 ⟨rfl, hb⟩
      have HR2 := hide (rd_step HR2.out hb)
      have HR3 := hide (rd_step HR3.out hb)
      have HS3 := hide (rd_step HS3.out hb)
      have HB := hide (bl_step HB.out hb)
      rw [HLW.out]
      clear hb
      go_wp2_with fail
      refine (sAreLawful_any r3 M3 m3 z3 _ N3 n3 y3 _ HZ3.out b3R HR3.out HY3.out b3S HS3.out).mono ?_
      rintro e w35 ⟨rfl, hb⟩
      have HR2 := hide (rd_step HR2.out hb)
      have HR3 := hide (rd_step HR3.out hb)
      have HS3 := hide (rd_step HS3.out hb)
      have HB := hide (bl_step HB.out hb)
      rw [HLW.out]
      clear hb
      cases lw
      all_goals cases ar
      all_goals cases ob
      all_goals
        go_wp2
        go_ret
        exact ⟨rfl, HB.out⟩
  · obtain ⟨wX, hwX⟩ : ∃ wX, wX = w1.alloc (.cells #[.int .i64 x.s, .int .i64 x.r, .int .i64 x.d, .int .i64 x.p] 34) := ⟨_, rfl⟩
    have hbX : Below w1.heap.size w1 wX := by rw [hwX]; exact (Below.refl _ _).alloc (Nat.le_refl _) _
    have HX : Hid (Blk wX w1.heap.size 34 #[.int .i64 x.s, .int .i64 x.r, .int .i64 x.d, .int .i64 x.p]) := hide (by rw [hwX]; exact Blk.new w1 _ _)
    have HWX := hide hwX
    have HB := hide (bl_step HB.out hbX)
    have HRR := hide (rd_step HRR.out hbX)
    have HRS := hide (rd_step HRS.out hbX)
    clear hbX hwX
    have HK0 := hide k0
    obtain ⟨cf, hcf⟩ : ∃ cf, cpF rz zs x = cf := ⟨_, rfl⟩
    have HCF := hide hcf
    clear hcf
    clear k0 HK
    go_wp2_with fail
    rw [← HWX.out]
    refine (CopySheet_any ro M mc rz zo N zc zs x _ HZR.out bR HRR.out HZS.out bS HRS.out).mono ?_
    rintro e w2 ⟨vf, rfl, ho, hb⟩
    have HRR := hide (rd_step HRR.out hb)
    have HRS := hide (rd_step HRS.out hb)
    have HB := hide (bl_step HB.out hb)
    have HX := hide (HX.out.below' hb)
    rw [HCF.out, HK0.out]
    rw [← HL.out] at ho
    obtain ⟨fo, fc, rfl, hfc, _, hrd⟩ := own_rd encCp_len ho HL.out.symm
    have HOF := hide ho
    have HRF := hide hrd
    clear ho hrd
    have e0 := HX.out.cell 0
    have e1 := HX.out.cell 1
    have e2 := HX.out.cell 2
    have e3 := HX.out.cell 3
    simp only [List.getElem?_toArray, List.getElem?_cons_zero, List.getElem?_cons_succ] at e0 e1 e2 e3
    clear hb
    go_wp2_with fail
    refine (sCopySheet_any ro M mc rz zo N zc zs x _ HZR.out bR HRR.out HZS.out bS HRS.out).mono ?_
    rintro e w3 ⟨vg, rfl, ho, hb⟩
    have HRR := hide (rd_step HRR.out hb)
    have HRS := hide (rd_step HRS.out hb)
    have HRF := hide (rd_step HRF.out hb)
    have HOF := hide (own_step HOF.out hb)
    have HB := hide (bl_step HB.out hb)
    clear e0 e1 e2 e3
    have HX := hide (HX.out.below' hb)
    rw [HCF.out, HK0.out]
    rw [← HL.out] at ho
    obtain ⟨go_, gc, rfl, hgc, _, hrd⟩ := own_rd encCp_len ho HL.out.symm
    have HOG := hide ho
    have HRG := hide hrd
    clear ho hrd
    have e0 := HX.out.cell 0
    have e1 := HX.out.cell 1
    have e2 := HX.out.cell 2
    have e3 := HX.out.cell 3
    simp only [List.getElem?_toArray, List.getElem?_cons_zero, List.getElem?_cons_succ] at e0 e1 e2 e3
    clear hb
    go_wp2_with fail
    refine (rCopyings_own _ _ L (cpV rz zs x) _ HOF.out HOG.out HL.out.symm bL).mono ?_
    rintro e w4 ⟨rfl, hb⟩
    have HRR := hide (rd_step HRR.out hb)
    have HRS := hide (rd_step HRS.out hb)
    have HRF := hide (rd_step HRF.out hb)
    have HRG := hide (rd_step HRG.out hb)
    have HOF := hide (own_step HOF.out hb)
    have HOG := hide (own_step HOG.out hb)
    have HB := hide (bl_step HB.out hb)
    clear e0 e1 e2 e3
    have HX := hide (HX.out.below' hb)
    have e0 := HX.out.cell 0
    have e1 := HX.out.cell 1
    have e2 := HX.out.cell 2
    have e3 := HX.out.cell 3
    simp only [List.getElem?_toArray, List.getElem?_cons_zero, List.getElem?_cons_succ] at e0 e1 e2 e3
    clear hb
    clear HOG HRG
    have HBY2 := hide (HBY.out.later HB.out)
    go_wp2_with fail
    refine (DrawFreeFrom_any ao n c _ hn6 hnc HBY2.out).mono ?_
    rintro e u1 ⟨r2, M2, m2, z2, a2, rfl, hrz, hM2, hrr, hb⟩
    have HB := hide (bl_step HB.out hb)
    have HZ2 := hide hrz
    have HR2 := hide hrr
    have b2R : M2 ≤ 1048576 := by omega
    clear hb hrz hrr
    obtain ⟨fv, hfv⟩ : ∃ fv, fromV z2 a2 = fv := ⟨_, rfl⟩
    have HFV := hide hfv
    have HF : Hid ((fromOk z2 a2 = true ∧ okSD z2 a2 fv = true ∧ freeV z2 a2 fv = true ∧ 0 < fv ∧ fv ≤ 4000 ∧ okSD z2 a2 (fv - 1) = true ∧ freeV z2 a2 (fv - 1) = false) ∨ (fromOk z2 a2 = true ∧ okSD z2 a2 fv = true ∧ freeV z2 a2 fv = true ∧ fv = 0) ∨ fromOk z2 a2 = false) := hide (by
      cases hk : fromOk z2 a2 with
      | false => exact .inr (.inr rfl)
      | true =>
        obtain ⟨h1, h2, h3, h4, h5⟩ := from_free hk
        rw [hfv] at h1 h2 h3 h4 h5
        have e1 : freeV z2 a2 fv = true := by unfold freeV; rw [h1]; exact h2
        by_cases h0 : 0 < fv
        · obtain ⟨h6, h7⟩ := h5 h0
          exact .inl ⟨rfl, h1, e1, h0, h4, h6, by unfold freeV; rw [h6]; exact h7⟩
        · exact .inr (.inl ⟨rfl, h1, e1, by omega⟩))
    clear hfv
    rcases HF.out with ⟨m0, m1, m2', m3', m4, m5, m6⟩ | ⟨m0, m1, m2', rfl⟩ | m0
    · have HM0 := hide m0
      have HM1 := hide m1
      have HM2 := hide m2'
      clear m1 m2'
      have HM5 := hide m5
      have HM6 := hide m6
      have m7 : IntKind.i64.wrap (fv - 1) = fv - 1 := IntWalk.i64_in _ (by omega)
      clear m5 m6
      clear m0 HF
      go_wp2_with fail
      refine (FreeFrom_any r2 M2 m2 z2 a2 _ HZ2.out b2R HR2.out).mono ?_
      rintro e w25 ⟨rfl, hb⟩
      have HR2 := hide (rd_step HR2.out hb)
      have HB := hide (bl_step HB.out hb)
      rw [HFV.out, HM0.out]
      clear hb
      go_wp2_with fail
      refine (sFreeFrom_any r2 M2 m2 z2 a2 _ HZ2.out b2R HR2.out).mono ?_
      rintro e w26 ⟨rfl, hb⟩
      have HR2 := hide (rd_step HR2.out hb)
      have HB := hide (bl_step HB.out hb)
      rw [HFV.out, HM0.out]
      clear hb
      go_wp2_with fail
      refine (IsFree_any r2 M2 m2 z2 a2 _ _ HZ2.out b2R HR2.out).mono ?_
      rintro e w27 ⟨rfl, hb⟩
      have HR2 := hide (rd_step HR2.out hb)
      have HB := hide (bl_step HB.out hb)
      rw [HM1.out, HM2.out]
      clear hb
      go_wp2_with fail
      refine (IsFree_any r2 M2 m2 z2 a2 (fv - 1) _ HZ2.out b2R HR2.out).mono ?_
      rintro e w28 ⟨rfl, hb⟩
      have HR2 := hide (rd_step HR2.out hb)
      have HB := hide (bl_step HB.out hb)
      rw [HM5.out, HM6.out]
      clear hb
      have HBY3 := hide (HBY.out.later HB.out)
      go_wp2_with fail
      refine (DrawPartLeft_any ao n c _ hn6 hnc HBY3.out).mono ?_
      rintro e u3 ⟨r3, M3, m3, z3, q3, N3, n3, y3, a3, b3, d3, rfl, hrz, hz, hM3, hN3, hmc3, hzc3, hrr, hr, hb⟩
      have HB := hide (bl_step HB.out hb)
      have HR2 := hide (rd_step HR2.out hb)
      have HZ3 := hide hrz
      have HY3 := hide hz
      have HR3 := hide hrr
      have HS3 := hide hr
      have b3R : M3 ≤ 1048576 := by omega
      have b3S : N3 ≤ 1048576 := by omega
      clear hb hrz hz hrr hr hmc3 hzc3
      obtain ⟨ob, hob⟩ : ∃ ob, okPL z3 y3 a3 b3 d3 = ob := ⟨_, rfl⟩
      obtain ⟨pv, hpv⟩ : ∃ pv, partV z3 y3 a3 b3 d3 = pv := ⟨_, rfl⟩
      obtain ⟨lw, hlw⟩ : ∃ lw, lawful z3 y3 = lw := ⟨_, rfl⟩
      obtain ⟨ar, har⟩ : ∃ ar, areR z2 = ar := ⟨_, rfl⟩
      have HOB := hide hob
      have HPV := hide hpv
      have HLW := hide hlw
      have HAR := hide har
      clear hob hpv hlw har
      go_wp2_with fail
      refine (PartLeft_any r3 M3 m3 z3 _ N3 n3 y3 a3 b3 d3 _ HZ3.out b3R HR3.out HY3.out b3S HS3.out).mono ?_
      rintro e w29 ⟨rfl, hb⟩
      have HR2 := hide (rd_step HR2.out hb)
      have HR3 := hide (rd_step HR3.out hb)
      have HS3 := hide (rd_step HS3.out hb)
      have HB := hide (bl_step HB.out hb)
      rw [HPV.out, HOB.out]
      clear hb
      go_wp2_with fail
      refine (sPartLeft_any r3 M3 m3 z3 _ N3 n3 y3 a3 b3 d3 _ HZ3.out b3R HR3.out HY3.out b3S HS3.out).mono ?_
      rintro e w30 ⟨rfl, hb⟩
      have HR2 := hide (rd_step HR2.out hb)
      have HR3 := hide (rd_step HR3.out hb)
      have HS3 := hide (rd_step HS3.out hb)
      have HB := hide (bl_step HB.out hb)
      rw [HPV.out, HOB.out]
      clear hb
      go_wp2_with fail
      refine (AreRights_any r2 M2 m2 z2 _ HZ2.out b2R HR2.out).mono ?_
      rintro e w31 ⟨rfl, hb⟩
      have HR2 := hide (rd_step HR2.out hb)
      have HR3 := hide (rd_step HR3.out hb)
      have HS3 := hide (rd_step HS3.out hb)
      have HB := hide (bl_step HB.out hb)
      rw [HAR.out]
      clear hb
      go_wp2_with fail
      refine (sAreRights_any r2 M2 m2 z2 _ HZ2.out b2R HR2.out).mono ?_
      rintro e w32 ⟨rfl, hb⟩
      have HR2 := hide (rd_step HR2.out hb)
      have HR3 := hide (rd_step HR3.out hb)
      have HS3 := hide (rd_step HS3.out hb)
      have HB := hide (bl_step HB.out hb)
      rw [HAR.out]
      clear hb
      go_wp2_with fail
      refine (AreLawful_any r3 M3 m3 z3 _ N3 n3 y3 _ HZ3.out b3R HR3.out HY3.out b3S HS3.out).mono ?_
      rintro e w33 ⟨rfl, hb⟩
      have HR2 := hide (rd_step HR2.out hb)
      have HR3 := hide (rd_step HR3.out hb)
      have HS3 := hide (rd_step HS3.out hb)
      have HB := hide (bl_step HB.out hb)
      rw [HLW.out]
      clear hb
      go_wp2_with fail
      refine (sAreLawful_any r3 M3 m3 z3 _ N3 n3 y3 _ HZ3.out b3R HR3.out HY3.out b3S HS3.out).mono ?_
      rintro e w34 ⟨rfl, hb⟩
      have HR2 := hide (rd_step HR2.out hb)
      have HR3 := hide (rd_step HR3.out hb)
      have HS3 := hide (rd_step HS3.out hb)
      have HB := hide (bl_step HB.out hb)
      rw [HLW.out]
      clear hb
      cases lw
      all_goals cases ar
      all_goals cases ob
      all_goals
        go_wp2
        go_ret
        exact ⟨rfl, HB.out⟩
    · have HM0 := hide m0
      have HM1 := hide m1
      have HM2 := hide m2'
      clear m1 m2'
      clear m0 HF
      go_wp2_with fail
      refine (FreeFrom_any r2 M2 m2 z2 a2 _ HZ2.out b2R HR2.out).mono ?_
      rintro e w25 ⟨rfl, hb⟩
      have HR2 := hide (rd_step HR2.out hb)
      have HB := hide (bl_step HB.out hb)
      rw [HFV.out, HM0.out]
      clear hb
      go_wp2_with fail
      refine (sFreeFrom_any r2 M2 m2 z2 a2 _ HZ2.out b2R HR2.out).mono ?_
      rintro e w26 ⟨rfl, hb⟩
      have HR2 := hide (rd_step HR2.out hb)
      have HB := hide (bl_step HB.out hb)
      rw [HFV.out, HM0.out]
      clear hb
      go_wp2_with fail
      refine (IsFree_any r2 M2 m2 z2 a2 _ _ HZ2.out b2R HR2.out).mono ?_
      rintro e w27 ⟨rfl, hb⟩
      have HR2 := hide (rd_step HR2.out hb)
      have HB := hide (bl_step HB.out hb)
      rw [HM1.out, HM2.out]
      clear hb
      have HBY3 := hide (HBY.out.later HB.out)
      go_wp2_with fail
      refine (DrawPartLeft_any ao n c _ hn6 hnc HBY3.out).mono ?_
      rintro e u3 ⟨r3, M3, m3, z3, q3, N3, n3, y3, a3, b3, d3, rfl, hrz, hz, hM3, hN3, hmc3, hzc3, hrr, hr, hb⟩
      have HB := hide (bl_step HB.out hb)
      have HR2 := hide (rd_step HR2.out hb)
      have HZ3 := hide hrz
      have HY3 := hide hz
      have HR3 := hide hrr
      have HS3 := hide hr
      have b3R : M3 ≤ 1048576 := by omega
      have b3S : N3 ≤ 1048576 := by omega
      clear hb hrz hz hrr hr hmc3 hzc3
      obtain ⟨ob, hob⟩ : ∃ ob, okPL z3 y3 a3 b3 d3 = ob := ⟨_, rfl⟩
      obtain ⟨pv, hpv⟩ : ∃ pv, partV z3 y3 a3 b3 d3 = pv := ⟨_, rfl⟩
      obtain ⟨lw, hlw⟩ : ∃ lw, lawful z3 y3 = lw := ⟨_, rfl⟩
      obtain ⟨ar, har⟩ : ∃ ar, areR z2 = ar := ⟨_, rfl⟩
      have HOB := hide hob
      have HPV := hide hpv
      have HLW := hide hlw
      have HAR := hide har
      clear hob hpv hlw har
      go_wp2_with fail
      refine (PartLeft_any r3 M3 m3 z3 _ N3 n3 y3 a3 b3 d3 _ HZ3.out b3R HR3.out HY3.out b3S HS3.out).mono ?_
      rintro e w28 ⟨rfl, hb⟩
      have HR2 := hide (rd_step HR2.out hb)
      have HR3 := hide (rd_step HR3.out hb)
      have HS3 := hide (rd_step HS3.out hb)
      have HB := hide (bl_step HB.out hb)
      rw [HPV.out, HOB.out]
      clear hb
      go_wp2_with fail
      refine (sPartLeft_any r3 M3 m3 z3 _ N3 n3 y3 a3 b3 d3 _ HZ3.out b3R HR3.out HY3.out b3S HS3.out).mono ?_
      rintro e w29 ⟨rfl, hb⟩
      have HR2 := hide (rd_step HR2.out hb)
      have HR3 := hide (rd_step HR3.out hb)
      have HS3 := hide (rd_step HS3.out hb)
      have HB := hide (bl_step HB.out hb)
      rw [HPV.out, HOB.out]
      clear hb
      go_wp2_with fail
      refine (AreRights_any r2 M2 m2 z2 _ HZ2.out b2R HR2.out).mono ?_
      rintro e w30 ⟨rfl, hb⟩
      have HR2 := hide (rd_step HR2.out hb)
      have HR3 := hide (rd_step HR3.out hb)
      have HS3 := hide (rd_step HS3.out hb)
      have HB := hide (bl_step HB.out hb)
      rw [HAR.out]
      clear hb
      go_wp2_with fail
      refine (sAreRights_any r2 M2 m2 z2 _ HZ2.out b2R HR2.out).mono ?_
      rintro e w31 ⟨rfl, hb⟩
      have HR2 := hide (rd_step HR2.out hb)
      have HR3 := hide (rd_step HR3.out hb)
      have HS3 := hide (rd_step HS3.out hb)
      have HB := hide (bl_step HB.out hb)
      rw [HAR.out]
      clear hb
      go_wp2_with fail
      refine (AreLawful_any r3 M3 m3 z3 _ N3 n3 y3 _ HZ3.out b3R HR3.out HY3.out b3S HS3.out).mono ?_
      rintro e w32 ⟨rfl, hb⟩
      have HR2 := hide (rd_step HR2.out hb)
      have HR3 := hide (rd_step HR3.out hb)
      have HS3 := hide (rd_step HS3.out hb)
      have HB := hide (bl_step HB.out hb)
      rw [HLW.out]
      clear hb
      go_wp2_with fail
      refine (sAreLawful_any r3 M3 m3 z3 _ N3 n3 y3 _ HZ3.out b3R HR3.out HY3.out b3S HS3.out).mono ?_
      rintro e w33 ⟨rfl, hb⟩
      have HR2 := hide (rd_step HR2.out hb)
      have HR3 := hide (rd_step HR3.out hb)
      have HS3 := hide (rd_step HS3.out hb)
      have HB := hide (bl_step HB.out hb)
      rw [HLW.out]
      clear hb
      cases lw
      all_goals cases ar
      all_goals cases ob
      all_goals
        go_wp2
        go_ret
        exact ⟨rfl, HB.out⟩
    · have HM0 := hide m0
      clear m0 HF
      go_wp2_with fail
      refine (FreeFrom_any r2 M2 m2 z2 a2 _ HZ2.out b2R HR2.out).mono ?_
      rintro e w25 ⟨rfl, hb⟩
      have HR2 := hide (rd_step HR2.out hb)
      have HB := hide (bl_step HB.out hb)
      rw [HFV.out, HM0.out]
      clear hb
      go_wp2_with fail
      refine (sFreeFrom_any r2 M2 m2 z2 a2 _ HZ2.out b2R HR2.out).mono ?_
      rintro e w26 ⟨rfl, hb⟩
      have HR2 := hide (rd_step HR2.out hb)
      have HB := hide (bl_step HB.out hb)
      rw [HFV.out, HM0.out]
      clear hb
      have HBY3 := hide (HBY.out.later HB.out)
      go_wp2_with fail
      refine (DrawPartLeft_any ao n c _ hn6 hnc HBY3.out).mono ?_
      rintro e u3 ⟨r3, M3, m3, z3, q3, N3, n3, y3, a3, b3, d3, rfl, hrz, hz, hM3, hN3, hmc3, hzc3, hrr, hr, hb⟩
      have HB := hide (bl_step HB.out hb)
      have HR2 := hide (rd_step HR2.out hb)
      have HZ3 := hide hrz
      have HY3 := hide hz
      have HR3 := hide hrr
      have HS3 := hide hr
      have b3R : M3 ≤ 1048576 := by omega
      have b3S : N3 ≤ 1048576 := by omega
      clear hb hrz hz hrr hr hmc3 hzc3
      obtain ⟨ob, hob⟩ : ∃ ob, okPL z3 y3 a3 b3 d3 = ob := ⟨_, rfl⟩
      obtain ⟨pv, hpv⟩ : ∃ pv, partV z3 y3 a3 b3 d3 = pv := ⟨_, rfl⟩
      obtain ⟨lw, hlw⟩ : ∃ lw, lawful z3 y3 = lw := ⟨_, rfl⟩
      obtain ⟨ar, har⟩ : ∃ ar, areR z2 = ar := ⟨_, rfl⟩
      have HOB := hide hob
      have HPV := hide hpv
      have HLW := hide hlw
      have HAR := hide har
      clear hob hpv hlw har
      go_wp2_with fail
      refine (PartLeft_any r3 M3 m3 z3 _ N3 n3 y3 a3 b3 d3 _ HZ3.out b3R HR3.out HY3.out b3S HS3.out).mono ?_
      rintro e w27 ⟨rfl, hb⟩
      have HR2 := hide (rd_step HR2.out hb)
      have HR3 := hide (rd_step HR3.out hb)
      have HS3 := hide (rd_step HS3.out hb)
      have HB := hide (bl_step HB.out hb)
      rw [HPV.out, HOB.out]
      clear hb
      go_wp2_with fail
      refine (sPartLeft_any r3 M3 m3 z3 _ N3 n3 y3 a3 b3 d3 _ HZ3.out b3R HR3.out HY3.out b3S HS3.out).mono ?_
      rintro e w28 ⟨rfl, hb⟩
      have HR2 := hide (rd_step HR2.out hb)
      have HR3 := hide (rd_step HR3.out hb)
      have HS3 := hide (rd_step HS3.out hb)
      have HB := hide (bl_step HB.out hb)
      rw [HPV.out, HOB.out]
      clear hb
      go_wp2_with fail
      refine (AreRights_any r2 M2 m2 z2 _ HZ2.out b2R HR2.out).mono ?_
      rintro e w29 ⟨rfl, hb⟩
      have HR2 := hide (rd_step HR2.out hb)
      have HR3 := hide (rd_step HR3.out hb)
      have HS3 := hide (rd_step HS3.out hb)
      have HB := hide (bl_step HB.out hb)
      rw [HAR.out]
      clear hb
      go_wp2_with fail
      refine (sAreRights_any r2 M2 m2 z2 _ HZ2.out b2R HR2.out).mono ?_
      rintro e w30 ⟨rfl, hb⟩
      have HR2 := hide (rd_step HR2.out hb)
      have HR3 := hide (rd_step HR3.out hb)
      have HS3 := hide (rd_step HS3.out hb)
      have HB := hide (bl_step HB.out hb)
      rw [HAR.out]
      clear hb
      go_wp2_with fail
      refine (AreLawful_any r3 M3 m3 z3 _ N3 n3 y3 _ HZ3.out b3R HR3.out HY3.out b3S HS3.out).mono ?_
      rintro e w31 ⟨rfl, hb⟩
      have HR2 := hide (rd_step HR2.out hb)
      have HR3 := hide (rd_step HR3.out hb)
      have HS3 := hide (rd_step HS3.out hb)
      have HB := hide (bl_step HB.out hb)
      rw [HLW.out]
      clear hb
      go_wp2_with fail
      refine (sAreLawful_any r3 M3 m3 z3 _ N3 n3 y3 _ HZ3.out b3R HR3.out HY3.out b3S HS3.out).mono ?_
      rintro e w32 ⟨rfl, hb⟩
      have HR2 := hide (rd_step HR2.out hb)
      have HR3 := hide (rd_step HR3.out hb)
      have HS3 := hide (rd_step HS3.out hb)
      have HB := hide (bl_step HB.out hb)
      rw [HLW.out]
      clear hb
      cases lw
      all_goals cases ar
      all_goals cases ob
      all_goals
        go_wp2
        go_ret
        exact ⟨rfl, HB.out⟩

end Go.Proofs.Ytpghdjehagamlaa
