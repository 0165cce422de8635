/- The law FnLonely walked. -/
import Derived.Test.YtpdfbijfklmonaaE4
import Derived.Test.YtpdfbijfklmonaaQ1
import Derived.Test.YtpdfbijfklmonaaM24
import Derived.Test.YtpdfbijfklmonaaM17
import Derived.Test.YtpdfbijfklmonaaM16
import Derived.Test.YtpdfbijfklmonaaM12
import Derived.Test.YtpdfbijfklmonaaM11
namespace Go.Proofs.Ytpdfbijfklmonaa
open Go.RowKit
set_option linter.unusedVariables false
set_option linter.unusedSimpArgs false

set_option maxRecDepth 100000 in
set_option maxHeartbeats 8000000 in
theorem law_FnLonely (ao : Option Addr) (n c : Nat) (w : World) (hn : n ≤ 9223372036854775807) (hnc : n ≤ c) (hby : Bytes w.heap.size w ao n) :
    Calls Try.prog 11 #[.slice ao n c] w fun e w' => e = .returned (.bool true) ∧ Below w.heap.size w w' := by
  have HBIG := hide (vBig_any ao n c w hn)
  by_cases hbig : 65536 < n
  · have hd : decide (65536 < n) = true := by simpa using hbig
    have HD := hide hd
    clear hd
    go_enter Try.func11, Try.ntmps11
    go_wp2_with fail
    refine HBIG.out.mono ?_
    rintro e w1 ⟨rfl, rfl⟩
    rw [HD.out]
    go_wp2
    go_ret
    exact ⟨rfl, Below.refl _ _⟩
  have HD : Hid (decide (65536 < n) = false) := hide (by simpa using hbig)
  have hn6 : n ≤ 65536 := by omega
  have HDR := hide (DrawAreLonely_any ao n c w hn6 hnc hby)
  have HBY := hide hby
  have HB := hide (Below.refl w.heap.size w)
  clear hby hbig
  go_enter Try.func11, Try.ntmps11
  go_wp2_with fail
  refine HBIG.out.mono ?_
  rintro e w' ⟨rfl, rfl⟩
  rw [HD.out]
  go_wp2_with fail
  refine HDR.out.mono ?_
  rintro e w1 ⟨a, b, v, zs, uq, zq, rfl, hl, hql, ho, hoq, hb⟩
  have HB := hide (bl_step HB.out hb)
  obtain ⟨N, hN⟩ : ∃ N, N = zs.length := ⟨_, rfl⟩
  rw [← hN] at ho hl
  obtain ⟨so, sc, rfl, hsc, _, hrd⟩ := own_rd encCv_len ho hN.symm
  have HZS := hide hN.symm
  have HRS := hide hrd
  have bS : N ≤ 1048576 := by omega
  clear ho hrd hN
  obtain ⟨NQ, hNQ⟩ : ∃ NQ, NQ = zq.length := ⟨_, rfl⟩
  rw [← hNQ] at hoq hql
  obtain ⟨qo, qc, rfl, hqc, _, hrd⟩ := own_rd encAr2_len hoq hNQ.symm
  have HZQ := hide hNQ.symm
  have HRQ := hide hrd
  have bQ : NQ ≤ 1048576 := by omega
  clear hoq hrd hNQ
  clear hb
  obtain ⟨P, hP⟩ : ∃ P, P = (fewV a b zs).length := ⟨_, rfl⟩
  have HP := hide hP
  clear hP
  have HK : Hid ((lonV a b zs zq = true ∧ okLon a b zs zq = true ∧ okFew a b zs = true) ∨ (lonV a b zs zq = true ∧ okLon a b zs zq = true ∧ okFew a b zs = false) ∨ (lonV a b zs zq = false ∧ okLon a b zs zq = true ∧ (okFew a b zs = okFew a b zs)) ∨ (lonV a b zs zq = false ∧ okLon a b zs zq = false ∧ (okFew a b zs = okFew a b zs))) := hide (by
    cases h1 : okLon a b zs zq with
    | false => exact .inr (.inr (.inr ⟨by unfold lonV; rw [h1]; rfl, rfl, rfl⟩))
    | true => cases h2 : lonV a b zs zq with
      | false => exact .inr (.inr (.inl ⟨rfl, rfl, rfl⟩))
      | true => cases h3 : okFew a b zs with
        | true => exact .inl ⟨rfl, rfl, rfl⟩
        | false => exact .inr (.inl ⟨rfl, rfl, rfl⟩))
  clear HBIG HDR HD
  rcases HK.out with ⟨k1, k2, k3⟩ | ⟨k1, k2, k3⟩ | ⟨k1, k2, k3⟩ | ⟨k1, k2, k3⟩
  · have hPN : ¬ P < NQ := by have := lone_few k1 k3; rw [HZQ.out, ← HP.out] at this; omega
    have hPN2 : ¬ (P : Int) < (NQ : Int) := by omega
    have HK1 := hide k1
    have HK2 := hide k2
    have HK3 := hide k3
    clear k1 k2 k3 HK
    go_wp2_with fail
    refine (AreLonely_any a b _ N sc zs _ NQ qc zq _ HZS.out bS HRS.out HZQ.out bQ HRQ.out).mono ?_
    rintro e w2 ⟨rfl, hb⟩
    have HRS := hide (rd_step HRS.out hb)
    have HRQ := hide (rd_step HRQ.out hb)
    have HB := hide (bl_step HB.out hb)
    rw [HK1.out, HK2.out]
    clear hb
    go_wp2_with fail
    refine (sAreLonely_any a b _ N sc zs _ NQ qc zq _ HZS.out bS HRS.out HZQ.out bQ HRQ.out).mono ?_
    rintro e w3 ⟨rfl, hb⟩
    have HRS := hide (rd_step HRS.out hb)
    have HRQ := hide (rd_step HRQ.out hb)
    have HB := hide (bl_step HB.out hb)
    rw [HK1.out, HK2.out]
    clear hb
    go_wp2_with fail
    refine (FewestCovers_any a b _ N sc zs _ HZS.out bS HRS.out).mono ?_
    rintro e w4 ⟨vf, rfl, ho, hb⟩
    have HRS := hide (rd_step HRS.out hb)
    have HRQ := hide (rd_step HRQ.out hb)
    have HB := hide (bl_step HB.out hb)
    rw [HK3.out]
    rw [← HP.out] at ho
    obtain ⟨fo, fc, rfl, hfc, _, hrd⟩ := own_rd encI_len ho HP.out.symm
    have HOF := hide ho
    have HRF := hide hrd
    clear ho hrd
    clear hb
    have HBY2 := hide (HBY.out.later HB.out)
    go_wp2_with fail
    refine (DrawProvesFewest_any ao n c _ hn6 hnc HBY2.out).mono ?_
    rintro e u1 ⟨a2, b2, s2, N2, c2, z2, io, M2, ic, is, ro, K2, rc, zr, rfl, hz2, hi2, hr2, hN2, hM2, hK2, hrz, hri, hrr, hb⟩
    have HB := hide (bl_step HB.out hb)
    have HZT := hide hz2
    have HZI := hide hi2
    have HZR := hide hr2
    have HRT := hide hrz
    have HRI := hide hri
    have HRR := hide hrr
    have bT : N2 ≤ 1048576 := by omega
    have bI : M2 ≤ 1048576 := by omega
    have bR : K2 ≤ 1048576 := by omega
    clear hb hz2 hi2 hr2 hrz hri hrr
    obtain ⟨P2, hP2⟩ : ∃ P2, P2 = (fewV a2 b2 z2).length := ⟨_, rfl⟩
    have HP2 := hide hP2
    clear hP2
    have HM : Hid ((pfV a2 b2 z2 is zr = true ∧ okPF a2 b2 z2 is zr = true) ∨ (pfV a2 b2 z2 is zr = false ∧ okPF a2 b2 z2 is zr = true) ∨ (pfV a2 b2 z2 is zr = false ∧ okPF a2 b2 z2 is zr = false)) := hide (by
      cases h1 : okPF a2 b2 z2 is zr with
      | false => exact .inr (.inr ⟨by unfold pfV; rw [h1]; rfl, rfl⟩)
      | true => cases h2 : pfV a2 b2 z2 is zr with
        | true => exact .inl ⟨rfl, rfl⟩
        | false => exact .inr (.inl ⟨rfl, rfl⟩))
    rcases HM.out with ⟨m1, m2⟩ | ⟨m1, m2⟩ | ⟨m1, m2⟩
    · have HFW := hide (proves_few m1)
      obtain rfl : P2 = M2 := by rw [HP2.out, HFW.out.2]; exact HZI.out
      have HM1 := hide m1
      have HM2 := hide m2
      clear m1 m2 HM
      go_wp2_with fail
      refine (ProvesFewest_any a2 b2 _ N2 c2 z2 _ P2 ic is _ K2 rc zr _ HZT.out bT HRT.out HZI.out bI HRI.out HZR.out bR HRR.out).mono ?_
      rintro e w61 ⟨rfl, hb⟩
      have HRT := hide (rd_step HRT.out hb)
      have HRI := hide (rd_step HRI.out hb)
      have HRR := hide (rd_step HRR.out hb)
      have HB := hide (bl_step HB.out hb)
      rw [HM1.out, HM2.out]
      clear hb
      go_wp2_with fail
      refine (sProvesFewest_any a2 b2 _ N2 c2 z2 _ P2 ic is _ K2 rc zr _ HZT.out bT HRT.out HZI.out bI HRI.out HZR.out bR HRR.out).mono ?_
      rintro e w62 ⟨rfl, hb⟩
      have HRT := hide (rd_step HRT.out hb)
      have HRI := hide (rd_step HRI.out hb)
      have HRR := hide (rd_step HRR.out hb)
      have HB := hide (bl_step HB.out hb)
      rw [HM1.out, HM2.out]
      clear hb
      go_wp2_with fail
      refine (FewestCovers_any a2 b2 _ N2 c2 z2 _ HZT.out bT HRT.out).mono ?_
      rintro e w63 ⟨vk, rfl, ho, hb⟩
      have HRT := hide (rd_step HRT.out hb)
      have HRI := hide (rd_step HRI.out hb)
      have HRR := hide (rd_step HRR.out hb)
      have HB := hide (bl_step HB.out hb)
      rw [HFW.out.1]
      rw [← HP2.out] at ho
      obtain ⟨ko, kc, rfl, hkc, _, hrd⟩ := own_rd encI_len ho HP2.out.symm
      have HOK := hide ho
      have HRK := hide hrd
      clear ho hrd
      clear hb
      have HBY3 := hide (HBY.out.later HB.out)
      go_wp2_with fail
      refine (DrawOnlyShownBy_any ao n c _ hn6 hnc HBY3.out).mono ?_
      rintro e u3 ⟨a3, b3, v3, z3, i3, rfl, hl3, ho, hb⟩
      have HB := hide (bl_step HB.out hb)
      obtain ⟨N3, hN3⟩ : ∃ N3, N3 = z3.length := ⟨_, rfl⟩
      rw [← hN3] at ho hl3
      obtain ⟨s3, c3, rfl, hc3, _, hrd⟩ := own_rd encCv_len ho hN3.symm
      have HZU := hide hN3.symm
      have HRU := hide hrd
      have bU : N3 ≤ 1048576 := by omega
      clear ho hrd hN3
      
      clear hb
      have hnn := only_nn (a := a3) (b := b3) (zs := z3) (s := i3)
      obtain ⟨ob, hob⟩ : ∃ ob, onlyOk a3 b3 z3 i3 = ob := ⟨_, rfl⟩
      have HOB := hide hob
      clear hob
      go_wp2_with fail
      refine (OnlyShownBy_any a3 b3 _ N3 c3 z3 i3 _ HZU.out bU HRU.out hc3).mono ?_
      rintro e w64 ⟨rfl, hb⟩
      have HRU := hide (rd_step HRU.out hb)
      have HB := hide (bl_step HB.out hb)
      rw [HOB.out]
      clear hb
      go_wp2_with fail
      refine (sOnlyShownBy_any a3 b3 _ N3 c3 z3 i3 _ HZU.out bU HRU.out hc3).mono ?_
      rintro e w65 ⟨rfl, hb⟩
      have HRU := hide (rd_step HRU.out hb)
      have HB := hide (bl_step HB.out hb)
      rw [HOB.out]
      clear hb
      cases ob
      all_goals
        go_wp2
        go_ret
        exact ⟨rfl, HB.out⟩
    · have HM1 := hide m1
      have HM2 := hide m2
      clear m1 m2 HM
      go_wp2_with fail
      refine (ProvesFewest_any a2 b2 _ N2 c2 z2 _ M2 ic is _ K2 rc zr _ HZT.out bT HRT.out HZI.out bI HRI.out HZR.out bR HRR.out).mono ?_
      rintro e w61 ⟨rfl, hb⟩
      have HRT := hide (rd_step HRT.out hb)
      have HRI := hide (rd_step HRI.out hb)
      have HRR := hide (rd_step HRR.out hb)
      have HB := hide (bl_step HB.out hb)
      rw [HM1.out, HM2.out]
      clear hb
      go_wp2_with fail
      refine (sProvesFewest_any a2 b2 _ N2 c2 z2 _ M2 ic is _ K2 rc zr _ HZT.out bT HRT.out HZI.out bI HRI.out HZR.out bR HRR.out).mono ?_
      rintro e w62 ⟨rfl, hb⟩
      have HRT := hide (rd_step HRT.out hb)
      have HRI := hide (rd_step HRI.out hb)
      have HRR := hide (rd_step HRR.out hb)
      have HB := hide (bl_step HB.out hb)
      rw [HM1.out, HM2.out]
      clear hb
      have HBY3 := hide (HBY.out.later HB.out)
      go_wp2_with fail
      refine (DrawOnlyShownBy_any ao n c _ hn6 hnc HBY3.out).mono ?_
      rintro e u3 ⟨a3, b3, v3, z3, i3, rfl, hl3, ho, hb⟩
      have HB := hide (bl_step HB.out hb)
      obtain ⟨N3, hN3⟩ : ∃ N3, N3 = z3.length := ⟨_, rfl⟩
      rw [← hN3] at ho hl3
      obtain ⟨s3, c3, rfl, hc3, _, hrd⟩ := own_rd encCv_len ho hN3.symm
      have HZU := hide hN3.symm
      have HRU := hide hrd
      have bU : N3 ≤ 1048576 := by omega
      clear ho hrd hN3
      
      clear hb
      have hnn := only_nn (a := a3) (b := b3) (zs := z3) (s := i3)
      obtain ⟨ob, hob⟩ : ∃ ob, onlyOk a3 b3 z3 i3 = ob := ⟨_, rfl⟩
      have HOB := hide hob
      clear hob
      go_wp2_with fail
      refine (OnlyShownBy_any a3 b3 _ N3 c3 z3 i3 _ HZU.out bU HRU.out hc3).mono ?_
      rintro e w63 ⟨rfl, hb⟩
      have HRU := hide (rd_step HRU.out hb)
      have HB := hide (bl_step HB.out hb)
      rw [HOB.out]
      clear hb
      go_wp2_with fail
      refine (sOnlyShownBy_any a3 b3 _ N3 c3 z3 i3 _ HZU.out bU HRU.out hc3).mono ?_
      rintro e w64 ⟨rfl, hb⟩
      have HRU := hide (rd_step HRU.out hb)
      have HB := hide (bl_step HB.out hb)
      rw [HOB.out]
      clear hb
      cases ob
      all_goals
        go_wp2
        go_ret
        exact ⟨rfl, HB.out⟩
    · have HM1 := hide m1
      have HM2 := hide m2
      clear m1 m2 HM
      go_wp2_with fail
      refine (ProvesFewest_any a2 b2 _ N2 c2 z2 _ M2 ic is _ K2 rc zr _ HZT.out bT HRT.out HZI.out bI HRI.out HZR.out bR HRR.out).mono ?_
      rintro e w61 ⟨rfl, hb⟩
      have HRT := hide (rd_step HRT.out hb)
      have HRI := hide (rd_step HRI.out hb)
      have HRR := hide (rd_step HRR.out hb)
      have HB := hide (bl_step HB.out hb)
      rw [HM1.out, HM2.out]
      clear hb
      go_wp2_with fail
      refine (sProvesFewest_any a2 b2 _ N2 c2 z2 _ M2 ic is _ K2 rc zr _ HZT.out bT HRT.out HZI.out bI HRI.out HZR.out bR HRR.out).mono ?_
      rintro e w62 ⟨rfl, hb⟩
      have HRT := hide (rd_step HRT.out hb)
      have HRI := hide (rd_step HRI.out hb)
      have HRR := hide (rd_step HRR.out hb)
      have HB := hide (bl_step HB.out hb)
      rw [HM1.out, HM2.out]
      clear hb
      have HBY3 := hide (HBY.out.later HB.out)
      go_wp2_with fail
      refine (DrawOnlyShownBy_any ao n c _ hn6 hnc HBY3.out).mono ?_
      rintro e u3 ⟨a3, b3, v3, z3, i3, rfl, hl3, ho, hb⟩
      have HB := hide (bl_step HB.out hb)
      obtain ⟨N3, hN3⟩ : ∃ N3, N3 = z3.length := ⟨_, rfl⟩
      rw [← hN3] at ho hl3
      obtain ⟨s3, c3, rfl, hc3, _, hrd⟩ := own_rd encCv_len ho hN3.symm
      have HZU := hide hN3.symm
      have HRU := hide hrd
      have bU : N3 ≤ 1048576 := by omega
      clear ho hrd hN3
      
      clear hb
      have hnn := only_nn (a := a3) (b := b3) (zs := z3) (s := i3)
      obtain ⟨ob, hob⟩ : ∃ ob, onlyOk a3 b3 z3 i3 = ob := ⟨_, rfl⟩
      have HOB := hide hob
      clear hob
      go_wp2_with fail
      refine (OnlyShownBy_any a3 b3 _ N3 c3 z3 i3 _ HZU.out bU HRU.out hc3).mono ?_
      rintro e w63 ⟨rfl, hb⟩
      have HRU := hide (rd_step HRU.out hb)
      have HB := hide (bl_step HB.out hb)
      rw [HOB.out]
      clear hb
      go_wp2_with fail
      refine (sOnlyShownBy_any a3 b3 _ N3 c3 z3 i3 _ HZU.out bU HRU.out hc3).mono ?_
      rintro e w64 ⟨rfl, hb⟩
      have HRU := hide (rd_step HRU.out hb)
      have HB := hide (bl_step HB.out hb)
      rw [HOB.out]
      clear hb
      cases ob
      all_goals
        go_wp2
        go_ret
        exact ⟨rfl, HB.out⟩
  · have HK1 := hide k1
    have HK2 := hide k2
    have HK3 := hide k3
    clear k1 k2 k3 HK
    go_wp2_with fail
    refine (AreLonely_any a b _ N sc zs _ NQ qc zq _ HZS.out bS HRS.out HZQ.out bQ HRQ.out).mono ?_
    rintro e w2 ⟨rfl, hb⟩
    have HRS := hide (rd_step HRS.out hb)
    have HRQ := hide (rd_step HRQ.out hb)
    have HB := hide (bl_step HB.out hb)
    rw [HK1.out, HK2.out]
    clear hb
    go_wp2_with fail
    refine (sAreLonely_any a b _ N sc zs _ NQ qc zq _ HZS.out bS HRS.out HZQ.out bQ HRQ.out).mono ?_
    rintro e w3 ⟨rfl, hb⟩
    have HRS := hide (rd_step HRS.out hb)
    have HRQ := hide (rd_step HRQ.out hb)
    have HB := hide (bl_step HB.out hb)
    rw [HK1.out, HK2.out]
    clear hb
    go_wp2_with fail
    refine (FewestCovers_any a b _ N sc zs _ HZS.out bS HRS.out).mono ?_
    rintro e w4 ⟨vf, rfl, ho, hb⟩
    have HRS := hide (rd_step HRS.out hb)
    have HRQ := hide (rd_step HRQ.out hb)
    have HB := hide (bl_step HB.out hb)
    rw [HK3.out]
    rw [← HP.out] at ho
    obtain ⟨fo, fc, rfl, hfc, _, hrd⟩ := own_rd encI_len ho HP.out.symm
    have HOF := hide ho
    have HRF := hide hrd
    clear ho hrd
    clear hb
    have HBY2 := hide (HBY.out.later HB.out)
    go_wp2_with fail
    refine (DrawProvesFewest_any ao n c _ hn6 hnc HBY2.out).mono ?_
    rintro e u1 ⟨a2, b2, s2, N2, c2, z2, io, M2, ic, is, ro, K2, rc, zr, rfl, hz2, hi2, hr2, hN2, hM2, hK2, hrz, hri, hrr, hb⟩
    have HB := hide (bl_step HB.out hb)
    have HZT := hide hz2
    have HZI := hide hi2
    have HZR := hide hr2
    have HRT := hide hrz
    have HRI := hide hri
    have HRR := hide hrr
    have bT : N2 ≤ 1048576 := by omega
    have bI : M2 ≤ 1048576 := by omega
    have bR : K2 ≤ 1048576 := by omega
    clear hb hz2 hi2 hr2 hrz hri hrr
    obtain ⟨P2, hP2⟩ : ∃ P2, P2 = (fewV a2 b2 z2).length := ⟨_, rfl⟩
    have HP2 := hide hP2
    clear hP2
    have HM : Hid ((pfV a2 b2 z2 is zr = true ∧ okPF a2 b2 z2 is zr = true) ∨ (pfV a2 b2 z2 is zr = false ∧ okPF a2 b2 z2 is zr = true) ∨ (pfV a2 b2 z2 is zr = false ∧ okPF a2 b2 z2 is zr = false)) := hide (by
      cases h1 : okPF a2 b2 z2 is zr with
      | false => exact .inr (.inr ⟨by unfold pfV; rw [h1]; rfl, rfl⟩)
      | true => cases h2 : pfV a2 b2 z2 is zr with
        | true => exact .inl ⟨rfl, rfl⟩
        | false => exact .inr (.inl ⟨rfl, rfl⟩))
    rcases HM.out with ⟨m1, m2⟩ | ⟨m1, m2⟩ | ⟨m1, m2⟩
    · have HFW := hide (proves_few m1)
      obtain rfl : P2 = M2 := by rw [HP2.out, HFW.out.2]; exact HZI.out
      have HM1 := hide m1
      have HM2 := hide m2
      clear m1 m2 HM
      go_wp2_with fail
      refine (ProvesFewest_any a2 b2 _ N2 c2 z2 _ P2 ic is _ K2 rc zr _ HZT.out bT HRT.out HZI.out bI HRI.out HZR.out bR HRR.out).mono ?_
      rintro e w61 ⟨rfl, hb⟩
      have HRT := hide (rd_step HRT.out hb)
      have HRI := hide (rd_step HRI.out hb)
      have HRR := hide (rd_step HRR.out hb)
      have HB := hide (bl_step HB.out hb)
      rw [HM1.out, HM2.out]
      clear hb
      go_wp2_with fail
      refine (sProvesFewest_any a2 b2 _ N2 c2 z2 _ P2 ic is _ K2 rc zr _ HZT.out bT HRT.out HZI.out bI HRI.out HZR.out bR HRR.out).mono ?_
      rintro e w62 ⟨rfl, hb⟩
      have HRT := hide (rd_step HRT.out hb)
      have HRI := hide (rd_step HRI.out hb)
      have HRR := hide (rd_step HRR.out hb)
      have HB := hide (bl_step HB.out hb)
      rw [HM1.out, HM2.out]
      clear hb
      go_wp2_with fail
      refine (FewestCovers_any a2 b2 _ N2 c2 z2 _ HZT.out bT HRT.out).mono ?_
      rintro e w63 ⟨vk, rfl, ho, hb⟩
      have HRT := hide (rd_step HRT.out hb)
      have HRI := hide (rd_step HRI.out hb)
      have HRR := hide (rd_step HRR.out hb)
      have HB := hide (bl_step HB.out hb)
      rw [HFW.out.1]
      rw [← HP2.out] at ho
      obtain ⟨ko, kc, rfl, hkc, _, hrd⟩ := own_rd encI_len ho HP2.out.symm
      have HOK := hide ho
      have HRK := hide hrd
      clear ho hrd
      clear hb
      have HBY3 := hide (HBY.out.later HB.out)
      go_wp2_with fail
      refine (DrawOnlyShownBy_any ao n c _ hn6 hnc HBY3.out).mono ?_
      rintro e u3 ⟨a3, b3, v3, z3, i3, rfl, hl3, ho, hb⟩
      have HB := hide (bl_step HB.out hb)
      obtain ⟨N3, hN3⟩ : ∃ N3, N3 = z3.length := ⟨_, rfl⟩
      rw [← hN3] at ho hl3
      obtain ⟨s3, c3, rfl, hc3, _, hrd⟩ := own_rd encCv_len ho hN3.symm
      have HZU := hide hN3.symm
      have HRU := hide hrd
      have bU : N3 ≤ 1048576 := by omega
      clear ho hrd hN3
      
      clear hb
      have hnn := only_nn (a := a3) (b := b3) (zs := z3) (s := i3)
      obtain ⟨ob, hob⟩ : ∃ ob, onlyOk a3 b3 z3 i3 = ob := ⟨_, rfl⟩
      have HOB := hide hob
      clear hob
      go_wp2_with fail
      refine (OnlyShownBy_any a3 b3 _ N3 c3 z3 i3 _ HZU.out bU HRU.out hc3).mono ?_
      rintro e w64 ⟨rfl, hb⟩
      have HRU := hide (rd_step HRU.out hb)
      have HB := hide (bl_step HB.out hb)
      rw [HOB.out]
      clear hb
      go_wp2_with fail
      refine (sOnlyShownBy_any a3 b3 _ N3 c3 z3 i3 _ HZU.out bU HRU.out hc3).mono ?_
      rintro e w65 ⟨rfl, hb⟩
      have HRU := hide (rd_step HRU.out hb)
      have HB := hide (bl_step HB.out hb)
      rw [HOB.out]
      clear hb
      cases ob
      all_goals
        go_wp2
        go_ret
        exact ⟨rfl, HB.out⟩
    · have HM1 := hide m1
      have HM2 := hide m2
      clear m1 m2 HM
      go_wp2_with fail
      refine (ProvesFewest_any a2 b2 _ N2 c2 z2 _ M2 ic is _ K2 rc zr _ HZT.out bT HRT.out HZI.out bI HRI.out HZR.out bR HRR.out).mono ?_
      rintro e w61 ⟨rfl, hb⟩
      have HRT := hide (rd_step HRT.out hb)
      have HRI := hide (rd_step HRI.out hb)
      have HRR := hide (rd_step HRR.out hb)
      have HB := hide (bl_step HB.out hb)
      rw [HM1.out, HM2.out]
      clear hb
      go_wp2_with fail
      refine (sProvesFewest_any a2 b2 _ N2 c2 z2 _ M2 ic is _ K2 rc zr _ HZT.out bT HRT.out HZI.out bI HRI.out HZR.out bR HRR.out).mono ?_
      rintro e w62 ⟨rfl, hb⟩
      have HRT := hide (rd_step HRT.out hb)
      have HRI := hide (rd_step HRI.out hb)
      have HRR := hide (rd_step HRR.out hb)
      have HB := hide (bl_step HB.out hb)
      rw [HM1.out, HM2.out]
      clear hb
      have HBY3 := hide (HBY.out.later HB.out)
      go_wp2_with fail
      refine (DrawOnlyShownBy_any ao n c _ hn6 hnc HBY3.out).mono ?_
      rintro e u3 ⟨a3, b3, v3, z3, i3, rfl, hl3, ho, hb⟩
      have HB := hide (bl_step HB.out hb)
      obtain ⟨N3, hN3⟩ : ∃ N3, N3 = z3.length := ⟨_, rfl⟩
      rw [← hN3] at ho hl3
      obtain ⟨s3, c3, rfl, hc3, _, hrd⟩ := own_rd encCv_len ho hN3.symm
      have HZU := hide hN3.symm
      have HRU := hide hrd
      have bU : N3 ≤ 1048576 := by omega
      clear ho hrd hN3
      
      clear hb
      have hnn := only_nn (a := a3) (b := b3) (zs := z3) (s := i3)
      obtain ⟨ob, hob⟩ : ∃ ob, onlyOk a3 b3 z3 i3 = ob := ⟨_, rfl⟩
      have HOB := hide hob
      clear hob
      go_wp2_with fail
      refine (OnlyShownBy_any a3 b3 _ N3 c3 z3 i3 _ HZU.out bU HRU.out hc3).mono ?_
      rintro e w63 ⟨rfl, hb⟩
      have HRU := hide (rd_step HRU.out hb)
      have HB := hide (bl_step HB.out hb)
      rw [HOB.out]
      clear hb
      go_wp2_with fail
      refine (sOnlyShownBy_any a3 b3 _ N3 c3 z3 i3 _ HZU.out bU HRU.out hc3).mono ?_
      rintro e w64 ⟨rfl, hb⟩
      have HRU := hide (rd_step HRU.out hb)
      have HB := hide (bl_step HB.out hb)
      rw [HOB.out]
      clear hb
      cases ob
      all_goals
        go_wp2
        go_ret
        exact ⟨rfl, HB.out⟩
    · have HM1 := hide m1
      have HM2 := hide m2
      clear m1 m2 HM
      go_wp2_with fail
      refine (ProvesFewest_any a2 b2 _ N2 c2 z2 _ M2 ic is _ K2 rc zr _ HZT.out bT HRT.out HZI.out bI HRI.out HZR.out bR HRR.out).mono ?_
      rintro e w61 ⟨rfl, hb⟩
      have HRT := hide (rd_step HRT.out hb)
      have HRI := hide (rd_step HRI.out hb)
      have HRR := hide (rd_step HRR.out hb)
      have HB := hide (bl_step HB.out hb)
      rw [HM1.out, HM2.out]
      clear hb
      go_wp2_with fail
      refine (sProvesFewest_any a2 b2 _ N2 c2 z2 _ M2 ic is _ K2 rc zr _ HZT.out bT HRT.out HZI.out bI HRI.out HZR.out bR HRR.out).mono ?_
      rintro e w62 ⟨rfl, hb⟩
      have HRT := hide (rd_step HRT.out hb)
      have HRI := hide (rd_step HRI.out hb)
      have HRR := hide (rd_step HRR.out hb)
      have HB := hide (bl_step HB.out hb)
      rw [HM1.out, HM2.out]
      clear hb
      have HBY3 := hide (HBY.out.later HB.out)
      go_wp2_with fail
      refine (DrawOnlyShownBy_any ao n c _ hn6 hnc HBY3.out).mono ?_
      rintro e u3 ⟨a3, b3, v3, z3, i3, rfl, hl3, ho, hb⟩
      have HB := hide (bl_step HB.out hb)
      obtain ⟨N3, hN3⟩ : ∃ N3, N3 = z3.length := ⟨_, rfl⟩
      rw [← hN3] at ho hl3
      obtain ⟨s3, c3, rfl, hc3, _, hrd⟩ := own_rd encCv_len ho hN3.symm
      have HZU := hide hN3.symm
      have HRU := hide hrd
      have bU : N3 ≤ 1048576 := by omega
      clear ho hrd hN3
      
      clear hb
      have hnn := only_nn (a := a3) (b := b3) (zs := z3) (s := i3)
      obtain ⟨ob, hob⟩ : ∃ ob, onlyOk a3 b3 z3 i3 = ob := ⟨_, rfl⟩
      have HOB := hide hob
      clear hob
      go_wp2_with fail
      refine (OnlyShownBy_any a3 b3 _ N3 c3 z3 i3 _ HZU.out bU HRU.out hc3).mono ?_
      rintro e w63 ⟨rfl, hb⟩
      have HRU := hide (rd_step HRU.out hb)
      have HB := hide (bl_step HB.out hb)
      rw [HOB.out]
      clear hb
      go_wp2_with fail
      refine (sOnlyShownBy_any a3 b3 _ N3 c3 z3 i3 _ HZU.out bU HRU.out hc3).mono ?_
      rintro e w64 ⟨rfl, hb⟩
      have HRU := hide (rd_step HRU.out hb)
      have HB := hide (bl_step HB.out hb)
      rw [HOB.out]
      clear hb
      cases ob
      all_goals
        go_wp2
        go_ret
        exact ⟨rfl, HB.out⟩
  · have HK1 := hide k1
    have HK2 := hide k2
    have HK3 := hide k3
    clear k1 k2 k3 HK
    go_wp2_with fail
    refine (AreLonely_any a b _ N sc zs _ NQ qc zq _ HZS.out bS HRS.out HZQ.out bQ HRQ.out).mono ?_
    rintro e w2 ⟨rfl, hb⟩
    have HRS := hide (rd_step HRS.out hb)
    have HRQ := hide (rd_step HRQ.out hb)
    have HB := hide (bl_step HB.out hb)
    rw [HK1.out, HK2.out]
    clear hb
    go_wp2_with fail
    refine (sAreLonely_any a b _ N sc zs _ NQ qc zq _ HZS.out bS HRS.out HZQ.out bQ HRQ.out).mono ?_
    rintro e w3 ⟨rfl, hb⟩
    have HRS := hide (rd_step HRS.out hb)
    have HRQ := hide (rd_step HRQ.out hb)
    have HB := hide (bl_step HB.out hb)
    rw [HK1.out, HK2.out]
    clear hb
    have HBY2 := hide (HBY.out.later HB.out)
    go_wp2_with fail
    refine (DrawProvesFewest_any ao n c _ hn6 hnc HBY2.out).mono ?_
    rintro e u1 ⟨a2, b2, s2, N2, c2, z2, io, M2, ic, is, ro, K2, rc, zr, rfl, hz2, hi2, hr2, hN2, hM2, hK2, hrz, hri, hrr, hb⟩
    have HB := hide (bl_step HB.out hb)
    have HZT := hide hz2
    have HZI := hide hi2
    have HZR := hide hr2
    have HRT := hide hrz
    have HRI := hide hri
    have HRR := hide hrr
    have bT : N2 ≤ 1048576 := by omega
    have bI : M2 ≤ 1048576 := by omega
    have bR : K2 ≤ 1048576 := by omega
    clear hb hz2 hi2 hr2 hrz hri hrr
    obtain ⟨P2, hP2⟩ : ∃ P2, P2 = (fewV a2 b2 z2).length := ⟨_, rfl⟩
    have HP2 := hide hP2
    clear hP2
    have HM : Hid ((pfV a2 b2 z2 is zr = true ∧ okPF a2 b2 z2 is zr = true) ∨ (pfV a2 b2 z2 is zr = false ∧ okPF a2 b2 z2 is zr = true) ∨ (pfV a2 b2 z2 is zr = false ∧ okPF a2 b2 z2 is zr = false)) := hide (by
      cases h1 : okPF a2 b2 z2 is zr with
      | false => exact .inr (.inr ⟨by unfold pfV; rw [h1]; rfl, rfl⟩)
      | true => cases h2 : pfV a2 b2 z2 is zr with
        | true => exact .inl ⟨rfl, rfl⟩
        | false => exact .inr (.inl ⟨rfl, rfl⟩))
    rcases HM.out with ⟨m1, m2⟩ | ⟨m1, m2⟩ | ⟨m1, m2⟩
    · have HFW := hide (proves_few m1)
      obtain rfl : P2 = M2 := by rw [HP2.out, HFW.out.2]; exact HZI.out
      have HM1 := hide m1
      have HM2 := hide m2
      clear m1 m2 HM
      go_wp2_with fail
      refine (ProvesFewest_any a2 b2 _ N2 c2 z2 _ P2 ic is _ K2 rc zr _ HZT.out bT HRT.out HZI.out bI HRI.out HZR.out bR HRR.out).mono ?_
      rintro e w61 ⟨rfl, hb⟩
      have HRT := hide (rd_step HRT.out hb)
      have HRI := hide (rd_step HRI.out hb)
      have HRR := hide (rd_step HRR.out hb)
      have HB := hide (bl_step HB.out hb)
      rw [HM1.out, HM2.out]
      clear hb
      go_wp2_with fail
      refine (sProvesFewest_any a2 b2 _ N2 c2 z2 _ P2 ic is _ K2 rc zr _ HZT.out bT HRT.out HZI.out bI HRI.out HZR.out bR HRR.out).mono ?_
      rintro e w62 ⟨rfl, hb⟩
      have HRT := hide (rd_step HRT.out hb)
      have HRI := hide (rd_step HRI.out hb)
      have HRR := hide (rd_step HRR.out hb)
      have HB := hide (bl_step HB.out hb)
      rw [HM1.out, HM2.out]
      clear hb
      go_wp2_with fail
      refine (FewestCovers_any a2 b2 _ N2 c2 z2 _ HZT.out bT HRT.out).mono ?_
      rintro e w63 ⟨vk, rfl, ho, hb⟩
      have HRT := hide (rd_step HRT.out hb)
      have HRI := hide (rd_step HRI.out hb)
      have HRR := hide (rd_step HRR.out hb)
      have HB := hide (bl_step HB.out hb)
      rw [HFW.out.1]
      rw [← HP2.out] at ho
      obtain ⟨ko, kc, rfl, hkc, _, hrd⟩ := own_rd encI_len ho HP2.out.symm
      have HOK := hide ho
      have HRK := hide hrd
      clear ho hrd
      clear hb
      have HBY3 := hide (HBY.out.later HB.out)
      go_wp2_with fail
      refine (DrawOnlyShownBy_any ao n c _ hn6 hnc HBY3.out).mono ?_
      rintro e u3 ⟨a3, b3, v3, z3, i3, rfl, hl3, ho, hb⟩
      have HB := hide (bl_step HB.out hb)
      obtain ⟨N3, hN3⟩ : ∃ N3, N3 = z3.length := ⟨_, rfl⟩
      rw [← hN3] at ho hl3
      obtain ⟨s3, c3, rfl, hc3, _, hrd⟩ := own_rd encCv_len ho hN3.symm
      have HZU := hide hN3.symm
      have HRU := hide hrd
      have bU : N3 ≤ 1048576 := by omega
      clear ho hrd hN3
      
      clear hb
      have hnn := only_nn (a := a3) (b := b3) (zs := z3) (s := i3)
      obtain ⟨ob, hob⟩ : ∃ ob, onlyOk a3 b3 z3 i3 = ob := ⟨_, rfl⟩
      have HOB := hide hob
      clear hob
      go_wp2_with fail
      refine (OnlyShownBy_any a3 b3 _ N3 c3 z3 i3 _ HZU.out bU HRU.out hc3).mono ?_
      rintro e w64 ⟨rfl, hb⟩
      have HRU := hide (rd_step HRU.out hb)
      have HB := hide (bl_step HB.out hb)
      rw [HOB.out]
      clear hb
      go_wp2_with fail
      refine (sOnlyShownBy_any a3 b3 _ N3 c3 z3 i3 _ HZU.out bU HRU.out hc3).mono ?_
      rintro e w65 ⟨rfl, hb⟩
      have HRU := hide (rd_step HRU.out hb)
      have HB := hide (bl_step HB.out hb)
      rw [HOB.out]
      clear hb
      cases ob
      all_goals
        go_wp2
        go_ret
        exact ⟨rfl, HB.out⟩
    · have HM1 := hide m1
      have HM2 := hide m2
      clear m1 m2 HM
      go_wp2_with fail
      refine (ProvesFewest_any a2 b2 _ N2 c2 z2 _ M2 ic is _ K2 rc zr _ HZT.out bT HRT.out HZI.out bI HRI.out HZR.out bR HRR.out).mono ?_
      rintro e w61 ⟨rfl, hb⟩
      have HRT := hide (rd_step HRT.out hb)
      have HRI := hide (rd_step HRI.out hb)
      have HRR := hide (rd_step HRR.out hb)
      have HB := hide (bl_step HB.out hb)
      rw [HM1.out, HM2.out]
      clear hb
      go_wp2_with fail
      refine (sProvesFewest_any a2 b2 _ N2 c2 z2 _ M2 ic is _ K2 rc zr _ HZT.out bT HRT.out HZI.out bI HRI.out HZR.out bR HRR.out).mono ?_
      rintro e w62 ⟨rfl, hb⟩
      have HRT := hide (rd_step HRT.out hb)
      have HRI := hide (rd_step HRI.out hb)
      have HRR := hide (rd_step HRR.out hb)
      have HB := hide (bl_step HB.out hb)
      rw [HM1.out, HM2.out]
      clear hb
      have HBY3 := hide (HBY.out.later HB.out)
      go_wp2_with fail
      refine (DrawOnlyShownBy_any ao n c _ hn6 hnc HBY3.out).mono ?_
      rintro e u3 ⟨a3, b3, v3, z3, i3, rfl, hl3, ho, hb⟩
      have HB := hide (bl_step HB.out hb)
      obtain ⟨N3, hN3⟩ : ∃ N3, N3 = z3.length := ⟨_, rfl⟩
      rw [← hN3] at ho hl3
      obtain ⟨s3, c3, rfl, hc3, _, hrd⟩ := own_rd encCv_len ho hN3.symm
      have HZU := hide hN3.symm
      have HRU := hide hrd
      have bU : N3 ≤ 1048576 := by omega
      clear ho hrd hN3
      
      clear hb
      have hnn := only_nn (a := a3) (b := b3) (zs := z3) (s := i3)
      obtain ⟨ob, hob⟩ : ∃ ob, onlyOk a3 b3 z3 i3 = ob := ⟨_, rfl⟩
      have HOB := hide hob
      clear hob
      go_wp2_with fail
      refine (OnlyShownBy_any a3 b3 _ N3 c3 z3 i3 _ HZU.out bU HRU.out hc3).mono ?_
      rintro e w63 ⟨rfl, hb⟩
      have HRU := hide (rd_step HRU.out hb)
      have HB := hide (bl_step HB.out hb)
      rw [HOB.out]
      clear hb
      go_wp2_with fail
      refine (sOnlyShownBy_any a3 b3 _ N3 c3 z3 i3 _ HZU.out bU HRU.out hc3).mono ?_
      rintro e w64 ⟨rfl, hb⟩
      have HRU := hide (rd_step HRU.out hb)
      have HB := hide (bl_step HB.out hb)
      rw [HOB.out]
      clear hb
      cases ob
      all_goals
        go_wp2
        go_ret
        exact ⟨rfl, HB.out⟩
    · have HM1 := hide m1
      have HM2 := hide m2
      clear m1 m2 HM
      go_wp2_with fail
      refine (ProvesFewest_any a2 b2 _ N2 c2 z2 _ M2 ic is _ K2 rc zr _ HZT.out bT HRT.out HZI.out bI HRI.out HZR.out bR HRR.out).mono ?_
      rintro e w61 ⟨rfl, hb⟩
      have HRT := hide (rd_step HRT.out hb)
      have HRI := hide (rd_step HRI.out hb)
      have HRR := hide (rd_step HRR.out hb)
      have HB := hide (bl_step HB.out hb)
      rw [HM1.out, HM2.out]
      clear hb
      go_wp2_with fail
      refine (sProvesFewest_any a2 b2 _ N2 c2 z2 _ M2 ic is _ K2 rc zr _ HZT.out bT HRT.out HZI.out bI HRI.out HZR.out bR HRR.out).mono ?_
      rintro e w62 ⟨rfl, hb⟩
      have HRT := hide (rd_step HRT.out hb)
      have HRI := hide (rd_step HRI.out hb)
      have HRR := hide (rd_step HRR.out hb)
      have HB := hide (bl_step HB.out hb)
      rw [HM1.out, HM2.out]
      clear hb
      have HBY3 := hide (HBY.out.later HB.out)
      go_wp2_with fail
      refine (DrawOnlyShownBy_any ao n c _ hn6 hnc HBY3.out).mono ?_
      rintro e u3 ⟨a3, b3, v3, z3, i3, rfl, hl3, ho, hb⟩
      have HB := hide (bl_step HB.out hb)
      obtain ⟨N3, hN3⟩ : ∃ N3, N3 = z3.length := ⟨_, rfl⟩
      rw [← hN3] at ho hl3
      obtain ⟨s3, c3, rfl, hc3, _, hrd⟩ := own_rd encCv_len ho hN3.symm
      have HZU := hide hN3.symm
      have HRU := hide hrd
      have bU : N3 ≤ 1048576 := by omega
      clear ho hrd hN3
      
      clear hb
      have hnn := only_nn (a := a3) (b := b3) (zs := z3) (s := i3)
      obtain ⟨ob, hob⟩ : ∃ ob, onlyOk a3 b3 z3 i3 = ob := ⟨_, rfl⟩
      have HOB := hide hob
      clear hob
      go_wp2_with fail
      refine (OnlyShownBy_any a3 b3 _ N3 c3 z3 i3 _ HZU.out bU HRU.out hc3).mono ?_
      rintro e w63 ⟨rfl, hb⟩
      have HRU := hide (rd_step HRU.out hb)
      have HB := hide (bl_step HB.out hb)
      rw [HOB.out]
      clear hb
      go_wp2_with fail
      refine (sOnlyShownBy_any a3 b3 _ N3 c3 z3 i3 _ HZU.out bU HRU.out hc3).mono ?_
      rintro e w64 ⟨rfl, hb⟩
      have HRU := hide (rd_step HRU.out hb)
      have HB := hide (bl_step HB.out hb)
      rw [HOB.out]
      clear hb
      cases ob
      all_goals
        go_wp2
        go_ret
        exact ⟨rfl, HB.out⟩
  · have HK1 := hide k1
    have HK2 := hide k2
    have HK3 := hide k3
    clear k1 k2 k3 HK
    go_wp2_with fail
    refine (AreLonely_any a b _ N sc zs _ NQ qc zq _ HZS.out bS HRS.out HZQ.out bQ HRQ.out).mono ?_
    rintro e w2 ⟨rfl, hb⟩
    have HRS := hide (rd_step HRS.out hb)
    have HRQ := hide (rd_step HRQ.out hb)
    have HB := hide (bl_step HB.out hb)
    rw [HK1.out, HK2.out]
    clear hb
    go_wp2_with fail
    refine (sAreLonely_any a b _ N sc zs _ NQ qc zq _ HZS.out bS HRS.out HZQ.out bQ HRQ.out).mono ?_
    rintro e w3 ⟨rfl, hb⟩
    have HRS := hide (rd_step HRS.out hb)
    have HRQ := hide (rd_step HRQ.out hb)
    have HB := hide (bl_step HB.out hb)
    rw [HK1.out, HK2.out]
    clear hb
    have HBY2 := hide (HBY.out.later HB.out)
    go_wp2_with fail
    refine (DrawProvesFewest_any ao n c _ hn6 hnc HBY2.out).mono ?_
    rintro e u1 ⟨a2, b2, s2, N2, c2, z2, io, M2, ic, is, ro, K2, rc, zr, rfl, hz2, hi2, hr2, hN2, hM2, hK2, hrz, hri, hrr, hb⟩
    have HB := hide (bl_step HB.out hb)
    have HZT := hide hz2
    have HZI := hide hi2
    have HZR := hide hr2
    have HRT := hide hrz
    have HRI := hide hri
    have HRR := hide hrr
    have bT : N2 ≤ 1048576 := by omega
    have bI : M2 ≤ 1048576 := by omega
    have bR : K2 ≤ 1048576 := by omega
    clear hb hz2 hi2 hr2 hrz hri hrr
    obtain ⟨P2, hP2⟩ : ∃ P2, P2 = (fewV a2 b2 z2).length := ⟨_, rfl⟩
    have HP2 := hide hP2
    clear hP2
    have HM : Hid ((pfV a2 b2 z2 is zr = true ∧ okPF a2 b2 z2 is zr = true) ∨ (pfV a2 b2 z2 is zr = false ∧ okPF a2 b2 z2 is zr = true) ∨ (pfV a2 b2 z2 is zr = false ∧ okPF a2 b2 z2 is zr = false)) := hide (by
      cases h1 : okPF a2 b2 z2 is zr with
      | false => exact .inr (.inr ⟨by unfold pfV; rw [h1]; rfl, rfl⟩)
      | true => cases h2 : pfV a2 b2 z2 is zr with
        | true => exact .inl ⟨rfl, rfl⟩
        | false => exact .inr (.inl ⟨rfl, rfl⟩))
    rcases HM.out with ⟨m1, m2⟩ | ⟨m1, m2⟩ | ⟨m1, m2⟩
    · have HFW := hide (proves_few m1)
      obtain rfl : P2 = M2 := by rw [HP2.out, HFW.out.2]; exact HZI.out
      have HM1 := hide m1
      have HM2 := hide m2
      clear m1 m2 HM
      go_wp2_with fail
      refine (ProvesFewest_any a2 b2 _ N2 c2 z2 _ P2 ic is _ K2 rc zr _ HZT.out bT HRT.out HZI.out bI HRI.out HZR.out bR HRR.out).mono ?_
      rintro e w61 ⟨rfl, hb⟩
      have HRT := hide (rd_step HRT.out hb)
      have HRI := hide (rd_step HRI.out hb)
      have HRR := hide (rd_step HRR.out hb)
      have HB := hide (bl_step HB.out hb)
      rw [HM1.out, HM2.out]
      clear hb
      go_wp2_with fail
      refine (sProvesFewest_any a2 b2 _ N2 c2 z2 _ P2 ic is _ K2 rc zr _ HZT.out bT HRT.out HZI.out bI HRI.out HZR.out bR HRR.out).mono ?_
      rintro e w62 ⟨rfl, hb⟩
      have HRT := hide (rd_step HRT.out hb)
      have HRI := hide (rd_step HRI.out hb)
      have HRR := hide (rd_step HRR.out hb)
      have HB := hide (bl_step HB.out hb)
      rw [HM1.out, HM2.out]
      clear hb
      go_wp2_with fail
      refine (FewestCovers_any a2 b2 _ N2 c2 z2 _ HZT.out bT HRT.out).mono ?_
      rintro e w63 ⟨vk, rfl, ho, hb⟩
      have HRT := hide (rd_step HRT.out hb)
      have HRI := hide (rd_step HRI.out hb)
      have HRR := hide (rd_step HRR.out hb)
      have HB := hide (bl_step HB.out hb)
      rw [HFW.out.1]
      rw [← HP2.out] at ho
      obtain ⟨ko, kc, rfl, hkc, _, hrd⟩ := own_rd encI_len ho HP2.out.symm
      have HOK := hide ho
      have HRK := hide hrd
      clear ho hrd
      clear hb
      have HBY3 := hide (HBY.out.later HB.out)
      go_wp2_with fail
      refine (DrawOnlyShownBy_any ao n c _ hn6 hnc HBY3.out).mono ?_
      rintro e u3 ⟨a3, b3, v3, z3, i3, rfl, hl3, ho, hb⟩
      have HB := hide (bl_step HB.out hb)
      obtain ⟨N3, hN3⟩ : ∃ N3, N3 = z3.length := ⟨_, rfl⟩
      rw [← hN3] at ho hl3
      obtain ⟨s3, c3, rfl, hc3, _, hrd⟩ := own_rd encCv_len ho hN3.symm
      have HZU := hide hN3.symm
      have HRU := hide hrd
      have bU : N3 ≤ 1048576 := by omega
      clear ho hrd hN3
      
      clear hb
      have hnn := only_nn (a := a3) (b := b3) (zs := z3) (s := i3)
      obtain ⟨ob, hob⟩ : ∃ ob, onlyOk a3 b3 z3 i3 = ob := ⟨_, rfl⟩
      have HOB := hide hob
      clear hob
      go_wp2_with fail
      refine (OnlyShownBy_any a3 b3 _ N3 c3 z3 i3 _ HZU.out bU HRU.out hc3).mono ?_
      rintro e w64 ⟨rfl, hb⟩
      have HRU := hide (rd_step HRU.out hb)
      have HB := hide (bl_step HB.out hb)
      rw [HOB.out]
      clear hb
      go_wp2_with fail
      refine (sOnlyShownBy_any a3 b3 _ N3 c3 z3 i3 _ HZU.out bU HRU.out hc3).mono ?_
      rintro e w65 ⟨rfl, hb⟩
      have HRU := hide (rd_step HRU.out hb)
      have HB := hide (bl_step HB.out hb)
      rw [HOB.out]
      clear hb
      cases ob
      all_goals
        go_wp2
        go_ret
        exact ⟨rfl, HB.out⟩
    · have HM1 := hide m1
      have HM2 := hide m2
      clear m1 m2 HM
      go_wp2_with fail
      refine (ProvesFewest_any a2 b2 _ N2 c2 z2 _ M2 ic is _ K2 rc zr _ HZT.out bT HRT.out HZI.out bI HRI.out HZR.out bR HRR.out).mono ?_
      rintro e w61 ⟨rfl, hb⟩
      have HRT := hide (rd_step HRT.out hb)
      have HRI := hide (rd_step HRI.out hb)
      have HRR := hide (rd_step HRR.out hb)
      have HB := hide (bl_step HB.out hb)
      rw [HM1.out, HM2.out]
      clear hb
      go_wp2_with fail
      refine (sProvesFewest_any a2 b2 _ N2 c2 z2 _ M2 ic is _ K2 rc zr _ HZT.out bT HRT.out HZI.out bI HRI.out HZR.out bR HRR.out).mono ?_
      rintro e w62 ⟨rfl, hb⟩
      have HRT := hide (rd_step HRT.out hb)
      have HRI := hide (rd_step HRI.out hb)
      have HRR := hide (rd_step HRR.out hb)
      have HB := hide (bl_step HB.out hb)
      rw [HM1.out, HM2.out]
      clear hb
      have HBY3 := hide (HBY.out.later HB.out)
      go_wp2_with fail
      refine (DrawOnlyShownBy_any ao n c _ hn6 hnc HBY3.out).mono ?_
      rintro e u3 ⟨a3, b3, v3, z3, i3, rfl, hl3, ho, hb⟩
      have HB := hide (bl_step HB.out hb)
      obtain ⟨N3, hN3⟩ : ∃ N3, N3 = z3.length := ⟨_, rfl⟩
      rw [← hN3] at ho hl3
      obtain ⟨s3, c3, rfl, hc3, _, hrd⟩ := own_rd encCv_len ho hN3.symm
      have HZU := hide hN3.symm
      have HRU := hide hrd
      have bU : N3 ≤ 1048576 := by omega
      clear ho hrd hN3
      
      clear hb
      have hnn := only_nn (a := a3) (b := b3) (zs := z3) (s := i3)
      obtain ⟨ob, hob⟩ : ∃ ob, onlyOk a3 b3 z3 i3 = ob := ⟨_, rfl⟩
      have HOB := hide hob
      clear hob
      go_wp2_with fail
      refine (OnlyShownBy_any a3 b3 _ N3 c3 z3 i3 _ HZU.out bU HRU.out hc3).mono ?_
      rintro e w63 ⟨rfl, hb⟩
      have HRU := hide (rd_step HRU.out hb)
      have HB := hide (bl_step HB.out hb)
      rw [HOB.out]
      clear hb
      go_wp2_with fail
      refine (sOnlyShownBy_any a3 b3 _ N3 c3 z3 i3 _ HZU.out bU HRU.out hc3).mono ?_
      rintro e w64 ⟨rfl, hb⟩
      have HRU := hide (rd_step HRU.out hb)
      have HB := hide (bl_step HB.out hb)
      rw [HOB.out]
      clear hb
      cases ob
      all_goals
        go_wp2
        go_ret
        exact ⟨rfl, HB.out⟩
    · have HM1 := hide m1
      have HM2 := hide m2
      clear m1 m2 HM
      go_wp2_with fail
      refine (ProvesFewest_any a2 b2 _ N2 c2 z2 _ M2 ic is _ K2 rc zr _ HZT.out bT HRT.out HZI.out bI HRI.out HZR.out bR HRR.out).mono ?_
      rintro e w61 ⟨rfl, hb⟩
      have HRT := hide (rd_step HRT.out hb)
      have HRI := hide (rd_step HRI.out hb)
      have HRR := hide (rd_step HRR.out hb)
      have HB := hide (bl_step HB.out hb)
      rw [HM1.out, HM2.out]
      clear hb
      go_wp2_with fail
      refine (sProvesFewest_any a2 b2 _ N2 c2 z2 _ M2 ic is _ K2 rc zr _ HZT.out bT HRT.out HZI.out bI HRI.out HZR.out bR HRR.out).mono ?_
      rintro e w62 ⟨rfl, hb⟩
      have HRT := hide (rd_step HRT.out hb)
      have HRI := hide (rd_step HRI.out hb)
      have HRR := hide (rd_step HRR.out hb)
      have HB := hide (bl_step HB.out hb)
      rw [HM1.out, HM2.out]
      clear hb
      have HBY3 := hide (HBY.out.later HB.out)
      go_wp2_with fail
      refine (DrawOnlyShownBy_any ao n c _ hn6 hnc HBY3.out).mono ?_
      rintro e u3 ⟨a3, b3, v3, z3, i3, rfl, hl3, ho, hb⟩
      have HB := hide (bl_step HB.out hb)
      obtain ⟨N3, hN3⟩ : ∃ N3, N3 = z3.length := ⟨_, rfl⟩
      rw [← hN3] at ho hl3
      obtain ⟨s3, c3, rfl, hc3, _, hrd⟩ := own_rd encCv_len ho hN3.symm
      have HZU := hide hN3.symm
      have HRU := hide hrd
      have bU : N3 ≤ 1048576 := by omega
      clear ho hrd hN3
      
      clear hb
      have hnn := only_nn (a := a3) (b := b3) (zs := z3) (s := i3)
      obtain ⟨ob, hob⟩ : ∃ ob, onlyOk a3 b3 z3 i3 = ob := ⟨_, rfl⟩
      have HOB := hide hob
      clear hob
      go_wp2_with fail
      refine (OnlyShownBy_any a3 b3 _ N3 c3 z3 i3 _ HZU.out bU HRU.out hc3).mono ?_
      rintro e w63 ⟨rfl, hb⟩
      have HRU := hide (rd_step HRU.out hb)
      have HB := hide (bl_step HB.out hb)
      rw [HOB.out]
      clear hb
      go_wp2_with fail
      refine (sOnlyShownBy_any a3 b3 _ N3 c3 z3 i3 _ HZU.out bU HRU.out hc3).mono ?_
      rintro e w64 ⟨rfl, hb⟩
      have HRU := hide (rd_step HRU.out hb)
      have HB := hide (bl_step HB.out hb)
      rw [HOB.out]
      clear hb
      cases ob
      all_goals
        go_wp2
        go_ret
        exact ⟨rfl, HB.out⟩

end Go.Proofs.Ytpdfbijfklmonaa
