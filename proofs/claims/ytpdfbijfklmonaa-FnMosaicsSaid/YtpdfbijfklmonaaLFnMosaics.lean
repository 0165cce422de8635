/- The law FnMosaics walked. -/
import Derived.Test.YtpdfbijfklmonaaE3
import Derived.Test.YtpdfbijfklmonaaQ1
import Derived.Test.YtpdfbijfklmonaaM27
import Derived.Test.YtpdfbijfklmonaaM24
import Derived.Test.YtpdfbijfklmonaaM20
import Derived.Test.YtpdfbijfklmonaaM19
import Derived.Test.YtpdfbijfklmonaaM9
import Derived.Test.YtpdfbijfklmonaaM6
namespace Go.Proofs.Ytpdfbijfklmonaa
open Go.RowKit
set_option linter.unusedVariables false
set_option linter.unusedSimpArgs false

set_option maxRecDepth 100000 in
set_option maxHeartbeats 8000000 in
theorem law_FnMosaics (ao : Option Addr) (n c : Nat) (w : World) (hn : n ≤ 9223372036854775807) (hnc : n ≤ c) (hby : Bytes w.heap.size w ao n) :
    Calls Try.prog 10 #[.slice ao n c] w fun e w' => e = .returned (.bool true) ∧ Below w.heap.size w w' := by
  have HBIG := hide (vBig_any ao n c w hn)
  by_cases hbig : 65536 < n
  · have hd : decide (65536 < n) = true := by simpa using hbig
    have HD := hide hd
    clear hd
    go_enter Try.func10, Try.ntmps10
    go_wp2_with fail
    refine HBIG.out.mono ?_
    rintro e w1 ⟨rfl, rfl⟩
    rw [HD.out]
    go_wp2
    go_ret
    exact ⟨rfl, Below.refl _ _⟩
  have HD : Hid (decide (65536 < n) = false) := hide (by simpa using hbig)
  have hn6 : n ≤ 65536 := by omega
  have HDR := hide (DrawFewestCovers_any ao n c w hn6 hnc hby)
  have HBY := hide hby
  have HB := hide (Below.refl w.heap.size w)
  clear hby hbig
  go_enter Try.func10, Try.ntmps10
  go_wp2_with fail
  refine HBIG.out.mono ?_
  rintro e w' ⟨rfl, rfl⟩
  rw [HD.out]
  go_wp2_with fail
  refine HDR.out.mono ?_
  rintro e w1 ⟨a, b, v, zs, rfl, hl, ho, ha, hbb, hb⟩
  have HB := hide (bl_step HB.out hb)
  obtain ⟨N, hN⟩ : ∃ N, N = zs.length := ⟨_, rfl⟩
  rw [← hN] at ho hl
  obtain ⟨so, sc, rfl, hsc, _, hrd⟩ := own_rd encCv_len ho hN.symm
  have HZS := hide hN.symm
  have HRS := hide hrd
  have bS : N ≤ 1048576 := by omega
  clear ho hrd hN
  clear hb ha hbb
  obtain ⟨P, hP⟩ : ∃ P, P = (fewV a b zs).length := ⟨_, rfl⟩
  have bP : P ≤ 1048576 := by rw [hP]; exact Nat.le_trans few_len (by rw [HZS.out]; exact bS)
  have HP := hide hP
  obtain ⟨Q, hQ⟩ : ∃ Q, Q = (cheV a b zs).length := ⟨_, rfl⟩
  have bQ : Q ≤ 1048576 := by rw [hQ]; exact Nat.le_trans che_len (by rw [HZS.out]; exact bS)
  have HQ := hide hQ
  clear hP hQ
  have HK : Hid ((okFew a b zs = true ∧ wallB a b zs = true ∧ bareV a b zs = 0) ∨ (okFew a b zs = false ∧ wallB a b zs = false ∧ bareV a b zs = 0) ∨ (okFew a b zs = false ∧ wallB a b zs = true ∧ ¬ bareV a b zs = 0)) := hide (by
    have h := few_bare (a := a) (b := b) (zs := zs)
    cases hw : wallB a b zs with
    | false => rw [hw] at h; exact .inr (.inl ⟨h, rfl, by unfold bareV; rw [hw]; rfl⟩)
    | true =>
      rw [hw] at h
      by_cases h0 : bareV a b zs = 0
      · rw [h0] at h; exact .inl ⟨h, rfl, h0⟩
      · refine .inr (.inr ⟨?_, rfl, h0⟩)
        rw [h]; simpa using h0)
  clear HBIG HDR HD
  rcases HK.out with ⟨k1, k2, k3⟩ | ⟨k1, k2, k3⟩ | ⟨k1, k2, k3⟩
  · obtain ⟨cb, hcb⟩ : ∃ cb, coversB zs = cb := ⟨_, rfl⟩
    have HCB := hide hcb
    clear hcb HK
    have HOK := hide k1
    have HWL := hide k2
    have HBR := hide k3
    have HM1 := hide (top_mos (pr := false) k1)
    have HM2 := hide (top_mos (pr := true) k1)
    have HN1 := hide (top_need (pr := false) k1)
    have HN2 := hide (top_need (pr := true) k1)
    have HFE := hide (few_eq k1)
    have HCE := hide (che_eq k1).1
    have hPQ : P ≤ Q := by rw [HP.out, HQ.out]; exact few_le_che k1
    have hPQ2 : (P : Int) ≤ (Q : Int) := by omega
    have hPQ3 : decide (Q < P) = false := by simpa using hPQ
    have hEND := psum_end k1 HZS.out
    have HGD := hide (good_of (few_ok k1).2.1)
    have hN10 : N ≤ 10 := by have := (few_ok k1).2.2.1; rw [HZS.out] at this; exact this
    clear k1 k2 k3
    go_wp2_with fail
    refine (FewestCovers_any a b _ N sc zs _ HZS.out bS HRS.out).mono ?_
    rintro e w2 ⟨vf, rfl, ho, hb⟩
    have HRS := hide (rd_step HRS.out hb)
    have HB := hide (bl_step HB.out hb)
    rw [HOK.out]
    rw [← HP.out] at ho
    obtain ⟨fo, fc, rfl, hfc, _, hrd⟩ := own_rd encI_len ho HP.out.symm
    have HOF := hide ho
    have HRF := hide hrd
    clear ho hrd
    clear hb
    go_wp2_with fail
    refine (sFewestCovers_any a b _ N sc zs _ HZS.out bS HRS.out).mono ?_
    rintro e w3 ⟨vg, rfl, ho, hb⟩
    have HRS := hide (rd_step HRS.out hb)
    have HRF := hide (rd_step HRF.out hb)
    have HOF := hide (own_step HOF.out hb)
    have HB := hide (bl_step HB.out hb)
    rw [HOK.out]
    rw [← HP.out] at ho
    obtain ⟨go_, gc, rfl, hgc, _, hrd⟩ := own_rd encI_len ho HP.out.symm
    have HOG := hide ho
    have HRG := hide hrd
    clear ho hrd
    clear hb
    go_wp2_with fail
    refine (vInts_own _ _ P (fewV a b zs) _ HOF.out HOG.out HP.out.symm bP).mono ?_
    rintro e w4 ⟨rfl, hb⟩
    have HRS := hide (rd_step HRS.out hb)
    have HRF := hide (rd_step HRF.out hb)
    have HRG := hide (rd_step HRG.out hb)
    have HOF := hide (own_step HOF.out hb)
    have HOG := hide (own_step HOG.out hb)
    have HB := hide (bl_step HB.out hb)
    clear hb
    clear HOG HRG
    go_wp2_with fail
    refine (AreCovers_any _ N sc zs _ HZS.out bS HRS.out).mono ?_
    rintro e w5 ⟨rfl, hb⟩
    have HRS := hide (rd_step HRS.out hb)
    have HRF := hide (rd_step HRF.out hb)
    have HOF := hide (own_step HOF.out hb)
    have HB := hide (bl_step HB.out hb)
    rw [HCB.out]
    clear hb
    go_wp2_with fail
    refine (sAreCovers_any _ N sc zs _ HZS.out bS HRS.out).mono ?_
    rintro e w6 ⟨rfl, hb⟩
    have HRS := hide (rd_step HRS.out hb)
    have HRF := hide (rd_step HRF.out hb)
    have HOF := hide (own_step HOF.out hb)
    have HB := hide (bl_step HB.out hb)
    rw [HCB.out]
    clear hb
    go_wp2_with fail
    refine (CheapestCovers_any a b _ N sc zs _ HZS.out bS HRS.out).mono ?_
    rintro e w7 ⟨vc, rfl, ho, hb⟩
    have HRS := hide (rd_step HRS.out hb)
    have HRF := hide (rd_step HRF.out hb)
    have HOF := hide (own_step HOF.out hb)
    have HB := hide (bl_step HB.out hb)
    rw [HOK.out]
    rw [← HQ.out] at ho
    obtain ⟨co, cc, rfl, hcc, _, hrd⟩ := own_rd encI_len ho HQ.out.symm
    have HOC := hide ho
    have HRC := hide hrd
    clear ho hrd
    clear hb
    go_wp2_with fail
    refine (sCheapestCovers_any a b _ N sc zs _ HZS.out bS HRS.out).mono ?_
    rintro e w8 ⟨vd, rfl, ho, hb⟩
    have HRS := hide (rd_step HRS.out hb)
    have HRF := hide (rd_step HRF.out hb)
    have HRC := hide (rd_step HRC.out hb)
    have HOF := hide (own_step HOF.out hb)
    have HOC := hide (own_step HOC.out hb)
    have HB := hide (bl_step HB.out hb)
    rw [HOK.out]
    rw [← HQ.out] at ho
    obtain ⟨do_, dc, rfl, hdc, _, hrd⟩ := own_rd encI_len ho HQ.out.symm
    have HOD := hide ho
    have HRD := hide hrd
    clear ho hrd
    clear hb
    go_wp2_with fail
    refine (vInts_own _ _ Q (cheV a b zs) _ HOC.out HOD.out HQ.out.symm bQ).mono ?_
    rintro e w9 ⟨rfl, hb⟩
    have HRS := hide (rd_step HRS.out hb)
    have HRF := hide (rd_step HRF.out hb)
    have HRC := hide (rd_step HRC.out hb)
    have HRD := hide (rd_step HRD.out hb)
    have HOF := hide (own_step HOF.out hb)
    have HOC := hide (own_step HOC.out hb)
    have HOD := hide (own_step HOD.out hb)
    have HB := hide (bl_step HB.out hb)
    clear hb
    clear HOD HRD
    go_wp2_with fail
    refine (BareSquares_any a b _ N sc zs _ HZS.out bS HRS.out).mono ?_
    rintro e w10 ⟨rfl, hb⟩
    have HRS := hide (rd_step HRS.out hb)
    have HRF := hide (rd_step HRF.out hb)
    have HRC := hide (rd_step HRC.out hb)
    have HOF := hide (own_step HOF.out hb)
    have HOC := hide (own_step HOC.out hb)
    have HB := hide (bl_step HB.out hb)
    rw [HWL.out, HBR.out]
    clear hb
    go_wp2_with fail
    refine (sBareSquares_any a b _ N sc zs _ HZS.out bS HRS.out).mono ?_
    rintro e w11 ⟨rfl, hb⟩
    have HRS := hide (rd_step HRS.out hb)
    have HRF := hide (rd_step HRF.out hb)
    have HRC := hide (rd_step HRC.out hb)
    have HOF := hide (own_step HOF.out hb)
    have HOC := hide (own_step HOC.out hb)
    have HB := hide (bl_step HB.out hb)
    rw [HWL.out, HBR.out]
    clear hb
    have HF1 : Hid (mosV a b zs (fewV a b zs) = true ∧ okMos a b zs (fewV a b zs) = true) := hide (by rw [HFE.out]; exact ⟨HM1.out.2.1, HM1.out.1⟩)
    have HF2 : Hid (mosV a b zs (cheV a b zs) = true ∧ okMos a b zs (cheV a b zs) = true) := hide (by rw [HCE.out]; exact ⟨HM2.out.2.1, HM2.out.1⟩)
    have HF3 : Hid (needL a b zs (fewV a b zs) = []) := hide (by rw [HFE.out]; exact HN1.out)
    have HF4 : Hid (needL a b zs (cheV a b zs) = []) := hide (by rw [HCE.out]; exact HN2.out)
    go_wp2_with fail
    refine (IsMosaic_any a b _ N sc zs _ P fc (fewV a b zs) _ HZS.out bS HRS.out HP.out.symm bP HRF.out).mono ?_
    rintro e w12 ⟨rfl, hb⟩
    have HRS := hide (rd_step HRS.out hb)
    have HRF := hide (rd_step HRF.out hb)
    have HRC := hide (rd_step HRC.out hb)
    have HOF := hide (own_step HOF.out hb)
    have HOC := hide (own_step HOC.out hb)
    have HB := hide (bl_step HB.out hb)
    rw [HF1.out.1, HF1.out.2]
    clear hb
    go_wp2_with fail
    refine (IsMosaic_any a b _ N sc zs _ Q cc (cheV a b zs) _ HZS.out bS HRS.out HQ.out.symm bQ HRC.out).mono ?_
    rintro e w13 ⟨rfl, hb⟩
    have HRS := hide (rd_step HRS.out hb)
    have HRF := hide (rd_step HRF.out hb)
    have HRC := hide (rd_step HRC.out hb)
    have HOF := hide (own_step HOF.out hb)
    have HOC := hide (own_step HOC.out hb)
    have HB := hide (bl_step HB.out hb)
    rw [HF2.out.1, HF2.out.2]
    clear hb
    go_wp2_with fail
    refine (NeedlessCovers_any a b _ N sc zs _ P fc (fewV a b zs) _ HZS.out bS HRS.out HP.out.symm bP HRF.out).mono ?_
    rintro e w14 ⟨vx, rfl, ho, hb⟩
    have HRS := hide (rd_step HRS.out hb)
    have HRF := hide (rd_step HRF.out hb)
    have HRC := hide (rd_step HRC.out hb)
    have HOF := hide (own_step HOF.out hb)
    have HOC := hide (own_step HOC.out hb)
    have HB := hide (bl_step HB.out hb)
    rw [HF1.out.1]
    rw [HF3.out] at ho
    obtain ⟨xo, xc, rfl, _, _, _⟩ := own_rd encI_len ho rfl
    simp only [List.length_nil]
    clear ho
    clear hb
    go_wp2_with fail
    refine (NeedlessCovers_any a b _ N sc zs _ Q cc (cheV a b zs) _ HZS.out bS HRS.out HQ.out.symm bQ HRC.out).mono ?_
    rintro e w15 ⟨vy, rfl, ho, hb⟩
    have HRS := hide (rd_step HRS.out hb)
    have HRF := hide (rd_step HRF.out hb)
    have HRC := hide (rd_step HRC.out hb)
    have HOF := hide (own_step HOF.out hb)
    have HOC := hide (own_step HOC.out hb)
    have HB := hide (bl_step HB.out hb)
    rw [HF2.out.1]
    rw [HF4.out] at ho
    obtain ⟨yo, yc, rfl, _, _, _⟩ := own_rd encI_len ho rfl
    simp only [List.length_nil]
    clear ho
    clear hb
    go_wp2_with fail
    go_loopg [28, 29] N (fun gk s i wr => ∃ k : Nat, k ≤ N ∧ N - k ≤ gk ∧ i = .int .i64 (k : Int) ∧ s = .int .i64 (psum zs (fewV a b zs) k) ∧ Aside (Below w.heap.size w wr) ∧ Aside (Below w15.heap.size w15 wr))
    case atStart => exact ⟨0, by omega, by omega, rfl, rfl, HB.out, Below.refl _ _⟩
    case round =>
      obtain ⟨k, hk, hgk, rfl, rfl, BW, BV⟩ := hrel
      have HRSr := hide (rd_step HRS.out BV.out)
      have HRFr := hide (rd_step HRF.out BV.out)
      have hps := psum_bd HGD.out (fewV a b zs) k
      have HB := hide BW.out
      clear BW
      by_cases hlt : k < N
      · have hlti : (k : Int) < (N : Int) := by omega
        have hk0 : (0 : Int) ≤ (k : Int) := by omega
        obtain ⟨bb, off, rfl, hbl, hat⟩ := rdCv HRSr.out (by rw [HZS.out]; omega)
        obtain ⟨x, hx, hxc⟩ := hat k (by rw [HZS.out]; exact hlt)
        have HX := hide hx
        have hxp := good_p HGD.out x (List.mem_of_getElem? hx)
        obtain ⟨_, c0, _, _, _, _, c5⟩ := hxc wr (Below.refl _ _)
        have HXC := hide (fun w2 (hw : Below wr.heap.size wr w2) => (hxc w2 hw).2.2.2.2.2.2)
        clear hx hxc hat
        go_wp2_with fail
        refine (vHas_any _ P fc (fewV a b zs) x.i _ HP.out.symm bP HRFr.out).mono ?_
        rintro e wh ⟨rfl, hb⟩
        have HB := hide (bl_step HB.out hb)
        have BV := hide (bl_step BV.out hb)
        have c5 := HXC.out wh hb
        clear hb
        cases hq : hasQ (fewV a b zs) x.i with
        | true =>
          have HS := hide (psum_yes HX.out hq)
          clear hq
          go_wp2
          go_roundg (N - (k + 1))
          case measure => omega
          case rel => exact ⟨k + 1, by omega, by omega, by go_num, by rw [HS.out], HB.out, BV.out⟩
        | false =>
          have HS := hide (psum_no HX.out hq)
          clear hq
          go_wp2
          go_roundg (N - (k + 1))
          case measure => omega
          case rel => exact ⟨k + 1, by omega, by omega, by go_num, by rw [HS.out], HB.out, BV.out⟩
      · have hge : ¬ (k : Int) < (N : Int) := by omega
        obtain rfl : k = N := by omega
        have HBY2 := hide (HBY.out.later HB.out)
        go_wp2_with fail
        refine (DrawIsMosaic_any ao n c _ hn6 hnc HBY2.out).mono ?_
        rintro e u1 ⟨a2, b2, v2, z2, u2, is, rfl, hl2, hl3, ho, hoi, hb⟩
        have HB := hide (bl_step HB.out hb)
        obtain ⟨N2, hN2⟩ : ∃ N2, N2 = z2.length := ⟨_, rfl⟩
        rw [← hN2] at ho hl2
        obtain ⟨s2, c2, rfl, hc2, _, hrd⟩ := own_rd encCv_len ho hN2.symm
        have HZT := hide hN2.symm
        have HRT := hide hrd
        have bT : N2 ≤ 1048576 := by omega
        clear ho hrd hN2
        
        obtain ⟨N3, hN3⟩ : ∃ N3, N3 = is.length := ⟨_, rfl⟩
        rw [← hN3] at hoi hl3
        obtain ⟨s3, c3, rfl, hc3, _, hrd⟩ := own_rd encI_len hoi hN3.symm
        have HZI := hide hN3.symm
        have HRI := hide hrd
        have bI : N3 ≤ 1048576 := by omega
        clear hoi hrd hN3
        
        clear hb
        obtain ⟨R, hR⟩ : ∃ R, R = (needL a2 b2 z2 is).length := ⟨_, rfl⟩
        have bR : R ≤ 1048576 := by rw [hR]; exact Nat.le_trans need_len (by rw [HZI.out]; exact bI)
        have HRr := hide hR
        obtain ⟨P2, hP2⟩ : ∃ P2, P2 = (fewV a2 b2 z2).length := ⟨_, rfl⟩
        have HP2 := hide hP2
        have HM : Hid ((mosV a2 b2 z2 is = true ∧ okMos a2 b2 z2 is = true) ∨ (mosV a2 b2 z2 is = false ∧ okMos a2 b2 z2 is = true) ∨ (mosV a2 b2 z2 is = false ∧ okMos a2 b2 z2 is = false)) := hide (by
          cases h1 : okMos a2 b2 z2 is with
          | false => exact .inr (.inr ⟨by unfold mosV; rw [h1]; rfl, rfl⟩)
          | true => cases h2 : mosV a2 b2 z2 is with
            | true => exact .inl ⟨rfl, rfl⟩
            | false => exact .inr (.inl ⟨rfl, rfl⟩))
        clear hR hP2
        rcases HM.out with ⟨m1, m2⟩ | ⟨m1, m2⟩ | ⟨m1, m2⟩
        · have HFW := hide (mos_few m1)
          have hle : P2 ≤ N3 := by have := HFW.out.2; rw [← HP2.out, HZI.out] at this; exact this
          have hle2 : (P2 : Int) ≤ (N3 : Int) := by omega
          have HM1 := hide m1
          have HM2 := hide m2
          clear m1 m2 HM
          go_wp2_with fail
          refine (IsMosaic_any a2 b2 _ N2 c2 z2 _ N3 c3 is _ HZT.out bT HRT.out HZI.out bI HRI.out).mono ?_
          rintro e w61 ⟨rfl, hb⟩
          have HRT := hide (rd_step HRT.out hb)
          have HRI := hide (rd_step HRI.out hb)
          have HB := hide (bl_step HB.out hb)
          rw [HM1.out, HM2.out]
          clear hb
          go_wp2_with fail
          refine (sIsMosaic_any a2 b2 _ N2 c2 z2 _ N3 c3 is _ HZT.out bT HRT.out HZI.out bI HRI.out).mono ?_
          rintro e w62 ⟨rfl, hb⟩
          have HRT := hide (rd_step HRT.out hb)
          have HRI := hide (rd_step HRI.out hb)
          have HB := hide (bl_step HB.out hb)
          rw [HM1.out, HM2.out]
          clear hb
          go_wp2_with fail
          refine (NeedlessCovers_any a2 b2 _ N2 c2 z2 _ N3 c3 is _ HZT.out bT HRT.out HZI.out bI HRI.out).mono ?_
          rintro e w63 ⟨vn, rfl, ho, hb⟩
          have HRT := hide (rd_step HRT.out hb)
          have HRI := hide (rd_step HRI.out hb)
          have HB := hide (bl_step HB.out hb)
          rw [HM1.out]
          rw [← HRr.out] at ho
          obtain ⟨no_, nc, rfl, hnc, _, hrd⟩ := own_rd encI_len ho HRr.out.symm
          have HON := hide ho
          have HRN := hide hrd
          clear ho hrd
          clear hb
          go_wp2_with fail
          refine (sNeedlessCovers_any a2 b2 _ N2 c2 z2 _ N3 c3 is _ HZT.out bT HRT.out HZI.out bI HRI.out).mono ?_
          rintro e w64 ⟨vm, rfl, ho, hb⟩
          have HRT := hide (rd_step HRT.out hb)
          have HRI := hide (rd_step HRI.out hb)
          have HRN := hide (rd_step HRN.out hb)
          have HON := hide (own_step HON.out hb)
          have HB := hide (bl_step HB.out hb)
          rw [HM1.out]
          rw [← HRr.out] at ho
          obtain ⟨mo_, mc, rfl, hmc, _, hrd⟩ := own_rd encI_len ho HRr.out.symm
          have HOM := hide ho
          have HRM := hide hrd
          clear ho hrd
          clear hb
          go_wp2_with fail
          refine (vInts_own _ _ R (needL a2 b2 z2 is) _ HON.out HOM.out HRr.out.symm bR).mono ?_
          rintro e w65 ⟨rfl, hb⟩
          have HRT := hide (rd_step HRT.out hb)
          have HRI := hide (rd_step HRI.out hb)
          have HRN := hide (rd_step HRN.out hb)
          have HRM := hide (rd_step HRM.out hb)
          have HON := hide (own_step HON.out hb)
          have HOM := hide (own_step HOM.out hb)
          have HB := hide (bl_step HB.out hb)
          clear hb
          go_wp2_with fail
          refine (FewestCovers_any a2 b2 _ N2 c2 z2 _ HZT.out bT HRT.out).mono ?_
          rintro e w66 ⟨vk, rfl, ho, hb⟩
          have HB := hide (bl_step HB.out hb)
          rw [HFW.out.1]
          rw [← HP2.out] at ho
          obtain ⟨ko, kc, rfl, hkc, _, hrd⟩ := own_rd encI_len ho HP2.out.symm
          have HOK := hide ho
          have HRK := hide hrd
          clear ho hrd
          clear hb
          go_wp2
          go_ret
          exact ⟨rfl, HB.out⟩
        · have HM1 := hide m1
          have HM2 := hide m2
          clear m1 m2 HM
          go_wp2_with fail
          refine (IsMosaic_any a2 b2 _ N2 c2 z2 _ N3 c3 is _ HZT.out bT HRT.out HZI.out bI HRI.out).mono ?_
          rintro e w61 ⟨rfl, hb⟩
          have HRT := hide (rd_step HRT.out hb)
          have HRI := hide (rd_step HRI.out hb)
          have HB := hide (bl_step HB.out hb)
          rw [HM1.out, HM2.out]
          clear hb
          go_wp2_with fail
          refine (sIsMosaic_any a2 b2 _ N2 c2 z2 _ N3 c3 is _ HZT.out bT HRT.out HZI.out bI HRI.out).mono ?_
          rintro e w62 ⟨rfl, hb⟩
          have HRT := hide (rd_step HRT.out hb)
          have HRI := hide (rd_step HRI.out hb)
          have HB := hide (bl_step HB.out hb)
          rw [HM1.out, HM2.out]
          clear hb
          go_wp2_with fail
          refine (NeedlessCovers_any a2 b2 _ N2 c2 z2 _ N3 c3 is _ HZT.out bT HRT.out HZI.out bI HRI.out).mono ?_
          rintro e w63 ⟨vn, rfl, ho, hb⟩
          have HRT := hide (rd_step HRT.out hb)
          have HRI := hide (rd_step HRI.out hb)
          have HB := hide (bl_step HB.out hb)
          rw [HM1.out]
          rw [← HRr.out] at ho
          obtain ⟨no_, nc, rfl, hnc, _, hrd⟩ := own_rd encI_len ho HRr.out.symm
          have HON := hide ho
          have HRN := hide hrd
          clear ho hrd
          clear hb
          go_wp2_with fail
          refine (sNeedlessCovers_any a2 b2 _ N2 c2 z2 _ N3 c3 is _ HZT.out bT HRT.out HZI.out bI HRI.out).mono ?_
          rintro e w64 ⟨vm, rfl, ho, hb⟩
          have HRT := hide (rd_step HRT.out hb)
          have HRI := hide (rd_step HRI.out hb)
          have HRN := hide (rd_step HRN.out hb)
          have HON := hide (own_step HON.out hb)
          have HB := hide (bl_step HB.out hb)
          rw [HM1.out]
          rw [← HRr.out] at ho
          obtain ⟨mo_, mc, rfl, hmc, _, hrd⟩ := own_rd encI_len ho HRr.out.symm
          have HOM := hide ho
          have HRM := hide hrd
          clear ho hrd
          clear hb
          go_wp2_with fail
          refine (vInts_own _ _ R (needL a2 b2 z2 is) _ HON.out HOM.out HRr.out.symm bR).mono ?_
          rintro e w65 ⟨rfl, hb⟩
          have HRT := hide (rd_step HRT.out hb)
          have HRI := hide (rd_step HRI.out hb)
          have HRN := hide (rd_step HRN.out hb)
          have HRM := hide (rd_step HRM.out hb)
          have HON := hide (own_step HON.out hb)
          have HOM := hide (own_step HOM.out hb)
          have HB := hide (bl_step HB.out hb)
          clear hb
          go_wp2
          go_ret
          exact ⟨rfl, HB.out⟩
        · have HM1 := hide m1
          have HM2 := hide m2
          clear m1 m2 HM
          go_wp2_with fail
          refine (IsMosaic_any a2 b2 _ N2 c2 z2 _ N3 c3 is _ HZT.out bT HRT.out HZI.out bI HRI.out).mono ?_
          rintro e w61 ⟨rfl, hb⟩
          have HRT := hide (rd_step HRT.out hb)
          have HRI := hide (rd_step HRI.out hb)
          have HB := hide (bl_step HB.out hb)
          rw [HM1.out, HM2.out]
          clear hb
          go_wp2_with fail
          refine (sIsMosaic_any a2 b2 _ N2 c2 z2 _ N3 c3 is _ HZT.out bT HRT.out HZI.out bI HRI.out).mono ?_
          rintro e w62 ⟨rfl, hb⟩
          have HRT := hide (rd_step HRT.out hb)
          have HRI := hide (rd_step HRI.out hb)
          have HB := hide (bl_step HB.out hb)
          rw [HM1.out, HM2.out]
          clear hb
          go_wp2_with fail
          refine (NeedlessCovers_any a2 b2 _ N2 c2 z2 _ N3 c3 is _ HZT.out bT HRT.out HZI.out bI HRI.out).mono ?_
          rintro e w63 ⟨vn, rfl, ho, hb⟩
          have HRT := hide (rd_step HRT.out hb)
          have HRI := hide (rd_step HRI.out hb)
          have HB := hide (bl_step HB.out hb)
          rw [HM1.out]
          rw [← HRr.out] at ho
          obtain ⟨no_, nc, rfl, hnc, _, hrd⟩ := own_rd encI_len ho HRr.out.symm
          have HON := hide ho
          have HRN := hide hrd
          clear ho hrd
          clear hb
          go_wp2_with fail
          refine (sNeedlessCovers_any a2 b2 _ N2 c2 z2 _ N3 c3 is _ HZT.out bT HRT.out HZI.out bI HRI.out).mono ?_
          rintro e w64 ⟨vm, rfl, ho, hb⟩
          have HRT := hide (rd_step HRT.out hb)
          have HRI := hide (rd_step HRI.out hb)
          have HRN := hide (rd_step HRN.out hb)
          have HON := hide (own_step HON.out hb)
          have HB := hide (bl_step HB.out hb)
          rw [HM1.out]
          rw [← HRr.out] at ho
          obtain ⟨mo_, mc, rfl, hmc, _, hrd⟩ := own_rd encI_len ho HRr.out.symm
          have HOM := hide ho
          have HRM := hide hrd
          clear ho hrd
          clear hb
          go_wp2_with fail
          refine (vInts_own _ _ R (needL a2 b2 z2 is) _ HON.out HOM.out HRr.out.symm bR).mono ?_
          rintro e w65 ⟨rfl, hb⟩
          have HRT := hide (rd_step HRT.out hb)
          have HRI := hide (rd_step HRI.out hb)
          have HRN := hide (rd_step HRN.out hb)
          have HRM := hide (rd_step HRM.out hb)
          have HON := hide (own_step HON.out hb)
          have HOM := hide (own_step HOM.out hb)
          have HB := hide (bl_step HB.out hb)
          clear hb
          go_wp2
          go_ret
          exact ⟨rfl, HB.out⟩
  · obtain ⟨cb, hcb⟩ : ∃ cb, coversB zs = cb := ⟨_, rfl⟩
    have HCB := hide hcb
    clear hcb HK
    have HOK := hide k1
    have HWL := hide k2
    have HBR := hide k3
    clear k1 k2 k3
    go_wp2_with fail
    refine (FewestCovers_any a b _ N sc zs _ HZS.out bS HRS.out).mono ?_
    rintro e w2 ⟨vf, rfl, ho, hb⟩
    have HRS := hide (rd_step HRS.out hb)
    have HB := hide (bl_step HB.out hb)
    rw [HOK.out]
    rw [← HP.out] at ho
    obtain ⟨fo, fc, rfl, hfc, _, hrd⟩ := own_rd encI_len ho HP.out.symm
    have HOF := hide ho
    have HRF := hide hrd
    clear ho hrd
    clear hb
    go_wp2_with fail
    refine (sFewestCovers_any a b _ N sc zs _ HZS.out bS HRS.out).mono ?_
    rintro e w3 ⟨vg, rfl, ho, hb⟩
    have HRS := hide (rd_step HRS.out hb)
    have HRF := hide (rd_step HRF.out hb)
    have HOF := hide (own_step HOF.out hb)
    have HB := hide (bl_step HB.out hb)
    rw [HOK.out]
    rw [← HP.out] at ho
    obtain ⟨go_, gc, rfl, hgc, _, hrd⟩ := own_rd encI_len ho HP.out.symm
    have HOG := hide ho
    have HRG := hide hrd
    clear ho hrd
    clear hb
    go_wp2_with fail
    refine (vInts_own _ _ P (fewV a b zs) _ HOF.out HOG.out HP.out.symm bP).mono ?_
    rintro e w4 ⟨rfl, hb⟩
    have HRS := hide (rd_step HRS.out hb)
    have HRF := hide (rd_step HRF.out hb)
    have HRG := hide (rd_step HRG.out hb)
    have HOF := hide (own_step HOF.out hb)
    have HOG := hide (own_step HOG.out hb)
    have HB := hide (bl_step HB.out hb)
    clear hb
    clear HOG HRG
    go_wp2_with fail
    refine (AreCovers_any _ N sc zs _ HZS.out bS HRS.out).mono ?_
    rintro e w5 ⟨rfl, hb⟩
    have HRS := hide (rd_step HRS.out hb)
    have HRF := hide (rd_step HRF.out hb)
    have HOF := hide (own_step HOF.out hb)
    have HB := hide (bl_step HB.out hb)
    rw [HCB.out]
    clear hb
    go_wp2_with fail
    refine (sAreCovers_any _ N sc zs _ HZS.out bS HRS.out).mono ?_
    rintro e w6 ⟨rfl, hb⟩
    have HRS := hide (rd_step HRS.out hb)
    have HRF := hide (rd_step HRF.out hb)
    have HOF := hide (own_step HOF.out hb)
    have HB := hide (bl_step HB.out hb)
    rw [HCB.out]
    clear hb
    go_wp2_with fail
    refine (CheapestCovers_any a b _ N sc zs _ HZS.out bS HRS.out).mono ?_
    rintro e w7 ⟨vc, rfl, ho, hb⟩
    have HRS := hide (rd_step HRS.out hb)
    have HRF := hide (rd_step HRF.out hb)
    have HOF := hide (own_step HOF.out hb)
    have HB := hide (bl_step HB.out hb)
    rw [HOK.out]
    rw [← HQ.out] at ho
    obtain ⟨co, cc, rfl, hcc, _, hrd⟩ := own_rd encI_len ho HQ.out.symm
    have HOC := hide ho
    have HRC := hide hrd
    clear ho hrd
    clear hb
    go_wp2_with fail
    refine (sCheapestCovers_any a b _ N sc zs _ HZS.out bS HRS.out).mono ?_
    rintro e w8 ⟨vd, rfl, ho, hb⟩
    have HRS := hide (rd_step HRS.out hb)
    have HRF := hide (rd_step HRF.out hb)
    have HRC := hide (rd_step HRC.out hb)
    have HOF := hide (own_step HOF.out hb)
    have HOC := hide (own_step HOC.out hb)
    have HB := hide (bl_step HB.out hb)
    rw [HOK.out]
    rw [← HQ.out] at ho
    obtain ⟨do_, dc, rfl, hdc, _, hrd⟩ := own_rd encI_len ho HQ.out.symm
    have HOD := hide ho
    have HRD := hide hrd
    clear ho hrd
    clear hb
    go_wp2_with fail
    refine (vInts_own _ _ Q (cheV a b zs) _ HOC.out HOD.out HQ.out.symm bQ).mono ?_
    rintro e w9 ⟨rfl, hb⟩
    have HRS := hide (rd_step HRS.out hb)
    have HRF := hide (rd_step HRF.out hb)
    have HRC := hide (rd_step HRC.out hb)
    have HRD := hide (rd_step HRD.out hb)
    have HOF := hide (own_step HOF.out hb)
    have HOC := hide (own_step HOC.out hb)
    have HOD := hide (own_step HOD.out hb)
    have HB := hide (bl_step HB.out hb)
    clear hb
    clear HOD HRD
    go_wp2_with fail
    refine (BareSquares_any a b _ N sc zs _ HZS.out bS HRS.out).mono ?_
    rintro e w10 ⟨rfl, hb⟩
    have HRS := hide (rd_step HRS.out hb)
    have HRF := hide (rd_step HRF.out hb)
    have HRC := hide (rd_step HRC.out hb)
    have HOF := hide (own_step HOF.out hb)
    have HOC := hide (own_step HOC.out hb)
    have HB := hide (bl_step HB.out hb)
    rw [HWL.out, HBR.out]
    clear hb
    go_wp2_with fail
    refine (sBareSquares_any a b _ N sc zs _ HZS.out bS HRS.out).mono ?_
    rintro e w11 ⟨rfl, hb⟩
    have HRS := hide (rd_step HRS.out hb)
    have HRF := hide (rd_step HRF.out hb)
    have HRC := hide (rd_step HRC.out hb)
    have HOF := hide (own_step HOF.out hb)
    have HOC := hide (own_step HOC.out hb)
    have HB := hide (bl_step HB.out hb)
    rw [HWL.out, HBR.out]
    clear hb
    have HBY2 := hide (HBY.out.later HB.out)
    go_wp2_with fail
    refine (DrawIsMosaic_any ao n c _ hn6 hnc HBY2.out).mono ?_
    rintro e u1 ⟨a2, b2, v2, z2, u2, is, rfl, hl2, hl3, ho, hoi, hb⟩
    have HB := hide (bl_step HB.out hb)
    obtain ⟨N2, hN2⟩ : ∃ N2, N2 = z2.length := ⟨_, rfl⟩
    rw [← hN2] at ho hl2
    obtain ⟨s2, c2, rfl, hc2, _, hrd⟩ := own_rd encCv_len ho hN2.symm
    have HZT := hide hN2.symm
    have HRT := hide hrd
    have bT : N2 ≤ 1048576 := by omega
    clear ho hrd hN2
    
    obtain ⟨N3, hN3⟩ : ∃ N3, N3 = is.length := ⟨_, rfl⟩
    rw [← hN3] at hoi hl3
    obtain ⟨s3, c3, rfl, hc3, _, hrd⟩ := own_rd encI_len hoi hN3.symm
    have HZI := hide hN3.symm
    have HRI := hide hrd
    have bI : N3 ≤ 1048576 := by omega
    clear hoi hrd hN3
    
    clear hb
    obtain ⟨R, hR⟩ : ∃ R, R = (needL a2 b2 z2 is).length := ⟨_, rfl⟩
    have bR : R ≤ 1048576 := by rw [hR]; exact Nat.le_trans need_len (by rw [HZI.out]; exact bI)
    have HRr := hide hR
    obtain ⟨P2, hP2⟩ : ∃ P2, P2 = (fewV a2 b2 z2).length := ⟨_, rfl⟩
    have HP2 := hide hP2
    have HM : Hid ((mosV a2 b2 z2 is = true ∧ okMos a2 b2 z2 is = true) ∨ (mosV a2 b2 z2 is = false ∧ okMos a2 b2 z2 is = true) ∨ (mosV a2 b2 z2 is = false ∧ okMos a2 b2 z2 is = false)) := hide (by
      cases h1 : okMos a2 b2 z2 is with
      | false => exact .inr (.inr ⟨by unfold mosV; rw [h1]; rfl, rfl⟩)
      | true => cases h2 : mosV a2 b2 z2 is with
        | true => exact .inl ⟨rfl, rfl⟩
        | false => exact .inr (.inl ⟨rfl, rfl⟩))
    clear hR hP2
    rcases HM.out with ⟨m1, m2⟩ | ⟨m1, m2⟩ | ⟨m1, m2⟩
    · have HFW := hide (mos_few m1)
      have hle : P2 ≤ N3 := by have := HFW.out.2; rw [← HP2.out, HZI.out] at this; exact this
      have hle2 : (P2 : Int) ≤ (N3 : Int) := by omega
      have HM1 := hide m1
      have HM2 := hide m2
      clear m1 m2 HM
      go_wp2_with fail
      refine (IsMosaic_any a2 b2 _ N2 c2 z2 _ N3 c3 is _ HZT.out bT HRT.out HZI.out bI HRI.out).mono ?_
      rintro e w61 ⟨rfl, hb⟩
      have HRT := hide (rd_step HRT.out hb)
      have HRI := hide (rd_step HRI.out hb)
      have HB := hide (bl_step HB.out hb)
      rw [HM1.out, HM2.out]
      clear hb
      go_wp2_with fail
      refine (sIsMosaic_any a2 b2 _ N2 c2 z2 _ N3 c3 is _ HZT.out bT HRT.out HZI.out bI HRI.out).mono ?_
      rintro e w62 ⟨rfl, hb⟩
      have HRT := hide (rd_step HRT.out hb)
      have HRI := hide (rd_step HRI.out hb)
      have HB := hide (bl_step HB.out hb)
      rw [HM1.out, HM2.out]
      clear hb
      go_wp2_with fail
      refine (NeedlessCovers_any a2 b2 _ N2 c2 z2 _ N3 c3 is _ HZT.out bT HRT.out HZI.out bI HRI.out).mono ?_
      rintro e w63 ⟨vn, rfl, ho, hb⟩
      have HRT := hide (rd_step HRT.out hb)
      have HRI := hide (rd_step HRI.out hb)
      have HB := hide (bl_step HB.out hb)
      rw [HM1.out]
      rw [← HRr.out] at ho
      obtain ⟨no_, nc, rfl, hnc, _, hrd⟩ := own_rd encI_len ho HRr.out.symm
      have HON := hide ho
      have HRN := hide hrd
      clear ho hrd
      clear hb
      go_wp2_with fail
      refine (sNeedlessCovers_any a2 b2 _ N2 c2 z2 _ N3 c3 is _ HZT.out bT HRT.out HZI.out bI HRI.out).mono ?_
      rintro e w64 ⟨vm, rfl, ho, hb⟩
      have HRT := hide (rd_step HRT.out hb)
      have HRI := hide (rd_step HRI.out hb)
      have HRN := hide (rd_step HRN.out hb)
      have HON := hide (own_step HON.out hb)
      have HB := hide (bl_step HB.out hb)
      rw [HM1.out]
      rw [← HRr.out] at ho
      obtain ⟨mo_, mc, rfl, hmc, _, hrd⟩ := own_rd encI_len ho HRr.out.symm
      have HOM := hide ho
      have HRM := hide hrd
      clear ho hrd
      clear hb
      go_wp2_with fail
      refine (vInts_own _ _ R (needL a2 b2 z2 is) _ HON.out HOM.out HRr.out.symm bR).mono ?_
      rintro e w65 ⟨rfl, hb⟩
      have HRT := hide (rd_step HRT.out hb)
      have HRI := hide (rd_step HRI.out hb)
      have HRN := hide (rd_step HRN.out hb)
      have HRM := hide (rd_step HRM.out hb)
      have HON := hide (own_step HON.out hb)
      have HOM := hide (own_step HOM.out hb)
      have HB := hide (bl_step HB.out hb)
      clear hb
      go_wp2_with fail
      refine (FewestCovers_any a2 b2 _ N2 c2 z2 _ HZT.out bT HRT.out).mono ?_
      rintro e w66 ⟨vk, rfl, ho, hb⟩
      have HB := hide (bl_step HB.out hb)
      rw [HFW.out.1]
      rw [← HP2.out] at ho
      obtain ⟨ko, kc, rfl, hkc, _, hrd⟩ := own_rd encI_len ho HP2.out.symm
      have HOK := hide ho
      have HRK := hide hrd
      clear ho hrd
      clear hb
      go_wp2
      go_ret
      exact ⟨rfl, HB.out⟩
    · have HM1 := hide m1
      have HM2 := hide m2
      clear m1 m2 HM
      go_wp2_with fail
      refine (IsMosaic_any a2 b2 _ N2 c2 z2 _ N3 c3 is _ HZT.out bT HRT.out HZI.out bI HRI.out).mono ?_
      rintro e w61 ⟨rfl, hb⟩
      have HRT := hide (rd_step HRT.out hb)
      have HRI := hide (rd_step HRI.out hb)
      have HB := hide (bl_step HB.out hb)
      rw [HM1.out, HM2.out]
      clear hb
      go_wp2_with fail
      refine (sIsMosaic_any a2 b2 _ N2 c2 z2 _ N3 c3 is _ HZT.out bT HRT.out HZI.out bI HRI.out).mono ?_
      rintro e w62 ⟨rfl, hb⟩
      have HRT := hide (rd_step HRT.out hb)
      have HRI := hide (rd_step HRI.out hb)
      have HB := hide (bl_step HB.out hb)
      rw [HM1.out, HM2.out]
      clear hb
      go_wp2_with fail
      refine (NeedlessCovers_any a2 b2 _ N2 c2 z2 _ N3 c3 is _ HZT.out bT HRT.out HZI.out bI HRI.out).mono ?_
      rintro e w63 ⟨vn, rfl, ho, hb⟩
      have HRT := hide (rd_step HRT.out hb)
      have HRI := hide (rd_step HRI.out hb)
      have HB := hide (bl_step HB.out hb)
      rw [HM1.out]
      rw [← HRr.out] at ho
      obtain ⟨no_, nc, rfl, hnc, _, hrd⟩ := own_rd encI_len ho HRr.out.symm
      have HON := hide ho
      have HRN := hide hrd
      clear ho hrd
      clear hb
      go_wp2_with fail
      refine (sNeedlessCovers_any a2 b2 _ N2 c2 z2 _ N3 c3 is _ HZT.out bT HRT.out HZI.out bI HRI.out).mono ?_
      rintro e w64 ⟨vm, rfl, ho, hb⟩
      have HRT := hide (rd_step HRT.out hb)
      have HRI := hide (rd_step HRI.out hb)
      have HRN := hide (rd_step HRN.out hb)
      have HON := hide (own_step HON.out hb)
      have HB := hide (bl_step HB.out hb)
      rw [HM1.out]
      rw [← HRr.out] at ho
      obtain ⟨mo_, mc, rfl, hmc, _, hrd⟩ := own_rd encI_len ho HRr.out.symm
      have HOM := hide ho
      have HRM := hide hrd
      clear ho hrd
      clear hb
      go_wp2_with fail
      refine (vInts_own _ _ R (needL a2 b2 z2 is) _ HON.out HOM.out HRr.out.symm bR).mono ?_
      rintro e w65 ⟨rfl, hb⟩
      have HRT := hide (rd_step HRT.out hb)
      have HRI := hide (rd_step HRI.out hb)
      have HRN := hide (rd_step HRN.out hb)
      have HRM := hide (rd_step HRM.out hb)
      have HON := hide (own_step HON.out hb)
      have HOM := hide (own_step HOM.out hb)
      have HB := hide (bl_step HB.out hb)
      clear hb
      go_wp2
      go_ret
      exact ⟨rfl, HB.out⟩
    · have HM1 := hide m1
      have HM2 := hide m2
      clear m1 m2 HM
      go_wp2_with fail
      refine (IsMosaic_any a2 b2 _ N2 c2 z2 _ N3 c3 is _ HZT.out bT HRT.out HZI.out bI HRI.out).mono ?_
      rintro e w61 ⟨rfl, hb⟩
      have HRT := hide (rd_step HRT.out hb)
      have HRI := hide (rd_step HRI.out hb)
      have HB := hide (bl_step HB.out hb)
      rw [HM1.out, HM2.out]
      clear hb
      go_wp2_with fail
      refine (sIsMosaic_any a2 b2 _ N2 c2 z2 _ N3 c3 is _ HZT.out bT HRT.out HZI.out bI HRI.out).mono ?_
      rintro e w62 ⟨rfl, hb⟩
      have HRT := hide (rd_step HRT.out hb)
      have HRI := hide (rd_step HRI.out hb)
      have HB := hide (bl_step HB.out hb)
      rw [HM1.out, HM2.out]
      clear hb
      go_wp2_with fail
      refine (NeedlessCovers_any a2 b2 _ N2 c2 z2 _ N3 c3 is _ HZT.out bT HRT.out HZI.out bI HRI.out).mono ?_
      rintro e w63 ⟨vn, rfl, ho, hb⟩
      have HRT := hide (rd_step HRT.out hb)
      have HRI := hide (rd_step HRI.out hb)
      have HB := hide (bl_step HB.out hb)
      rw [HM1.out]
      rw [← HRr.out] at ho
      obtain ⟨no_, nc, rfl, hnc, _, hrd⟩ := own_rd encI_len ho HRr.out.symm
      have HON := hide ho
      have HRN := hide hrd
      clear ho hrd
      clear hb
      go_wp2_with fail
      refine (sNeedlessCovers_any a2 b2 _ N2 c2 z2 _ N3 c3 is _ HZT.out bT HRT.out HZI.out bI HRI.out).mono ?_
      rintro e w64 ⟨vm, rfl, ho, hb⟩
      have HRT := hide (rd_step HRT.out hb)
      have HRI := hide (rd_step HRI.out hb)
      have HRN := hide (rd_step HRN.out hb)
      have HON := hide (own_step HON.out hb)
      have HB := hide (bl_step HB.out hb)
      rw [HM1.out]
      rw [← HRr.out] at ho
      obtain ⟨mo_, mc, rfl, hmc, _, hrd⟩ := own_rd encI_len ho HRr.out.symm
      have HOM := hide ho
      have HRM := hide hrd
      clear ho hrd
      clear hb
      go_wp2_with fail
      refine (vInts_own _ _ R (needL a2 b2 z2 is) _ HON.out HOM.out HRr.out.symm bR).mono ?_
      rintro e w65 ⟨rfl, hb⟩
      have HRT := hide (rd_step HRT.out hb)
      have HRI := hide (rd_step HRI.out hb)
      have HRN := hide (rd_step HRN.out hb)
      have HRM := hide (rd_step HRM.out hb)
      have HON := hide (own_step HON.out hb)
      have HOM := hide (own_step HOM.out hb)
      have HB := hide (bl_step HB.out hb)
      clear hb
      go_wp2
      go_ret
      exact ⟨rfl, HB.out⟩
  · obtain ⟨cb, hcb⟩ : ∃ cb, coversB zs = cb := ⟨_, rfl⟩
    have HCB := hide hcb
    clear hcb HK
    have HOK := hide k1
    have HWL := hide k2
    have k4 : (bareV a b zs == 0) = false := by simpa using k3
    have k5 : decide (bareV a b zs = 0) = false := by simpa using k3
    clear k1 k2
    go_wp2_with fail
    refine (FewestCovers_any a b _ N sc zs _ HZS.out bS HRS.out).mono ?_
    rintro e w2 ⟨vf, rfl, ho, hb⟩
    have HRS := hide (rd_step HRS.out hb)
    have HB := hide (bl_step HB.out hb)
    rw [HOK.out]
    rw [← HP.out] at ho
    obtain ⟨fo, fc, rfl, hfc, _, hrd⟩ := own_rd encI_len ho HP.out.symm
    have HOF := hide ho
    have HRF := hide hrd
    clear ho hrd
    clear hb
    go_wp2_with fail
    refine (sFewestCovers_any a b _ N sc zs _ HZS.out bS HRS.out).mono ?_
    rintro e w3 ⟨vg, rfl, ho, hb⟩
    have HRS := hide (rd_step HRS.out hb)
    have HRF := hide (rd_step HRF.out hb)
    have HOF := hide (own_step HOF.out hb)
    have HB := hide (bl_step HB.out hb)
    rw [HOK.out]
    rw [← HP.out] at ho
    obtain ⟨go_, gc, rfl, hgc, _, hrd⟩ := own_rd encI_len ho HP.out.symm
    have HOG := hide ho
    have HRG := hide hrd
    clear ho hrd
    clear hb
    go_wp2_with fail
    refine (vInts_own _ _ P (fewV a b zs) _ HOF.out HOG.out HP.out.symm bP).mono ?_
    rintro e w4 ⟨rfl, hb⟩
    have HRS := hide (rd_step HRS.out hb)
    have HRF := hide (rd_step HRF.out hb)
    have HRG := hide (rd_step HRG.out hb)
    have HOF := hide (own_step HOF.out hb)
    have HOG := hide (own_step HOG.out hb)
    have HB := hide (bl_step HB.out hb)
    clear hb
    clear HOG HRG
    go_wp2_with fail
    refine (AreCovers_any _ N sc zs _ HZS.out bS HRS.out).mono ?_
    rintro e w5 ⟨rfl, hb⟩
    have HRS := hide (rd_step HRS.out hb)
    have HRF := hide (rd_step HRF.out hb)
    have HOF := hide (own_step HOF.out hb)
    have HB := hide (bl_step HB.out hb)
    rw [HCB.out]
    clear hb
    go_wp2_with fail
    refine (sAreCovers_any _ N sc zs _ HZS.out bS HRS.out).mono ?_
    rintro e w6 ⟨rfl, hb⟩
    have HRS := hide (rd_step HRS.out hb)
    have HRF := hide (rd_step HRF.out hb)
    have HOF := hide (own_step HOF.out hb)
    have HB := hide (bl_step HB.out hb)
    rw [HCB.out]
    clear hb
    go_wp2_with fail
    refine (CheapestCovers_any a b _ N sc zs _ HZS.out bS HRS.out).mono ?_
    rintro e w7 ⟨vc, rfl, ho, hb⟩
    have HRS := hide (rd_step HRS.out hb)
    have HRF := hide (rd_step HRF.out hb)
    have HOF := hide (own_step HOF.out hb)
    have HB := hide (bl_step HB.out hb)
    rw [HOK.out]
    rw [← HQ.out] at ho
    obtain ⟨co, cc, rfl, hcc, _, hrd⟩ := own_rd encI_len ho HQ.out.symm
    have HOC := hide ho
    have HRC := hide hrd
    clear ho hrd
    clear hb
    go_wp2_with fail
    refine (sCheapestCovers_any a b _ N sc zs _ HZS.out bS HRS.out).mono ?_
    rintro e w8 ⟨vd, rfl, ho, hb⟩
    have HRS := hide (rd_step HRS.out hb)
    have HRF := hide (rd_step HRF.out hb)
    have HRC := hide (rd_step HRC.out hb)
    have HOF := hide (own_step HOF.out hb)
    have HOC := hide (own_step HOC.out hb)
    have HB := hide (bl_step HB.out hb)
    rw [HOK.out]
    rw [← HQ.out] at ho
    obtain ⟨do_, dc, rfl, hdc, _, hrd⟩ := own_rd encI_len ho HQ.out.symm
    have HOD := hide ho
    have HRD := hide hrd
    clear ho hrd
    clear hb
    go_wp2_with fail
    refine (vInts_own _ _ Q (cheV a b zs) _ HOC.out HOD.out HQ.out.symm bQ).mono ?_
    rintro e w9 ⟨rfl, hb⟩
    have HRS := hide (rd_step HRS.out hb)
    have HRF := hide (rd_step HRF.out hb)
    have HRC := hide (rd_step HRC.out hb)
    have HRD := hide (rd_step HRD.out hb)
    have HOF := hide (own_step HOF.out hb)
    have HOC := hide (own_step HOC.out hb)
    have HOD := hide (own_step HOD.out hb)
    have HB := hide (bl_step HB.out hb)
    clear hb
    clear HOD HRD
    go_wp2_with fail
    refine (BareSquares_any a b _ N sc zs _ HZS.out bS HRS.out).mono ?_
    rintro e w10 ⟨rfl, hb⟩
    have HRS := hide (rd_step HRS.out hb)
    have HRF := hide (rd_step HRF.out hb)
    have HRC := hide (rd_step HRC.out hb)
    have HOF := hide (own_step HOF.out hb)
    have HOC := hide (own_step HOC.out hb)
    have HB := hide (bl_step HB.out hb)
    rw [HWL.out]
    clear hb
    go_wp2_with fail
    refine (sBareSquares_any a b _ N sc zs _ HZS.out bS HRS.out).mono ?_
    rintro e w11 ⟨rfl, hb⟩
    have HRS := hide (rd_step HRS.out hb)
    have HRF := hide (rd_step HRF.out hb)
    have HRC := hide (rd_step HRC.out hb)
    have HOF := hide (own_step HOF.out hb)
    have HOC := hide (own_step HOC.out hb)
    have HB := hide (bl_step HB.out hb)
    rw [HWL.out]
    clear hb
    have HBY2 := hide (HBY.out.later HB.out)
    go_wp2_with fail
    refine (DrawIsMosaic_any ao n c _ hn6 hnc HBY2.out).mono ?_
    rintro e u1 ⟨a2, b2, v2, z2, u2, is, rfl, hl2, hl3, ho, hoi, hb⟩
    have HB := hide (bl_step HB.out hb)
    obtain ⟨N2, hN2⟩ : ∃ N2, N2 = z2.length := ⟨_, rfl⟩
    rw [← hN2] at ho hl2
    obtain ⟨s2, c2, rfl, hc2, _, hrd⟩ := own_rd encCv_len ho hN2.symm
    have HZT := hide hN2.symm
    have HRT := hide hrd
    have bT : N2 ≤ 1048576 := by omega
    clear ho hrd hN2
    
    obtain ⟨N3, hN3⟩ : ∃ N3, N3 = is.length := ⟨_, rfl⟩
    rw [← hN3] at hoi hl3
    obtain ⟨s3, c3, rfl, hc3, _, hrd⟩ := own_rd encI_len hoi hN3.symm
    have HZI := hide hN3.symm
    have HRI := hide hrd
    have bI : N3 ≤ 1048576 := by omega
    clear hoi hrd hN3
    
    clear hb
    obtain ⟨R, hR⟩ : ∃ R, R = (needL a2 b2 z2 is).length := ⟨_, rfl⟩
    have bR : R ≤ 1048576 := by rw [hR]; exact Nat.le_trans need_len (by rw [HZI.out]; exact bI)
    have HRr := hide hR
    obtain ⟨P2, hP2⟩ : ∃ P2, P2 = (fewV a2 b2 z2).length := ⟨_, rfl⟩
    have HP2 := hide hP2
    have HM : Hid ((mosV a2 b2 z2 is = true ∧ okMos a2 b2 z2 is = true) ∨ (mosV a2 b2 z2 is = false ∧ okMos a2 b2 z2 is = true) ∨ (mosV a2 b2 z2 is = false ∧ okMos a2 b2 z2 is = false)) := hide (by
      cases h1 : okMos a2 b2 z2 is with
      | false => exact .inr (.inr ⟨by unfold mosV; rw [h1]; rfl, rfl⟩)
      | true => cases h2 : mosV a2 b2 z2 is with
        | true => exact .inl ⟨rfl, rfl⟩
        | false => exact .inr (.inl ⟨rfl, rfl⟩))
    clear hR hP2
    rcases HM.out with ⟨m1, m2⟩ | ⟨m1, m2⟩ | ⟨m1, m2⟩
    · have HFW := hide (mos_few m1)
      have hle : P2 ≤ N3 := by have := HFW.out.2; rw [← HP2.out, HZI.out] at this; exact this
      have hle2 : (P2 : Int) ≤ (N3 : Int) := by omega
      have HM1 := hide m1
      have HM2 := hide m2
      clear m1 m2 HM
      go_wp2_with fail
      refine (IsMosaic_any a2 b2 _ N2 c2 z2 _ N3 c3 is _ HZT.out bT HRT.out HZI.out bI HRI.out).mono ?_
      rintro e w61 ⟨rfl, hb⟩
      have HRT := hide (rd_step HRT.out hb)
      have HRI := hide (rd_step HRI.out hb)
      have HB := hide (bl_step HB.out hb)
      rw [HM1.out, HM2.out]
      clear hb
      go_wp2_with fail
      refine (sIsMosaic_any a2 b2 _ N2 c2 z2 _ N3 c3 is _ HZT.out bT HRT.out HZI.out bI HRI.out).mono ?_
      rintro e w62 ⟨rfl, hb⟩
      have HRT := hide (rd_step HRT.out hb)
      have HRI := hide (rd_step HRI.out hb)
      have HB := hide (bl_step HB.out hb)
      rw [HM1.out, HM2.out]
      clear hb
      go_wp2_with fail
      refine (NeedlessCovers_any a2 b2 _ N2 c2 z2 _ N3 c3 is _ HZT.out bT HRT.out HZI.out bI HRI.out).mono ?_
      rintro e w63 ⟨vn, rfl, ho, hb⟩
      have HRT := hide (rd_step HRT.out hb)
      have HRI := hide (rd_step HRI.out hb)
      have HB := hide (bl_step HB.out hb)
      rw [HM1.out]
      rw [← HRr.out] at ho
      obtain ⟨no_, nc, rfl, hnc, _, hrd⟩ := own_rd encI_len ho HRr.out.symm
      have HON := hide ho
      have HRN := hide hrd
      clear ho hrd
      clear hb
      go_wp2_with fail
      refine (sNeedlessCovers_any a2 b2 _ N2 c2 z2 _ N3 c3 is _ HZT.out bT HRT.out HZI.out bI HRI.out).mono ?_
      rintro e w64 ⟨vm, rfl, ho, hb⟩
      have HRT := hide (rd_step HRT.out hb)
      have HRI := hide (rd_step HRI.out hb)
      have HRN := hide (rd_step HRN.out hb)
      have HON := hide (own_step HON.out hb)
      have HB := hide (bl_step HB.out hb)
      rw [HM1.out]
      rw [← HRr.out] at ho
      obtain ⟨mo_, mc, rfl, hmc, _, hrd⟩ := own_rd encI_len ho HRr.out.symm
      have HOM := hide ho
      have HRM := hide hrd
      clear ho hrd
      clear hb
      go_wp2_with fail
      refine (vInts_own _ _ R (needL a2 b2 z2 is) _ HON.out HOM.out HRr.out.symm bR).mono ?_
      rintro e w65 ⟨rfl, hb⟩
      have HRT := hide (rd_step HRT.out hb)
      have HRI := hide (rd_step HRI.out hb)
      have HRN := hide (rd_step HRN.out hb)
      have HRM := hide (rd_step HRM.out hb)
      have HON := hide (own_step HON.out hb)
      have HOM := hide (own_step HOM.out hb)
      have HB := hide (bl_step HB.out hb)
      clear hb
      go_wp2_with fail
      refine (FewestCovers_any a2 b2 _ N2 c2 z2 _ HZT.out bT HRT.out).mono ?_
      rintro e w66 ⟨vk, rfl, ho, hb⟩
      have HB := hide (bl_step HB.out hb)
      rw [HFW.out.1]
      rw [← HP2.out] at ho
      obtain ⟨ko, kc, rfl, hkc, _, hrd⟩ := own_rd encI_len ho HP2.out.symm
      have HOK := hide ho
      have HRK := hide hrd
      clear ho hrd
      clear hb
      go_wp2
      go_ret
      exact ⟨rfl, HB.out⟩
    · have HM1 := hide m1
      have HM2 := hide m2
      clear m1 m2 HM
      go_wp2_with fail
      refine (IsMosaic_any a2 b2 _ N2 c2 z2 _ N3 c3 is _ HZT.out bT HRT.out HZI.out bI HRI.out).mono ?_
      rintro e w61 ⟨rfl, hb⟩
      have HRT := hide (rd_step HRT.out hb)
      have HRI := hide (rd_step HRI.out hb)
      have HB := hide (bl_step HB.out hb)
      rw [HM1.out, HM2.out]
      clear hb
      go_wp2_with fail
      refine (sIsMosaic_any a2 b2 _ N2 c2 z2 _ N3 c3 is _ HZT.out bT HRT.out HZI.out bI HRI.out).mono ?_
      rintro e w62 ⟨rfl, hb⟩
      have HRT := hide (rd_step HRT.out hb)
      have HRI := hide (rd_step HRI.out hb)
      have HB := hide (bl_step HB.out hb)
      rw [HM1.out, HM2.out]
      clear hb
      go_wp2_with fail
      refine (NeedlessCovers_any a2 b2 _ N2 c2 z2 _ N3 c3 is _ HZT.out bT HRT.out HZI.out bI HRI.out).mono ?_
      rintro e w63 ⟨vn, rfl, ho, hb⟩
      have HRT := hide (rd_step HRT.out hb)
      have HRI := hide (rd_step HRI.out hb)
      have HB := hide (bl_step HB.out hb)
      rw [HM1.out]
      rw [← HRr.out] at ho
      obtain ⟨no_, nc, rfl, hnc, _, hrd⟩ := own_rd encI_len ho HRr.out.symm
      have HON := hide ho
      have HRN := hide hrd
      clear ho hrd
      clear hb
      go_wp2_with fail
      refine (sNeedlessCovers_any a2 b2 _ N2 c2 z2 _ N3 c3 is _ HZT.out bT HRT.out HZI.out bI HRI.out).mono ?_
      rintro e w64 ⟨vm, rfl, ho, hb⟩
      have HRT := hide (rd_step HRT.out hb)
      have HRI := hide (rd_step HRI.out hb)
      have HRN := hide (rd_step HRN.out hb)
      have HON := hide (own_step HON.out hb)
      have HB := hide (bl_step HB.out hb)
      rw [HM1.out]
      rw [← HRr.out] at ho
      obtain ⟨mo_, mc, rfl, hmc, _, hrd⟩ := own_rd encI_len ho HRr.out.symm
      have HOM := hide ho
      have HRM := hide hrd
      clear ho hrd
      clear hb
      go_wp2_with fail
      refine (vInts_own _ _ R (needL a2 b2 z2 is) _ HON.out HOM.out HRr.out.symm bR).mono ?_
      rintro e w65 ⟨rfl, hb⟩
      have HRT := hide (rd_step HRT.out hb)
      have HRI := hide (rd_step HRI.out hb)
      have HRN := hide (rd_step HRN.out hb)
      have HRM := hide (rd_step HRM.out hb)
      have HON := hide (own_step HON.out hb)
      have HOM := hide (own_step HOM.out hb)
      have HB := hide (bl_step HB.out hb)
      clear hb
      go_wp2
      go_ret
      exact ⟨rfl, HB.out⟩
    · have HM1 := hide m1
      have HM2 := hide m2
      clear m1 m2 HM
      go_wp2_with fail
      refine (IsMosaic_any a2 b2 _ N2 c2 z2 _ N3 c3 is _ HZT.out bT HRT.out HZI.out bI HRI.out).mono ?_
      rintro e w61 ⟨rfl, hb⟩
      have HRT := hide (rd_step HRT.out hb)
      have HRI := hide (rd_step HRI.out hb)
      have HB := hide (bl_step HB.out hb)
      rw [HM1.out, HM2.out]
      clear hb
      go_wp2_with fail
      refine (sIsMosaic_any a2 b2 _ N2 c2 z2 _ N3 c3 is _ HZT.out bT HRT.out HZI.out bI HRI.out).mono ?_
      rintro e w62 ⟨rfl, hb⟩
      have HRT := hide (rd_step HRT.out hb)
      have HRI := hide (rd_step HRI.out hb)
      have HB := hide (bl_step HB.out hb)
      rw [HM1.out, HM2.out]
      clear hb
      go_wp2_with fail
      refine (NeedlessCovers_any a2 b2 _ N2 c2 z2 _ N3 c3 is _ HZT.out bT HRT.out HZI.out bI HRI.out).mono ?_
      rintro e w63 ⟨vn, rfl, ho, hb⟩
      have HRT := hide (rd_step HRT.out hb)
      have HRI := hide (rd_step HRI.out hb)
      have HB := hide (bl_step HB.out hb)
      rw [HM1.out]
      rw [← HRr.out] at ho
      obtain ⟨no_, nc, rfl, hnc, _, hrd⟩ := own_rd encI_len ho HRr.out.symm
      have HON := hide ho
      have HRN := hide hrd
      clear ho hrd
      clear hb
      go_wp2_with fail
      refine (sNeedlessCovers_any a2 b2 _ N2 c2 z2 _ N3 c3 is _ HZT.out bT HRT.out HZI.out bI HRI.out).mono ?_
      rintro e w64 ⟨vm, rfl, ho, hb⟩
      have HRT := hide (rd_step HRT.out hb)
      have HRI := hide (rd_step HRI.out hb)
      have HRN := hide (rd_step HRN.out hb)
      have HON := hide (own_step HON.out hb)
      have HB := hide (bl_step HB.out hb)
      rw [HM1.out]
      rw [← HRr.out] at ho
      obtain ⟨mo_, mc, rfl, hmc, _, hrd⟩ := own_rd encI_len ho HRr.out.symm
      have HOM := hide ho
      have HRM := hide hrd
      clear ho hrd
      clear hb
      go_wp2_with fail
      refine (vInts_own _ _ R (needL a2 b2 z2 is) _ HON.out HOM.out HRr.out.symm bR).mono ?_
      rintro e w65 ⟨rfl, hb⟩
      have HRT := hide (rd_step HRT.out hb)
      have HRI := hide (rd_step HRI.out hb)
      have HRN := hide (rd_step HRN.out hb)
      have HRM := hide (rd_step HRM.out hb)
      have HON := hide (own_step HON.out hb)
      have HOM := hide (own_step HOM.out hb)
      have HB := hide (bl_step HB.out hb)
      clear hb
      go_wp2
      go_ret
      exact ⟨rfl, HB.out⟩

end Go.Proofs.Ytpdfbijfklmonaa
