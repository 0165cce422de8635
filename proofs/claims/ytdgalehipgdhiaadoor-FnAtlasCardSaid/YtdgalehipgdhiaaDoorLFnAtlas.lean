/- The law FnAtlas walked. -/
import Derived.Test.YtdgalehipgdhiaaDoorVA
import Derived.Test.YtdgalehipgdhiaaDoorA10C
import Derived.Test.YtdgalehipgdhiaaDoorD3C
import Derived.Test.YtdgalehipgdhiaaDoorJ6C
import Derived.Test.YtdgalehipgdhiaaDoorE11
import Derived.Test.YtdgalehipgdhiaaDoorA13
import Derived.Test.YtdgalehipgdhiaaDoorK4
import Derived.Test.YtdgalehipgdhiaaDoorJ5
namespace Go.Proofs.YtdgalehipgdhiaaDoor
open Go.RowKit
set_option linter.unusedVariables false
set_option linter.unusedSimpArgs false
set_option maxHeartbeats 1000000

set_option maxRecDepth 100000 in
set_option maxHeartbeats 8000000 in
theorem law_FnAtlas (ao : Option Addr) (n c : Nat) (w : World) (hn : n ≤ 9223372036854775807) (hnc : n ≤ c) (hby : Bytes w.heap.size w ao n) (ht : TabW w) :
    Calls Tryd.prog 3 #[.slice ao n c] w fun e w' => e = .returned (.bool true) ∧ Below w.heap.size w w' := by
  have HT := hide ht
  clear ht
  have HBIG := hide (rBig_any ao n c w hn)
  by_cases hbig : 65536 < n
  · have hd : decide (65536 < n) = true := by simpa using hbig
    have HD := hide hd
    clear hd
    go_enter Tryd.func3, Tryd.ntmps3
    go_wp2_with fail
    refine HBIG.out.mono ?_
    rintro e w1 ⟨rfl, rfl⟩
    rw [HD.out]
    go_wp2
    go_ret
    exact ⟨rfl, Below.refl _ _⟩
  have HD : Hid (decide (65536 < n) = false) := hide (by simpa using hbig)
  have hn6 : n ≤ 65536 := by omega
  have HDR := hide (DrawSnakeAtlas_any ao n c w hn6 hnc hby)
  have HBY := hide hby
  have HB := hide (Below.refl w.heap.size w)
  clear hby hbig
  go_enter Tryd.func3, Tryd.ntmps3
  go_wp2_with fail
  refine HBIG.out.mono ?_
  rintro e w' ⟨rfl, rfl⟩
  rw [HD.out]
  go_wp2_with fail
  refine HDR.out.mono ?_
  rintro e w1 ⟨r, s, R, C, l, rfl, hb⟩
  have HB := hide (bl_step HB.out hb)
  clear hb
  clear HBIG HDR HD
  cases hok : okSn r s R C l with
  | false =>
    have HOK := hide hok
    have HP : Hid (0 = (snV r s R C l).length) := hide (by unfold snV; rw [hok]; rfl)
    clear hok
    go_wp2_with fail
    refine (SnakeAtlas_any r s R C l _).mono ?_
    rintro e w2 ⟨va, rfl, ho, hb⟩
    have HB := hide (bl_step HB.out hb)
    rw [HOK.out]
    rw [← HP.out] at ho
    obtain ⟨sa, ca, rfl, hca, _, hrd⟩ := own_rd encPg_len ho HP.out.symm
    have HOA := hide ho
    have HRA := hide hrd
    clear ho hrd
    clear hb
    go_wp2_with fail
    refine (sSnakeAtlas_any r s R C l _).mono ?_
    rintro e w3 ⟨vb, rfl, ho, hb⟩
    have HRA := hide (rd_step HRA.out hb)
    have HOA := hide (own_step HOA.out hb)
    have HB := hide (bl_step HB.out hb)
    rw [HOK.out]
    rw [← HP.out] at ho
    obtain ⟨sb, cb, rfl, hcb, _, hrd⟩ := own_rd encPg_len ho HP.out.symm
    have HOB := hide ho
    have HRB := hide hrd
    clear ho hrd
    clear hb
    go_wp2_with fail
    refine (rPages_own _ _ 0 (snV r s R C l) _ HOA.out HOB.out HP.out.symm (by omega)).mono ?_
    rintro e w4 ⟨rfl, hb⟩
    have HRA := hide (rd_step HRA.out hb)
    have HRB := hide (rd_step HRB.out hb)
    have HOA := hide (own_step HOA.out hb)
    have HOB := hide (own_step HOB.out hb)
    have HB := hide (bl_step HB.out hb)
    clear hb
    have HBY2 := hide (HBY.out.later HB.out)
    go_wp2_with fail
    refine (DrawDropPage_any ao n c _ hn6 hnc HBY2.out).mono ?_
    rintro e w5 ⟨v2, z2, m2, rfl, hl2, ho, hb⟩
    have HB := hide (bl_step HB.out hb)
    obtain ⟨N2, hN2⟩ : ∃ N2, N2 = z2.length := ⟨_, rfl⟩
    rw [← hN2] at ho hl2
    obtain ⟨s2, c2, rfl, hc2, _, hrd⟩ := own_rd encPg_len ho hN2.symm
    have HZT := hide hN2.symm
    have HRT := hide hrd
    have bT : N2 ≤ 1048576 := by omega
    clear ho hrd hN2
    
    clear hb
    obtain ⟨T2, hT2⟩ : ∃ T2, T2 = (drpV z2 m2).length := ⟨_, rfl⟩
    have b2 : T2 ≤ 1048576 := by rw [hT2]; exact Nat.le_trans drp_len (by rw [HZT.out]; exact bT)
    have HT2 := hide hT2
    obtain ⟨P3, hP3⟩ : ∃ P3, P3 = (besV z2 m2).length := ⟨_, rfl⟩
    have b3 : P3 ≤ 1048576 := by rw [hP3]; exact Nat.le_trans bes_len (by rw [HZT.out]; exact bT)
    have HP3 := hide hP3
    obtain ⟨bb, hbb⟩ : ∃ bb, okBes z2 m2 = bb := ⟨_, rfl⟩
    have HBB := hide hbb
    obtain ⟨o2, ho2⟩ : ∃ o2, oneV z2 = o2 := ⟨_, rfl⟩
    have HO2 := hide ho2
    obtain ⟨a2, ha2⟩ : ∃ a2, atlasB z2 = a2 := ⟨_, rfl⟩
    have HA2 := hide ha2
    obtain ⟨tx, htx⟩ : ∃ tx, atlasT z2 = tx := ⟨_, rfl⟩
    have HTX := hide htx
    clear hP3 hbb ho2 ha2 htx
    cases hdr : okDrop z2 m2 with
    | false =>
      have HDR := hide hdr
      clear hdr hT2
      go_wp2_with fail
      refine (DropPage_any _ N2 c2 z2 m2 _ HZT.out bT HRT.out hc2).mono ?_
      rintro e w31 ⟨vo, rfl, ho, hb⟩
      have HRT := hide (rd_step HRT.out hb)
      have HB := hide (bl_step HB.out hb)
      rw [HDR.out]
      rw [← HT2.out] at ho
      obtain ⟨oo, oc, rfl, hoc, _, hrd⟩ := own_rd encPg_len ho HT2.out.symm
      have HOO := hide ho
      have HRO := hide hrd
      clear ho hrd
      clear hb
      go_wp2_with fail
      refine (sDropPageC_any _ N2 c2 z2 m2 hc2 _ HZT.out bT HRT.out).mono ?_
      rintro e w32 ⟨vu, rfl, ho, hb⟩
      have HRT := hide (rd_step HRT.out hb)
      have HRO := hide (rd_step HRO.out hb)
      have HOO := hide (own_step HOO.out hb)
      have HB := hide (bl_step HB.out hb)
      rw [HDR.out]
      rw [← HT2.out] at ho
      obtain ⟨uo, uc, rfl, huc, _, hrd⟩ := own_rd encPg_len ho HT2.out.symm
      have HOU := hide ho
      have HRU := hide hrd
      clear ho hrd
      clear hb
      go_wp2_with fail
      refine (rPages_own _ _ T2 (drpV z2 m2) _ HOO.out HOU.out HT2.out.symm b2).mono ?_
      rintro e w33 ⟨rfl, hb⟩
      have HRT := hide (rd_step HRT.out hb)
      have HRO := hide (rd_step HRO.out hb)
      have HRU := hide (rd_step HRU.out hb)
      have HOO := hide (own_step HOO.out hb)
      have HOU := hide (own_step HOU.out hb)
      have HB := hide (bl_step HB.out hb)
      clear hb
      clear HOU HRU HOO HRO
      go_wp2_with fail
      refine (BesidePages_any _ N2 c2 z2 m2 _ HZT.out bT HRT.out).mono ?_
      rintro e w34 ⟨vp, rfl, ho, hb⟩
      have HRT := hide (rd_step HRT.out hb)
      have HB := hide (bl_step HB.out hb)
      rw [HBB.out]
      rw [← HP3.out] at ho
      obtain ⟨po, pc, rfl, hpc, _, hrd⟩ := own_rd encI_len ho HP3.out.symm
      have HOP := hide ho
      have HRP := hide hrd
      clear ho hrd
      clear hb
      go_wp2_with fail
      refine (sBesidePagesC_any _ N2 c2 z2 m2 hc2 _ HZT.out bT HRT.out).mono ?_
      rintro e w35 ⟨vw, rfl, ho, hb⟩
      have HRT := hide (rd_step HRT.out hb)
      have HRP := hide (rd_step HRP.out hb)
      have HOP := hide (own_step HOP.out hb)
      have HB := hide (bl_step HB.out hb)
      rw [HBB.out]
      rw [← HP3.out] at ho
      obtain ⟨wo, wc, rfl, hwc, _, hrd⟩ := own_rd encI_len ho HP3.out.symm
      have HOW := hide ho
      have HRW := hide hrd
      clear ho hrd
      clear hb
      go_wp2_with fail
      refine (rInts_own _ _ P3 (besV z2 m2) _ HOP.out HOW.out HP3.out.symm b3).mono ?_
      rintro e w36 ⟨rfl, hb⟩
      have HRT := hide (rd_step HRT.out hb)
      have HRP := hide (rd_step HRP.out hb)
      have HRW := hide (rd_step HRW.out hb)
      have HOP := hide (own_step HOP.out hb)
      have HOW := hide (own_step HOW.out hb)
      have HB := hide (bl_step HB.out hb)
      clear hb
      clear HOW HRW HOP
      go_wp2_with fail
      go_loopg [26] P3 (fun gk i wr => ∃ k : Nat, k ≤ P3 ∧ P3 - k ≤ gk ∧ i = .int .i64 (k : Int) ∧ Aside (Below w.heap.size w wr) ∧ Aside (Below w36.heap.size w36 wr))
      case atStart => exact ⟨0, by omega, by omega, rfl, HB.out, Below.refl _ _⟩
      case round =>
        obtain ⟨k, hk, hgk, rfl, BW, BV⟩ := hrel
        have HRT := hide (rd_step HRT.out BV.out)
        have HRPr := hide (rd_step HRP.out BV.out)
        have HB := hide BW.out
        clear BW
        by_cases hlt : k < P3
        · have hlti : (k : Int) < (P3 : Int) := by omega
          have hk0 : (0 : Int) ≤ (k : Int) := by omega
          obtain ⟨bb, off, rfl, hbl, hat⟩ := rdI HRPr.out (by rw [← HP3.out]; omega)
          obtain ⟨x, hx, hxc⟩ := hat k (by rw [← HP3.out]; exact hlt)
          have HBK := hide (bes_back (List.mem_of_getElem? hx))
          obtain ⟨L, hL⟩ : ∃ L, L = (besV z2 x).length := ⟨_, rfl⟩
          have bL : L ≤ 1048576 := by rw [hL]; exact Nat.le_trans bes_len (by rw [HZT.out]; exact bT)
          have HLL := hide hL
          obtain ⟨_, c0⟩ := hxc wr (Below.refl _ _)
          clear hx hxc hat hL
          go_wp2_with fail
          refine (BesidePages_any _ N2 c2 z2 x _ HZT.out bT HRT.out).mono ?_
          rintro e wa ⟨vb, rfl, ho, hb⟩
          rw [HBK.out.1]
          rw [← HLL.out] at ho
          obtain ⟨bo, bc, rfl, hbc, _, hrd⟩ := own_rd encI_len ho HLL.out.symm
          have HRB := hide hrd
          have HB := hide (bl_step HB.out hb)
          have BV := hide (bl_step BV.out hb)
          clear ho hrd hb
          go_wp2_with fail
          refine (rHas_any _ L bc (besV z2 x) m2 _ HLL.out.symm bL HRB.out).mono ?_
          rintro e wh ⟨rfl, hb⟩
          rw [has_yes HBK.out.2]
          have HB := hide (bl_step HB.out hb)
          have BV := hide (bl_step BV.out hb)
          clear hb
          have k1 : IntKind.i64.wrap ((k : Int) + 1) = (k : Int) + 1 := IntWalk.i64_in _ (by omega)
          go_wp2
          go_roundg (P3 - (k + 1))
          case measure => omega
          case rel => exact ⟨k + 1, by omega, by omega, by first | go_num | (congr 1; omega), HB.out, BV.out⟩
        · have hge : ¬ (k : Int) < (P3 : Int) := by omega
          clear HRPr HRP BV
          go_wp2_with fail
          refine (IsOneCountry_any _ N2 c2 z2 _ HZT.out bT HRT.out).mono ?_
          rintro e w37 ⟨rfl, hb⟩
          have HRT := hide (rd_step HRT.out hb)
          have HB := hide (bl_step HB.out hb)
          rw [HO2.out, HA2.out]
          clear hb
          go_wp2_with fail
          refine (sIsOneCountry_any _ N2 c2 z2 _ HZT.out bT HRT.out hc2).mono ?_
          rintro e w38 ⟨rfl, hb⟩
          have HRT := hide (rd_step HRT.out hb)
          have HB := hide (bl_step HB.out hb)
          rw [HO2.out, HA2.out]
          clear hb
          go_wp2_with fail
          refine (AtlasText_any _ N2 c2 z2 _ HZT.out bT HRT.out (HT.out.below HB.out)).mono ?_
          rintro e w39 ⟨rfl, hb⟩
          have HRT := hide (rd_step HRT.out hb)
          have HB := hide (bl_step HB.out hb)
          rw [HTX.out, HA2.out]
          clear hb
          go_wp2_with fail
          refine (sAtlasTextC_any _ N2 c2 z2 hc2 _ HZT.out bT HRT.out).mono ?_
          rintro e w40 ⟨rfl, hb⟩
          have HRT := hide (rd_step HRT.out hb)
          have HB := hide (bl_step HB.out hb)
          rw [HTX.out, HA2.out]
          clear hb
          go_wp2_with fail
          refine (IsAtlas_any _ N2 c2 z2 _ HZT.out bT HRT.out).mono ?_
          rintro e w41 ⟨rfl, hb⟩
          have HRT := hide (rd_step HRT.out hb)
          have HB := hide (bl_step HB.out hb)
          rw [HA2.out]
          clear hb
          go_wp2_with fail
          refine (sIsAtlasC_any _ N2 c2 z2 hc2 _ HZT.out bT HRT.out).mono ?_
          rintro e w42 ⟨rfl, hb⟩
          have HRT := hide (rd_step HRT.out hb)
          have HB := hide (bl_step HB.out hb)
          rw [HA2.out]
          clear hb
          cases a2
          all_goals
            go_wp2
            go_ret
            exact ⟨rfl, HB.out⟩
    | true =>
      have HDR := hide hdr
      have hd1 := drp_one hdr
      rw [← hT2, HZT.out] at hd1
      have kd : IntKind.i64.wrap ((N2 : Int) - 1) = (T2 : Int) := by rw [show (N2 : Int) - 1 = (T2 : Int) from by omega]; exact IntWalk.i64_in _ (by omega)
      have kd2 : (N2 : Int) - 1 = (T2 : Int) := by omega
      have HKD := hide kd2
      clear kd2
      clear hdr hT2
      go_wp2_with fail
      refine (DropPage_any _ N2 c2 z2 m2 _ HZT.out bT HRT.out hc2).mono ?_
      rintro e w31 ⟨vo, rfl, ho, hb⟩
      have HRT := hide (rd_step HRT.out hb)
      have HB := hide (bl_step HB.out hb)
      rw [HDR.out]
      rw [← HT2.out] at ho
      obtain ⟨oo, oc, rfl, hoc, _, hrd⟩ := own_rd encPg_len ho HT2.out.symm
      have HOO := hide ho
      have HRO := hide hrd
      clear ho hrd
      clear hb
      go_wp2_with fail
      refine (sDropPageC_any _ N2 c2 z2 m2 hc2 _ HZT.out bT HRT.out).mono ?_
      rintro e w32 ⟨vu, rfl, ho, hb⟩
      have HRT := hide (rd_step HRT.out hb)
      have HRO := hide (rd_step HRO.out hb)
      have HOO := hide (own_step HOO.out hb)
      have HB := hide (bl_step HB.out hb)
      rw [HDR.out]
      rw [← HT2.out] at ho
      obtain ⟨uo, uc, rfl, huc, _, hrd⟩ := own_rd encPg_len ho HT2.out.symm
      have HOU := hide ho
      have HRU := hide hrd
      clear ho hrd
      clear hb
      go_wp2_with fail
      refine (rPages_own _ _ T2 (drpV z2 m2) _ HOO.out HOU.out HT2.out.symm b2).mono ?_
      rintro e w33 ⟨rfl, hb⟩
      have HRT := hide (rd_step HRT.out hb)
      have HRO := hide (rd_step HRO.out hb)
      have HRU := hide (rd_step HRU.out hb)
      have HOO := hide (own_step HOO.out hb)
      have HOU := hide (own_step HOU.out hb)
      have HB := hide (bl_step HB.out hb)
      clear hb
      clear HOU HRU HOO HRO
      go_wp2_with fail
      refine (BesidePages_any _ N2 c2 z2 m2 _ HZT.out bT HRT.out).mono ?_
      rintro e w34 ⟨vp, rfl, ho, hb⟩
      have HRT := hide (rd_step HRT.out hb)
      have HB := hide (bl_step HB.out hb)
      rw [HBB.out]
      rw [← HP3.out] at ho
      obtain ⟨po, pc, rfl, hpc, _, hrd⟩ := own_rd encI_len ho HP3.out.symm
      have HOP := hide ho
      have HRP := hide hrd
      clear ho hrd
      clear hb
      go_wp2_with fail
      refine (sBesidePagesC_any _ N2 c2 z2 m2 hc2 _ HZT.out bT HRT.out).mono ?_
      rintro e w35 ⟨vw, rfl, ho, hb⟩
      have HRT := hide (rd_step HRT.out hb)
      have HRP := hide (rd_step HRP.out hb)
      have HOP := hide (own_step HOP.out hb)
      have HB := hide (bl_step HB.out hb)
      rw [HBB.out]
      rw [← HP3.out] at ho
      obtain ⟨wo, wc, rfl, hwc, _, hrd⟩ := own_rd encI_len ho HP3.out.symm
      have HOW := hide ho
      have HRW := hide hrd
      clear ho hrd
      clear hb
      go_wp2_with fail
      refine (rInts_own _ _ P3 (besV z2 m2) _ HOP.out HOW.out HP3.out.symm b3).mono ?_
      rintro e w36 ⟨rfl, hb⟩
      have HRT := hide (rd_step HRT.out hb)
      have HRP := hide (rd_step HRP.out hb)
      have HRW := hide (rd_step HRW.out hb)
      have HOP := hide (own_step HOP.out hb)
      have HOW := hide (own_step HOW.out hb)
      have HB := hide (bl_step HB.out hb)
      clear hb
      clear HOW HRW HOP
      go_wp2_with fail
      go_loopg [26] P3 (fun gk i wr => ∃ k : Nat, k ≤ P3 ∧ P3 - k ≤ gk ∧ i = .int .i64 (k : Int) ∧ Aside (Below w.heap.size w wr) ∧ Aside (Below w36.heap.size w36 wr))
      case atStart => exact ⟨0, by omega, by omega, rfl, HB.out, Below.refl _ _⟩
      case round =>
        obtain ⟨k, hk, hgk, rfl, BW, BV⟩ := hrel
        have HRT := hide (rd_step HRT.out BV.out)
        have HRPr := hide (rd_step HRP.out BV.out)
        have HB := hide BW.out
        clear BW
        by_cases hlt : k < P3
        · have hlti : (k : Int) < (P3 : Int) := by omega
          have hk0 : (0 : Int) ≤ (k : Int) := by omega
          obtain ⟨bb, off, rfl, hbl, hat⟩ := rdI HRPr.out (by rw [← HP3.out]; omega)
          obtain ⟨x, hx, hxc⟩ := hat k (by rw [← HP3.out]; exact hlt)
          have HBK := hide (bes_back (List.mem_of_getElem? hx))
          obtain ⟨L, hL⟩ : ∃ L, L = (besV z2 x).length := ⟨_, rfl⟩
          have bL : L ≤ 1048576 := by rw [hL]; exact Nat.le_trans bes_len (by rw [HZT.out]; exact bT)
          have HLL := hide hL
          obtain ⟨_, c0⟩ := hxc wr (Below.refl _ _)
          clear hx hxc hat hL
          go_wp2_with fail
          refine (BesidePages_any _ N2 c2 z2 x _ HZT.out bT HRT.out).mono ?_
          rintro e wa ⟨vb, rfl, ho, hb⟩
          rw [HBK.out.1]
          rw [← HLL.out] at ho
          obtain ⟨bo, bc, rfl, hbc, _, hrd⟩ := own_rd encI_len ho HLL.out.symm
          have HRB := hide hrd
          have HB := hide (bl_step HB.out hb)
          have BV := hide (bl_step BV.out hb)
          clear ho hrd hb
          go_wp2_with fail
          refine (rHas_any _ L bc (besV z2 x) m2 _ HLL.out.symm bL HRB.out).mono ?_
          rintro e wh ⟨rfl, hb⟩
          rw [has_yes HBK.out.2]
          have HB := hide (bl_step HB.out hb)
          have BV := hide (bl_step BV.out hb)
          clear hb
          have k1 : IntKind.i64.wrap ((k : Int) + 1) = (k : Int) + 1 := IntWalk.i64_in _ (by omega)
          go_wp2
          go_roundg (P3 - (k + 1))
          case measure => omega
          case rel => exact ⟨k + 1, by omega, by omega, by first | go_num | (congr 1; omega), HB.out, BV.out⟩
        · have hge : ¬ (k : Int) < (P3 : Int) := by omega
          clear HRPr HRP BV
          go_wp2_with fail
          refine (IsOneCountry_any _ N2 c2 z2 _ HZT.out bT HRT.out).mono ?_
          rintro e w37 ⟨rfl, hb⟩
          have HRT := hide (rd_step HRT.out hb)
          have HB := hide (bl_step HB.out hb)
          rw [HO2.out, HA2.out]
          clear hb
          go_wp2_with fail
          refine (sIsOneCountry_any _ N2 c2 z2 _ HZT.out bT HRT.out hc2).mono ?_
          rintro e w38 ⟨rfl, hb⟩
          have HRT := hide (rd_step HRT.out hb)
          have HB := hide (bl_step HB.out hb)
          rw [HO2.out, HA2.out]
          clear hb
          go_wp2_with fail
          refine (AtlasText_any _ N2 c2 z2 _ HZT.out bT HRT.out (HT.out.below HB.out)).mono ?_
          rintro e w39 ⟨rfl, hb⟩
          have HRT := hide (rd_step HRT.out hb)
          have HB := hide (bl_step HB.out hb)
          rw [HTX.out, HA2.out]
          clear hb
          go_wp2_with fail
          refine (sAtlasTextC_any _ N2 c2 z2 hc2 _ HZT.out bT HRT.out).mono ?_
          rintro e w40 ⟨rfl, hb⟩
          have HRT := hide (rd_step HRT.out hb)
          have HB := hide (bl_step HB.out hb)
          rw [HTX.out, HA2.out]
          clear hb
          go_wp2_with fail
          refine (IsAtlas_any _ N2 c2 z2 _ HZT.out bT HRT.out).mono ?_
          rintro e w41 ⟨rfl, hb⟩
          have HRT := hide (rd_step HRT.out hb)
          have HB := hide (bl_step HB.out hb)
          rw [HA2.out]
          clear hb
          go_wp2_with fail
          refine (sIsAtlasC_any _ N2 c2 z2 hc2 _ HZT.out bT HRT.out).mono ?_
          rintro e w42 ⟨rfl, hb⟩
          have HRT := hide (rd_step HRT.out hb)
          have HB := hide (bl_step HB.out hb)
          rw [HA2.out]
          clear hb
          cases a2
          all_goals
            go_wp2
            go_ret
            exact ⟨rfl, HB.out⟩
  | true =>
    have HOK := hide hok
    obtain ⟨h1, h2, h3, h4, h5⟩ := sn_law hok
    obtain ⟨T, hT⟩ : ∃ T, T = (snV r s R C l).length := ⟨_, rfl⟩
    rw [← hT] at h2 h4
    have bT1 : T ≤ 1048576 := by rw [hT]; exact Nat.le_trans sn_len (by omega)
    have HP := hide hT
    have HAT := hide h1
    have HRZ := hide h2
    have HON := hide h3
    have kRC : IntKind.i64.wrap (R * C) = (T : Int) := by rw [h5, ← h4]
    clear h1 h2 h3 h4 h5 hT
    clear hok
    go_wp2_with fail
    refine (SnakeAtlas_any r s R C l _).mono ?_
    rintro e w2 ⟨va, rfl, ho, hb⟩
    have HB := hide (bl_step HB.out hb)
    rw [HOK.out]
    rw [← HP.out] at ho
    obtain ⟨sa, ca, rfl, hca, _, hrd⟩ := own_rd encPg_len ho HP.out.symm
    have HOA := hide ho
    have HRA := hide hrd
    clear ho hrd
    clear hb
    go_wp2_with fail
    refine (sSnakeAtlas_any r s R C l _).mono ?_
    rintro e w3 ⟨vb, rfl, ho, hb⟩
    have HRA := hide (rd_step HRA.out hb)
    have HOA := hide (own_step HOA.out hb)
    have HB := hide (bl_step HB.out hb)
    rw [HOK.out]
    rw [← HP.out] at ho
    obtain ⟨sb, cb, rfl, hcb, _, hrd⟩ := own_rd encPg_len ho HP.out.symm
    have HOB := hide ho
    have HRB := hide hrd
    clear ho hrd
    clear hb
    go_wp2_with fail
    refine (rPages_own _ _ T (snV r s R C l) _ HOA.out HOB.out HP.out.symm bT1).mono ?_
    rintro e w4 ⟨rfl, hb⟩
    have HRA := hide (rd_step HRA.out hb)
    have HRB := hide (rd_step HRB.out hb)
    have HOA := hide (own_step HOA.out hb)
    have HOB := hide (own_step HOB.out hb)
    have HB := hide (bl_step HB.out hb)
    clear hb
    clear HOB HRB
    go_wp2_with fail
    refine (RoughTurns_any _ T ca (snV r s R C l) _ HP.out.symm bT1 HRA.out).mono ?_
    rintro e w5 ⟨rfl, hb⟩
    have HRA := hide (rd_step HRA.out hb)
    have HB := hide (bl_step HB.out hb)
    rw [HRZ.out, HAT.out]
    clear hb
    go_wp2_with fail
    refine (IsOneCountry_any _ T ca (snV r s R C l) _ HP.out.symm bT1 HRA.out).mono ?_
    rintro e w6 ⟨rfl, hb⟩
    have HRA := hide (rd_step HRA.out hb)
    have HB := hide (bl_step HB.out hb)
    rw [HON.out, HAT.out]
    clear hb
    have HBY2 := hide (HBY.out.later HB.out)
    go_wp2_with fail
    refine (DrawDropPage_any ao n c _ hn6 hnc HBY2.out).mono ?_
    rintro e w7 ⟨v2, z2, m2, rfl, hl2, ho, hb⟩
    have HB := hide (bl_step HB.out hb)
    obtain ⟨N2, hN2⟩ : ∃ N2, N2 = z2.length := ⟨_, rfl⟩
    rw [← hN2] at ho hl2
    obtain ⟨s2, c2, rfl, hc2, _, hrd⟩ := own_rd encPg_len ho hN2.symm
    have HZT := hide hN2.symm
    have HRT := hide hrd
    have bT : N2 ≤ 1048576 := by omega
    clear ho hrd hN2
    
    clear hb
    obtain ⟨T2, hT2⟩ : ∃ T2, T2 = (drpV z2 m2).length := ⟨_, rfl⟩
    have b2 : T2 ≤ 1048576 := by rw [hT2]; exact Nat.le_trans drp_len (by rw [HZT.out]; exact bT)
    have HT2 := hide hT2
    obtain ⟨P3, hP3⟩ : ∃ P3, P3 = (besV z2 m2).length := ⟨_, rfl⟩
    have b3 : P3 ≤ 1048576 := by rw [hP3]; exact Nat.le_trans bes_len (by rw [HZT.out]; exact bT)
    have HP3 := hide hP3
    obtain ⟨bb, hbb⟩ : ∃ bb, okBes z2 m2 = bb := ⟨_, rfl⟩
    have HBB := hide hbb
    obtain ⟨o2, ho2⟩ : ∃ o2, oneV z2 = o2 := ⟨_, rfl⟩
    have HO2 := hide ho2
    obtain ⟨a2, ha2⟩ : ∃ a2, atlasB z2 = a2 := ⟨_, rfl⟩
    have HA2 := hide ha2
    obtain ⟨tx, htx⟩ : ∃ tx, atlasT z2 = tx := ⟨_, rfl⟩
    have HTX := hide htx
    clear hP3 hbb ho2 ha2 htx
    cases hdr : okDrop z2 m2 with
    | false =>
      have HDR := hide hdr
      clear hdr hT2
      go_wp2_with fail
      refine (DropPage_any _ N2 c2 z2 m2 _ HZT.out bT HRT.out hc2).mono ?_
      rintro e w31 ⟨vo, rfl, ho, hb⟩
      have HRT := hide (rd_step HRT.out hb)
      have HB := hide (bl_step HB.out hb)
      rw [HDR.out]
      rw [← HT2.out] at ho
      obtain ⟨oo, oc, rfl, hoc, _, hrd⟩ := own_rd encPg_len ho HT2.out.symm
      have HOO := hide ho
      have HRO := hide hrd
      clear ho hrd
      clear hb
      go_wp2_with fail
      refine (sDropPageC_any _ N2 c2 z2 m2 hc2 _ HZT.out bT HRT.out).mono ?_
      rintro e w32 ⟨vu, rfl, ho, hb⟩
      have HRT := hide (rd_step HRT.out hb)
      have HRO := hide (rd_step HRO.out hb)
      have HOO := hide (own_step HOO.out hb)
      have HB := hide (bl_step HB.out hb)
      rw [HDR.out]
      rw [← HT2.out] at ho
      obtain ⟨uo, uc, rfl, huc, _, hrd⟩ := own_rd encPg_len ho HT2.out.symm
      have HOU := hide ho
      have HRU := hide hrd
      clear ho hrd
      clear hb
      go_wp2_with fail
      refine (rPages_own _ _ T2 (drpV z2 m2) _ HOO.out HOU.out HT2.out.symm b2).mono ?_
      rintro e w33 ⟨rfl, hb⟩
      have HRT := hide (rd_step HRT.out hb)
      have HRO := hide (rd_step HRO.out hb)
      have HRU := hide (rd_step HRU.out hb)
      have HOO := hide (own_step HOO.out hb)
      have HOU := hide (own_step HOU.out hb)
      have HB := hide (bl_step HB.out hb)
      clear hb
      clear HOU HRU HOO HRO
      go_wp2_with fail
      refine (BesidePages_any _ N2 c2 z2 m2 _ HZT.out bT HRT.out).mono ?_
      rintro e w34 ⟨vp, rfl, ho, hb⟩
      have HRT := hide (rd_step HRT.out hb)
      have HB := hide (bl_step HB.out hb)
      rw [HBB.out]
      rw [← HP3.out] at ho
      obtain ⟨po, pc, rfl, hpc, _, hrd⟩ := own_rd encI_len ho HP3.out.symm
      have HOP := hide ho
      have HRP := hide hrd
      clear ho hrd
      clear hb
      go_wp2_with fail
      refine (sBesidePagesC_any _ N2 c2 z2 m2 hc2 _ HZT.out bT HRT.out).mono ?_
      rintro e w35 ⟨vw, rfl, ho, hb⟩
      have HRT := hide (rd_step HRT.out hb)
      have HRP := hide (rd_step HRP.out hb)
      have HOP := hide (own_step HOP.out hb)
      have HB := hide (bl_step HB.out hb)
      rw [HBB.out]
      rw [← HP3.out] at ho
      obtain ⟨wo, wc, rfl, hwc, _, hrd⟩ := own_rd encI_len ho HP3.out.symm
      have HOW := hide ho
      have HRW := hide hrd
      clear ho hrd
      clear hb
      go_wp2_with fail
      refine (rInts_own _ _ P3 (besV z2 m2) _ HOP.out HOW.out HP3.out.symm b3).mono ?_
      rintro e w36 ⟨rfl, hb⟩
      have HRT := hide (rd_step HRT.out hb)
      have HRP := hide (rd_step HRP.out hb)
      have HRW := hide (rd_step HRW.out hb)
      have HOP := hide (own_step HOP.out hb)
      have HOW := hide (own_step HOW.out hb)
      have HB := hide (bl_step HB.out hb)
      clear hb
      clear HOW HRW HOP
      go_wp2_with fail
      go_loopg [26] P3 (fun gk i wr => ∃ k : Nat, k ≤ P3 ∧ P3 - k ≤ gk ∧ i = .int .i64 (k : Int) ∧ Aside (Below w.heap.size w wr) ∧ Aside (Below w36.heap.size w36 wr))
      case atStart => exact ⟨0, by omega, by omega, rfl, HB.out, Below.refl _ _⟩
      case round =>
        obtain ⟨k, hk, hgk, rfl, BW, BV⟩ := hrel
        have HRT := hide (rd_step HRT.out BV.out)
        have HRPr := hide (rd_step HRP.out BV.out)
        have HB := hide BW.out
        clear BW
        by_cases hlt : k < P3
        · have hlti : (k : Int) < (P3 : Int) := by omega
          have hk0 : (0 : Int) ≤ (k : Int) := by omega
          obtain ⟨bb, off, rfl, hbl, hat⟩ := rdI HRPr.out (by rw [← HP3.out]; omega)
          obtain ⟨x, hx, hxc⟩ := hat k (by rw [← HP3.out]; exact hlt)
          have HBK := hide (bes_back (List.mem_of_getElem? hx))
          obtain ⟨L, hL⟩ : ∃ L, L = (besV z2 x).length := ⟨_, rfl⟩
          have bL : L ≤ 1048576 := by rw [hL]; exact Nat.le_trans bes_len (by rw [HZT.out]; exact bT)
          have HLL := hide hL
          obtain ⟨_, c0⟩ := hxc wr (Below.refl _ _)
          clear hx hxc hat hL
          go_wp2_with fail
          refine (BesidePages_any _ N2 c2 z2 x _ HZT.out bT HRT.out).mono ?_
          rintro e wa ⟨vb, rfl, ho, hb⟩
          rw [HBK.out.1]
          rw [← HLL.out] at ho
          obtain ⟨bo, bc, rfl, hbc, _, hrd⟩ := own_rd encI_len ho HLL.out.symm
          have HRB := hide hrd
          have HB := hide (bl_step HB.out hb)
          have BV := hide (bl_step BV.out hb)
          clear ho hrd hb
          go_wp2_with fail
          refine (rHas_any _ L bc (besV z2 x) m2 _ HLL.out.symm bL HRB.out).mono ?_
          rintro e wh ⟨rfl, hb⟩
          rw [has_yes HBK.out.2]
          have HB := hide (bl_step HB.out hb)
          have BV := hide (bl_step BV.out hb)
          clear hb
          have k1 : IntKind.i64.wrap ((k : Int) + 1) = (k : Int) + 1 := IntWalk.i64_in _ (by omega)
          go_wp2
          go_roundg (P3 - (k + 1))
          case measure => omega
          case rel => exact ⟨k + 1, by omega, by omega, by first | go_num | (congr 1; omega), HB.out, BV.out⟩
        · have hge : ¬ (k : Int) < (P3 : Int) := by omega
          clear HRPr HRP BV
          go_wp2_with fail
          refine (IsOneCountry_any _ N2 c2 z2 _ HZT.out bT HRT.out).mono ?_
          rintro e w37 ⟨rfl, hb⟩
          have HRT := hide (rd_step HRT.out hb)
          have HB := hide (bl_step HB.out hb)
          rw [HO2.out, HA2.out]
          clear hb
          go_wp2_with fail
          refine (sIsOneCountry_any _ N2 c2 z2 _ HZT.out bT HRT.out hc2).mono ?_
          rintro e w38 ⟨rfl, hb⟩
          have HRT := hide (rd_step HRT.out hb)
          have HB := hide (bl_step HB.out hb)
          rw [HO2.out, HA2.out]
          clear hb
          go_wp2_with fail
          refine (AtlasText_any _ N2 c2 z2 _ HZT.out bT HRT.out (HT.out.below HB.out)).mono ?_
          rintro e w39 ⟨rfl, hb⟩
          have HRT := hide (rd_step HRT.out hb)
          have HB := hide (bl_step HB.out hb)
          rw [HTX.out, HA2.out]
          clear hb
          go_wp2_with fail
          refine (sAtlasTextC_any _ N2 c2 z2 hc2 _ HZT.out bT HRT.out).mono ?_
          rintro e w40 ⟨rfl, hb⟩
          have HRT := hide (rd_step HRT.out hb)
          have HB := hide (bl_step HB.out hb)
          rw [HTX.out, HA2.out]
          clear hb
          go_wp2_with fail
          refine (IsAtlas_any _ N2 c2 z2 _ HZT.out bT HRT.out).mono ?_
          rintro e w41 ⟨rfl, hb⟩
          have HRT := hide (rd_step HRT.out hb)
          have HB := hide (bl_step HB.out hb)
          rw [HA2.out]
          clear hb
          go_wp2_with fail
          refine (sIsAtlasC_any _ N2 c2 z2 hc2 _ HZT.out bT HRT.out).mono ?_
          rintro e w42 ⟨rfl, hb⟩
          have HRT := hide (rd_step HRT.out hb)
          have HB := hide (bl_step HB.out hb)
          rw [HA2.out]
          clear hb
          cases a2
          all_goals
            go_wp2
            go_ret
            exact ⟨rfl, HB.out⟩
    | true =>
      have HDR := hide hdr
      have hd1 := drp_one hdr
      rw [← hT2, HZT.out] at hd1
      have kd : IntKind.i64.wrap ((N2 : Int) - 1) = (T2 : Int) := by rw [show (N2 : Int) - 1 = (T2 : Int) from by omega]; exact IntWalk.i64_in _ (by omega)
      have kd2 : (N2 : Int) - 1 = (T2 : Int) := by omega
      have HKD := hide kd2
      clear kd2
      clear hdr hT2
      go_wp2_with fail
      refine (DropPage_any _ N2 c2 z2 m2 _ HZT.out bT HRT.out hc2).mono ?_
      rintro e w31 ⟨vo, rfl, ho, hb⟩
      have HRT := hide (rd_step HRT.out hb)
      have HB := hide (bl_step HB.out hb)
      rw [HDR.out]
      rw [← HT2.out] at ho
      obtain ⟨oo, oc, rfl, hoc, _, hrd⟩ := own_rd encPg_len ho HT2.out.symm
      have HOO := hide ho
      have HRO := hide hrd
      clear ho hrd
      clear hb
      go_wp2_with fail
      refine (sDropPageC_any _ N2 c2 z2 m2 hc2 _ HZT.out bT HRT.out).mono ?_
      rintro e w32 ⟨vu, rfl, ho, hb⟩
      have HRT := hide (rd_step HRT.out hb)
      have HRO := hide (rd_step HRO.out hb)
      have HOO := hide (own_step HOO.out hb)
      have HB := hide (bl_step HB.out hb)
      rw [HDR.out]
      rw [← HT2.out] at ho
      obtain ⟨uo, uc, rfl, huc, _, hrd⟩ := own_rd encPg_len ho HT2.out.symm
      have HOU := hide ho
      have HRU := hide hrd
      clear ho hrd
      clear hb
      go_wp2_with fail
      refine (rPages_own _ _ T2 (drpV z2 m2) _ HOO.out HOU.out HT2.out.symm b2).mono ?_
      rintro e w33 ⟨rfl, hb⟩
      have HRT := hide (rd_step HRT.out hb)
      have HRO := hide (rd_step HRO.out hb)
      have HRU := hide (rd_step HRU.out hb)
      have HOO := hide (own_step HOO.out hb)
      have HOU := hide (own_step HOU.out hb)
      have HB := hide (bl_step HB.out hb)
      clear hb
      clear HOU HRU HOO HRO
      go_wp2_with fail
      refine (BesidePages_any _ N2 c2 z2 m2 _ HZT.out bT HRT.out).mono ?_
      rintro e w34 ⟨vp, rfl, ho, hb⟩
      have HRT := hide (rd_step HRT.out hb)
      have HB := hide (bl_step HB.out hb)
      rw [HBB.out]
      rw [← HP3.out] at ho
      obtain ⟨po, pc, rfl, hpc, _, hrd⟩ := own_rd encI_len ho HP3.out.symm
      have HOP := hide ho
      have HRP := hide hrd
      clear ho hrd
      clear hb
      go_wp2_with fail
      refine (sBesidePagesC_any _ N2 c2 z2 m2 hc2 _ HZT.out bT HRT.out).mono ?_
      rintro e w35 ⟨vw, rfl, ho, hb⟩
      have HRT := hide (rd_step HRT.out hb)
      have HRP := hide (rd_step HRP.out hb)
      have HOP := hide (own_step HOP.out hb)
      have HB := hide (bl_step HB.out hb)
      rw [HBB.out]
      rw [← HP3.out] at ho
      obtain ⟨wo, wc, rfl, hwc, _, hrd⟩ := own_rd encI_len ho HP3.out.symm
      have HOW := hide ho
      have HRW := hide hrd
      clear ho hrd
      clear hb
      go_wp2_with fail
      refine (rInts_own _ _ P3 (besV z2 m2) _ HOP.out HOW.out HP3.out.symm b3).mono ?_
      rintro e w36 ⟨rfl, hb⟩
      have HRT := hide (rd_step HRT.out hb)
      have HRP := hide (rd_step HRP.out hb)
      have HRW := hide (rd_step HRW.out hb)
      have HOP := hide (own_step HOP.out hb)
      have HOW := hide (own_step HOW.out hb)
      have HB := hide (bl_step HB.out hb)
      clear hb
      clear HOW HRW HOP
      go_wp2_with fail
      go_loopg [26] P3 (fun gk i wr => ∃ k : Nat, k ≤ P3 ∧ P3 - k ≤ gk ∧ i = .int .i64 (k : Int) ∧ Aside (Below w.heap.size w wr) ∧ Aside (Below w36.heap.size w36 wr))
      case atStart => exact ⟨0, by omega, by omega, rfl, HB.out, Below.refl _ _⟩
      case round =>
        obtain ⟨k, hk, hgk, rfl, BW, BV⟩ := hrel
        have HRT := hide (rd_step HRT.out BV.out)
        have HRPr := hide (rd_step HRP.out BV.out)
        have HB := hide BW.out
        clear BW
        by_cases hlt : k < P3
        · have hlti : (k : Int) < (P3 : Int) := by omega
          have hk0 : (0 : Int) ≤ (k : Int) := by omega
          obtain ⟨bb, off, rfl, hbl, hat⟩ := rdI HRPr.out (by rw [← HP3.out]; omega)
          obtain ⟨x, hx, hxc⟩ := hat k (by rw [← HP3.out]; exact hlt)
          have HBK := hide (bes_back (List.mem_of_getElem? hx))
          obtain ⟨L, hL⟩ : ∃ L, L = (besV z2 x).length := ⟨_, rfl⟩
          have bL : L ≤ 1048576 := by rw [hL]; exact Nat.le_trans bes_len (by rw [HZT.out]; exact bT)
          have HLL := hide hL
          obtain ⟨_, c0⟩ := hxc wr (Below.refl _ _)
          clear hx hxc hat hL
          go_wp2_with fail
          refine (BesidePages_any _ N2 c2 z2 x _ HZT.out bT HRT.out).mono ?_
          rintro e wa ⟨vb, rfl, ho, hb⟩
          rw [HBK.out.1]
          rw [← HLL.out] at ho
          obtain ⟨bo, bc, rfl, hbc, _, hrd⟩ := own_rd encI_len ho HLL.out.symm
          have HRB := hide hrd
          have HB := hide (bl_step HB.out hb)
          have BV := hide (bl_step BV.out hb)
          clear ho hrd hb
          go_wp2_with fail
          refine (rHas_any _ L bc (besV z2 x) m2 _ HLL.out.symm bL HRB.out).mono ?_
          rintro e wh ⟨rfl, hb⟩
          rw [has_yes HBK.out.2]
          have HB := hide (bl_step HB.out hb)
          have BV := hide (bl_step BV.out hb)
          clear hb
          have k1 : IntKind.i64.wrap ((k : Int) + 1) = (k : Int) + 1 := IntWalk.i64_in _ (by omega)
          go_wp2
          go_roundg (P3 - (k + 1))
          case measure => omega
          case rel => exact ⟨k + 1, by omega, by omega, by first | go_num | (congr 1; omega), HB.out, BV.out⟩
        · have hge : ¬ (k : Int) < (P3 : Int) := by omega
          clear HRPr HRP BV
          go_wp2_with fail
          refine (IsOneCountry_any _ N2 c2 z2 _ HZT.out bT HRT.out).mono ?_
          rintro e w37 ⟨rfl, hb⟩
          have HRT := hide (rd_step HRT.out hb)
          have HB := hide (bl_step HB.out hb)
          rw [HO2.out, HA2.out]
          clear hb
          go_wp2_with fail
          refine (sIsOneCountry_any _ N2 c2 z2 _ HZT.out bT HRT.out hc2).mono ?_
          rintro e w38 ⟨rfl, hb⟩
          have HRT := hide (rd_step HRT.out hb)
          have HB := hide (bl_step HB.out hb)
          rw [HO2.out, HA2.out]
          clear hb
          go_wp2_with fail
          refine (AtlasText_any _ N2 c2 z2 _ HZT.out bT HRT.out (HT.out.below HB.out)).mono ?_
          rintro e w39 ⟨rfl, hb⟩
          have HRT := hide (rd_step HRT.out hb)
          have HB := hide (bl_step HB.out hb)
          rw [HTX.out, HA2.out]
          clear hb
          go_wp2_with fail
          refine (sAtlasTextC_any _ N2 c2 z2 hc2 _ HZT.out bT HRT.out).mono ?_
          rintro e w40 ⟨rfl, hb⟩
          have HRT := hide (rd_step HRT.out hb)
          have HB := hide (bl_step HB.out hb)
          rw [HTX.out, HA2.out]
          clear hb
          go_wp2_with fail
          refine (IsAtlas_any _ N2 c2 z2 _ HZT.out bT HRT.out).mono ?_
          rintro e w41 ⟨rfl, hb⟩
          have HRT := hide (rd_step HRT.out hb)
          have HB := hide (bl_step HB.out hb)
          rw [HA2.out]
          clear hb
          go_wp2_with fail
          refine (sIsAtlasC_any _ N2 c2 z2 hc2 _ HZT.out bT HRT.out).mono ?_
          rintro e w42 ⟨rfl, hb⟩
          have HRT := hide (rd_step HRT.out hb)
          have HB := hide (bl_step HB.out hb)
          rw [HA2.out]
          clear hb
          cases a2
          all_goals
            go_wp2
            go_ret
            exact ⟨rfl, HB.out⟩

end Go.Proofs.YtdgalehipgdhiaaDoor
