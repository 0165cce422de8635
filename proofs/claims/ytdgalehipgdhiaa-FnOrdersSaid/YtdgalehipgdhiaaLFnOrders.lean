/- The law FnOrders walked. -/
import Derived.Test.YtdgalehipgdhiaaVO
import Derived.Test.YtdgalehipgdhiaaH3M
import Derived.Test.YtdgalehipgdhiaaG4
import Derived.Test.YtdgalehipgdhiaaE10
import Derived.Test.YtdgalehipgdhiaaA3C
import Derived.Deep.RegionWith
namespace Go.Proofs.Ytdgalehipgdhiaa
open Go.RowKit
set_option linter.unusedVariables false
set_option linter.unusedSimpArgs false

set_option maxRecDepth 100000 in
set_option maxHeartbeats 8000000 in
theorem law_FnOrders (ao : Option Addr) (n c : Nat) (w : World) (hn : n ≤ 9223372036854775807) (hnc : n ≤ c) (hby : Bytes w.heap.size w ao n) :
    Calls Try.prog 7 #[.slice ao n c] w fun e w' => e = .returned (.bool true) ∧ Below w.heap.size w w' := by
  have HBIG := hide (rBig_any ao n c w hn)
  by_cases hbig : 65536 < n
  · have hd : decide (65536 < n) = true := by simpa using hbig
    have HD := hide hd
    clear hd
    go_enter Try.func7, Try.ntmps7
    go_wp2_with fail
    refine HBIG.out.mono ?_
    rintro e w1 ⟨rfl, rfl⟩
    rw [HD.out]
    go_wp2
    go_ret
    exact ⟨rfl, Below.refl _ _⟩
  have HD : Hid (decide (65536 < n) = false) := hide (by simpa using hbig)
  have hn6 : n ≤ 65536 := by omega
  have HDR := hide (DrawBestOrder_any ao n c w hn6 hnc hby)
  have HBY := hide hby
  have HB := hide (Below.refl w.heap.size w)
  clear hby hbig
  go_enter Try.func7, Try.ntmps7
  go_wp2_with fail
  refine HBIG.out.mono ?_
  rintro e w' ⟨rfl, rfl⟩
  rw [HD.out]
  go_wp2_with fail
  refine HDR.out.mono ?_
  rintro e w1 ⟨v, zs, rfl, hfm, hl, ho, hb⟩
  have HB := hide (bl_step HB.out hb)
  clear hfm
  obtain ⟨N, hN⟩ : ∃ N, N = zs.length := ⟨_, rfl⟩
  rw [← hN] at ho hl
  obtain ⟨so, sc, rfl, hsc, _, hrd⟩ := own_rd encPg_len ho hN.symm
  have HZS := hide hN.symm
  have HRS := hide hrd
  have bS : N ≤ 1048576 := by omega
  clear ho hrd hN
  clear hb
  obtain ⟨Q, hQ⟩ : ∃ Q, lstV zs = Q := ⟨_, rfl⟩
  have HQ := hide hQ
  clear HBIG HDR HD
  cases hok : okBO zs with
  | false =>
    have HOK := hide hok
    have HP : Hid (0 = (ordV zs).length) := hide (by unfold ordV; rw [hok]; rfl)
    clear hok hQ
    go_wp2_with fail
    refine (BestOrder_any _ N sc zs _ HZS.out bS HRS.out).mono ?_
    rintro e w2 ⟨vf, rfl, ho, hb⟩
    have HRS := hide (rd_step HRS.out hb)
    have HB := hide (bl_step HB.out hb)
    rw [HOK.out, HQ.out]
    rw [← HP.out] at ho
    obtain ⟨fo, fc, rfl, hfc, _, hrd⟩ := own_rd encI_len ho HP.out.symm
    have HOF := hide ho
    have HRF := hide hrd
    clear ho hrd
    clear hb
    go_wp2_with fail
    refine (sBestOrderC_any _ N sc zs hsc _ HZS.out bS HRS.out).mono ?_
    rintro e w3 ⟨vg, rfl, ho, hb⟩
    have HRS := hide (rd_step HRS.out hb)
    have HRF := hide (rd_step HRF.out hb)
    have HOF := hide (own_step HOF.out hb)
    have HB := hide (bl_step HB.out hb)
    rw [HOK.out, HQ.out]
    rw [← HP.out] at ho
    obtain ⟨go_, gc, rfl, hgc, _, hrd⟩ := own_rd encI_len ho HP.out.symm
    have HOG := hide ho
    have HRG := hide hrd
    clear ho hrd
    clear hb
    go_wp2_with fail
    refine (rInts_own _ _ 0 (ordV zs) _ HOF.out HOG.out HP.out.symm (by omega)).mono ?_
    rintro e w4 ⟨rfl, hb⟩
    have HRS := hide (rd_step HRS.out hb)
    have HRF := hide (rd_step HRF.out hb)
    have HRG := hide (rd_step HRG.out hb)
    have HOF := hide (own_step HOF.out hb)
    have HOG := hide (own_step HOG.out hb)
    have HB := hide (bl_step HB.out hb)
    clear hb
    have HBY2 := hide (HBY.out.later HB.out)
    go_wp2_with fail
    refine (DrawOrderedAtlas_any ao n c _ hn6 hnc HBY2.out).mono ?_
    rintro e w5 ⟨v2, z2, rfl, hfm2, hl2, ho, hb⟩
    have HB := hide (bl_step HB.out hb)
    obtain ⟨N2, hN2⟩ : ∃ N2, N2 = z2.length := ⟨_, rfl⟩
    rw [← hN2] at ho hl2
    obtain ⟨s2, c2, rfl, hc2, _, hrd⟩ := own_rd encPg_len ho hN2.symm
    have HZT := hide hN2.symm
    have HRT := hide hrd
    have bT : N2 ≤ 1048576 := by omega
    clear ho hrd hN2
    
    have HNT : Hid (s2 = none → N2 = 0 ∧ c2 = 0) := hide (by intro h; obtain ⟨gg, vc, e⟩ := hfm2; rw [h] at e; cases e)
    clear hb hfm2
    cases haz : atlasB z2 with
    | false =>
      have HAZ := hide haz
      have HPO : Hid (0 = (oaV z2).length) := hide (by unfold oaV; rw [haz]; rfl)
      clear haz
      go_wp2_with fail
      refine (OrderedAtlasO_any _ N2 c2 z2 _ HZT.out bT HRT.out HNT.out).mono ?_
      rintro e w31 ⟨vo, rfl, ho, hb⟩
      have HRT := hide (rd_step HRT.out hb)
      have HB := hide (bl_step HB.out hb)
      rw [HAZ.out]
      rw [← HPO.out] at ho
      obtain ⟨oo, oc, rfl, hoc, _, hrd⟩ := own_rd encPg_len ho HPO.out.symm
      have HOO := hide ho
      have HRO := hide hrd
      clear ho hrd
      clear hb
      go_wp2_with fail
      refine (sOrderedAtlasC_any _ N2 c2 z2 hc2 _ HZT.out bT HRT.out).mono ?_
      rintro e w32 ⟨vu, rfl, ho, hb⟩
      have HRT := hide (rd_step HRT.out hb)
      have HRO := hide (rd_step HRO.out hb)
      have HOO := hide (own_step HOO.out hb)
      have HB := hide (bl_step HB.out hb)
      rw [HAZ.out]
      rw [← HPO.out] at ho
      obtain ⟨uo, uc, rfl, huc, _, hrd⟩ := own_rd encPg_len ho HPO.out.symm
      have HOU := hide ho
      have HRU := hide hrd
      clear ho hrd
      clear hb
      go_wp2_with fail
      refine (rPages_own _ _ 0 (oaV z2) _ HOO.out HOU.out HPO.out.symm (by omega)).mono ?_
      rintro e w33 ⟨rfl, hb⟩
      have HRT := hide (rd_step HRT.out hb)
      have HRO := hide (rd_step HRO.out hb)
      have HRU := hide (rd_step HRU.out hb)
      have HOO := hide (own_step HOO.out hb)
      have HOU := hide (own_step HOU.out hb)
      have HB := hide (bl_step HB.out hb)
      clear hb
      have HBY3 := hide (HBY.out.later HB.out)
      go_wp2_with fail
      refine (DrawSeenOn_any ao n c _ hn6 hnc HBY3.out).mono ?_
      rintro e w34 ⟨v3, z3, x3, y3, rfl, hl3, ho, hb⟩
      have HB := hide (bl_step HB.out hb)
      obtain ⟨N3, hN3⟩ : ∃ N3, N3 = z3.length := ⟨_, rfl⟩
      rw [← hN3] at ho hl3
      obtain ⟨s3, c3, rfl, hc3, _, hrd⟩ := own_rd encPg_len ho hN3.symm
      have HZX := hide hN3.symm
      have HRX := hide hrd
      have bX : N3 ≤ 1048576 := by omega
      clear ho hrd hN3
      
      clear hb
      obtain ⟨P3, hP3⟩ : ∃ P3, P3 = (seenV z3 x3 y3).length := ⟨_, rfl⟩
      have b3 : P3 ≤ 1048576 := by rw [hP3]; exact Nat.le_trans seen_len (by rw [HZX.out]; exact bX)
      have HP3 := hide hP3
      obtain ⟨bs, hbs⟩ : ∃ bs, okSeen z3 x3 y3 = bs := ⟨_, rfl⟩
      have HBS := hide hbs
      clear hP3 hbs
      go_wp2_with fail
      refine (SeenOn_any _ N3 c3 z3 x3 y3 _ HZX.out bX HRX.out).mono ?_
      rintro e w35 ⟨vs, rfl, ho, hb⟩
      have HRX := hide (rd_step HRX.out hb)
      have HB := hide (bl_step HB.out hb)
      rw [HBS.out]
      rw [← HP3.out] at ho
      obtain ⟨so3, sc3, rfl, hsc3, _, hrd⟩ := own_rd encI_len ho HP3.out.symm
      have HOP := hide ho
      have HRP := hide hrd
      clear ho hrd
      clear hb
      go_wp2_with fail
      refine (sSeenOnC_any _ N3 c3 z3 x3 y3 hc3 _ HZX.out bX HRX.out).mono ?_
      rintro e w36 ⟨vt, rfl, ho, hb⟩
      have HRX := hide (rd_step HRX.out hb)
      have HRP := hide (rd_step HRP.out hb)
      have HOP := hide (own_step HOP.out hb)
      have HB := hide (bl_step HB.out hb)
      rw [HBS.out]
      rw [← HP3.out] at ho
      obtain ⟨so4, sc4, rfl, hsc4, _, hrd⟩ := own_rd encI_len ho HP3.out.symm
      have HOW := hide ho
      have HRW := hide hrd
      clear ho hrd
      clear hb
      have HBY4 := hide (HBY.out.later HB.out)
      go_wp2_with fail
      refine (DrawPageAt_any ao n c _ hn6 hnc HBY4.out).mono ?_
      rintro e w37 ⟨v4, z4, x4, y4, rfl, hl4, ho, hb⟩
      have HOP := hide (own_step HOP.out hb)
      have HOW := hide (own_step HOW.out hb)
      have HB := hide (bl_step HB.out hb)
      obtain ⟨N4, hN4⟩ : ∃ N4, N4 = z4.length := ⟨_, rfl⟩
      rw [← hN4] at ho hl4
      obtain ⟨s4, c4, rfl, hc4, _, hrd⟩ := own_rd encPg_len ho hN4.symm
      have HZY := hide hN4.symm
      have HRY := hide hrd
      have bY : N4 ≤ 1048576 := by omega
      clear ho hrd hN4
      
      clear hb
      obtain ⟨bp, hbp⟩ : ∃ bp, pOk z4 x4 y4 = bp := ⟨_, rfl⟩
      have HBP := hide hbp
      obtain ⟨pv, hpv⟩ : ∃ pv, pageV z4 x4 y4 = pv := ⟨_, rfl⟩
      have HPV := hide hpv
      clear hbp hpv
      go_wp2_with fail
      refine (PageAt_any _ N4 c4 z4 x4 y4 _ HZY.out bY HRY.out).mono ?_
      rintro e w38 ⟨rfl, hb⟩
      have HRY := hide (rd_step HRY.out hb)
      have HOP := hide (own_step HOP.out hb)
      have HOW := hide (own_step HOW.out hb)
      have HB := hide (bl_step HB.out hb)
      rw [HBP.out, HPV.out]
      clear hb
      go_wp2_with fail
      refine (sPageAtC_any _ N4 c4 z4 x4 y4 hc4 _ HZY.out bY HRY.out).mono ?_
      rintro e w39 ⟨rfl, hb⟩
      have HRY := hide (rd_step HRY.out hb)
      have HOP := hide (own_step HOP.out hb)
      have HOW := hide (own_step HOW.out hb)
      have HB := hide (bl_step HB.out hb)
      rw [HBP.out, HPV.out]
      clear hb
      go_wp2_with fail
      refine (rInts_own _ _ P3 (seenV z3 x3 y3) _ HOP.out HOW.out HP3.out.symm b3).mono ?_
      rintro e w40 ⟨rfl, hb⟩
      have HRY := hide (rd_step HRY.out hb)
      have HOP := hide (own_step HOP.out hb)
      have HOW := hide (own_step HOW.out hb)
      have HB := hide (bl_step HB.out hb)
      clear hb
      go_wp2
      go_ret
      exact ⟨rfl, HB.out⟩
    | true =>
      have HAZ := hide haz
      have HPO : Hid (N2 = (oaV z2).length) := hide (by rw [oa_eq haz, ordA_len, HZT.out])
      have HAO := hide (oa_atlas haz)
      have HAG := hide (oa_again haz)
      clear haz
      go_wp2_with fail
      refine (OrderedAtlasO_any _ N2 c2 z2 _ HZT.out bT HRT.out HNT.out).mono ?_
      rintro e w31 ⟨vo, rfl, ho, hb⟩
      have HRT := hide (rd_step HRT.out hb)
      have HB := hide (bl_step HB.out hb)
      rw [HAZ.out]
      rw [← HPO.out] at ho
      obtain ⟨oo, oc, rfl, hoc, _, hrd⟩ := own_rd encPg_len ho HPO.out.symm
      have HOO := hide ho
      have HRO := hide hrd
      clear ho hrd
      clear hb
      go_wp2_with fail
      refine (sOrderedAtlasC_any _ N2 c2 z2 hc2 _ HZT.out bT HRT.out).mono ?_
      rintro e w32 ⟨vu, rfl, ho, hb⟩
      have HRT := hide (rd_step HRT.out hb)
      have HRO := hide (rd_step HRO.out hb)
      have HOO := hide (own_step HOO.out hb)
      have HB := hide (bl_step HB.out hb)
      rw [HAZ.out]
      rw [← HPO.out] at ho
      obtain ⟨uo, uc, rfl, huc, _, hrd⟩ := own_rd encPg_len ho HPO.out.symm
      have HOU := hide ho
      have HRU := hide hrd
      clear ho hrd
      clear hb
      go_wp2_with fail
      refine (rPages_own _ _ N2 (oaV z2) _ HOO.out HOU.out HPO.out.symm bT).mono ?_
      rintro e w33 ⟨rfl, hb⟩
      have HRT := hide (rd_step HRT.out hb)
      have HRO := hide (rd_step HRO.out hb)
      have HRU := hide (rd_step HRU.out hb)
      have HOO := hide (own_step HOO.out hb)
      have HOU := hide (own_step HOU.out hb)
      have HB := hide (bl_step HB.out hb)
      clear hb
      clear HOU HRU
      have HNO : Hid (oo = none → N2 = 0 ∧ oc = 0) := hide (by
        intro h
        rcases own_form encPg_len HOO.out HPO.out.symm with ⟨h1, h2, _⟩ | ⟨g, cap, cs, h1, _⟩
        · rw [h] at h1; injection h1 with _ _ h3; exact ⟨h2, h3⟩
        · rw [h] at h1; injection h1 with h3; cases h3)
      go_wp2_with fail
      refine (OrderedAtlasO_any _ N2 oc (oaV z2) _ HPO.out.symm bT HRO.out HNO.out).mono ?_
      rintro e w34 ⟨va, rfl, ho, hb⟩
      have HRT := hide (rd_step HRT.out hb)
      have HRO := hide (rd_step HRO.out hb)
      have HOO := hide (own_step HOO.out hb)
      have HB := hide (bl_step HB.out hb)
      rw [HAO.out]
      rw [HAG.out] at ho
      rw [← HPO.out] at ho
      obtain ⟨aa, ac, rfl, hac, _, hrd⟩ := own_rd encPg_len ho HPO.out.symm
      have HOA := hide ho
      have HRA := hide hrd
      clear ho hrd
      clear hb
      go_wp2_with fail
      refine (rPages_own _ _ N2 (oaV z2) _ HOA.out HOO.out HPO.out.symm bT).mono ?_
      rintro e w35 ⟨rfl, hb⟩
      have HRT := hide (rd_step HRT.out hb)
      have HRO := hide (rd_step HRO.out hb)
      have HRA := hide (rd_step HRA.out hb)
      have HOO := hide (own_step HOO.out hb)
      have HOA := hide (own_step HOA.out hb)
      have HB := hide (bl_step HB.out hb)
      clear hb
      go_wp2_with fail
      go_loopg [20] N2 (fun gk i wr => ∃ k : Nat, k ≤ N2 ∧ N2 - k ≤ gk ∧ i = .int .i64 (k : Int) ∧ Aside (Below w.heap.size w wr) ∧ Aside (Below w35.heap.size w35 wr))
      case atStart => exact ⟨0, by omega, by omega, rfl, HB.out, Below.refl _ _⟩
      case round =>
        obtain ⟨k, hk, hgk, rfl, BW, BV⟩ := hrel
        have HRTr := hide (rd_step HRT.out BV.out)
        have HB := hide BW.out
        clear BW
        by_cases hlt : k < N2
        · have hlti : (k : Int) < (N2 : Int) := by omega
          have hk0 : (0 : Int) ≤ (k : Int) := by omega
          obtain ⟨b, off, rfl, hbl, hat⟩ := rdPg HRTr.out (by rw [HZT.out]; omega)
          obtain ⟨x, hx, hxc⟩ := hat k (by rw [HZT.out]; exact hlt)
          have HPS := hide (page_self HAZ.out hx)
          have HSS := hide (seen_self HAZ.out hx)
          have bx := atlas_at HAZ.out hx
          obtain ⟨M, hM⟩ : ∃ M, M = (seenV z2 (100 * x.c + 50) (100 * x.r + 50)).length := ⟨_, rfl⟩
          have bM : M ≤ 1048576 := by rw [hM]; exact Nat.le_trans seen_len (by rw [HZT.out]; exact bT)
          have HMM := hide hM
          obtain ⟨hbr, d0, d1, d2, d3⟩ := hxc wr (Below.refl _ _)
          have k1 : IntKind.i64.wrap (100 * x.c) = 100 * x.c := IntWalk.i64_in _ (by omega)
          have k2 : IntKind.i64.wrap (100 * x.c + 50) = 100 * x.c + 50 := IntWalk.i64_in _ (by omega)
          have k3 : IntKind.i64.wrap (100 * x.r) = 100 * x.r := IntWalk.i64_in _ (by omega)
          have k4 : IntKind.i64.wrap (100 * x.r + 50) = 100 * x.r + 50 := IntWalk.i64_in _ (by omega)
          have k5 : IntKind.i64.wrap ((k : Int) + 1) = (k : Int) + 1 := IntWalk.i64_in _ (by omega)
          clear hx hxc hat hM
          go_wp2_with fail
          refine wp_region_held_drew (S := fun w' => w'.cell? ⟨b, off + k * 4 + 1, none⟩ = some (.int .i64 x.r) ∧ w'.cell? ⟨b, off + k * 4 + 2, none⟩ = some (.int .i64 x.c) ∧ Below wr.heap.size wr w') (by kernel_rfl) ⟨d1, d2, (Below.refl _ _).drew⟩ (fun hHeld => ?_)
          refine heldI_take 0 141 ?vv68 rfl (by kernel_rfl) (by kernel_rfl) (by kernel_rfl) rfl (fun _ _ _ h => h) (by rfl) ?hy68 (by assumption) ?rest68
          case hy68 => (intro w hSw; (try dsimp only at hSw); go_simp; try with_reducible rfl)
          try simp only [Act.put, List.setIfInBounds_toArray, List.set_cons_zero, List.set_cons_succ]
          refine heldI_take 1 142 ?vv69 rfl (by kernel_rfl) (by kernel_rfl) (by kernel_rfl) rfl (fun _ _ _ h => h) (by rfl) ?hy69 (by assumption) ?rest69
          case hy69 => (intro w hSw; (try dsimp only at hSw); go_simp; try with_reducible rfl)
          try simp only [Act.put, List.setIfInBounds_toArray, List.set_cons_zero, List.set_cons_succ]
          refine heldI_take 2 143 ?vv70 rfl (by kernel_rfl) (by kernel_rfl) (by kernel_rfl) rfl (fun _ _ _ h => h) (by rfl) ?hy70 (by assumption) ?rest70
          case hy70 => (intro w hSw; (try dsimp only at hSw); go_simp; try with_reducible rfl)
          try simp only [Act.put, List.setIfInBounds_toArray, List.set_cons_zero, List.set_cons_succ]
          refine heldI_take 3 144 ?vv71 rfl (by kernel_rfl) (by kernel_rfl) (by kernel_rfl) rfl (fun _ _ _ h => h) (by rfl) ?hy71 (by assumption) ?rest71
          case hy71 => (intro w hSw; (try dsimp only at hSw); go_simp; try with_reducible rfl)
          try simp only [Act.put, List.setIfInBounds_toArray, List.set_cons_zero, List.set_cons_succ]
          refine heldI_take 4 145 ?vv72 rfl (by kernel_rfl) (by kernel_rfl) (by kernel_rfl) rfl (fun _ _ _ h => h) (by rfl) ?hy72 (by assumption) ?rest72
          case hy72 => (intro w hSw; (try dsimp only at hSw); go_simp; try with_reducible rfl)
          try simp only [Act.put, List.setIfInBounds_toArray, List.set_cons_zero, List.set_cons_succ]
          refine heldI_take 5 146 ?vv73 rfl (by kernel_rfl) (by kernel_rfl) (by kernel_rfl) rfl (fun _ _ _ h => h) (by rfl) ?hy73 (by assumption) ?rest73
          case hy73 => (intro w hSw; (try dsimp only at hSw); go_simp; try with_reducible rfl)
          try simp only [Act.put, List.setIfInBounds_toArray, List.set_cons_zero, List.set_cons_succ]
          refine heldI_take 6 147 ?vv74 rfl (by kernel_rfl) (by kernel_rfl) (by kernel_rfl) rfl (fun _ _ _ h => h) (by rfl) ?hy74 (by assumption) ?rest74
          case hy74 => (intro w hSw; (try dsimp only at hSw); go_simp; try with_reducible rfl)
          try simp only [Act.put, List.setIfInBounds_toArray, List.set_cons_zero, List.set_cons_succ]
          refine heldI_take 7 148 ?vv75 rfl (by kernel_rfl) (by kernel_rfl) (by kernel_rfl) rfl (fun _ _ _ h => h) (by rfl) ?hy75 (by assumption) ?rest75
          case hy75 => (intro w hSw; (try dsimp only at hSw); go_simp; try with_reducible rfl)
          try simp only [Act.put, List.setIfInBounds_toArray, List.set_cons_zero, List.set_cons_succ]
          refine heldI_take 8 149 ?vv76 rfl (by kernel_rfl) (by kernel_rfl) (by kernel_rfl) rfl (fun _ _ _ h => h) (by rfl) ?hy76 (by assumption) ?rest76
          case hy76 => (intro w hSw; (try dsimp only at hSw); go_simp; try with_reducible rfl)
          try simp only [Act.put, List.setIfInBounds_toArray, List.set_cons_zero, List.set_cons_succ]
          refine heldI_take 9 150 ?vv77 rfl (by kernel_rfl) (by kernel_rfl) (by kernel_rfl) rfl (fun _ _ _ h => h) (by rfl) ?hy77 (by assumption) ?rest77
          case hy77 => (intro w hSw; (try dsimp only at hSw); go_simp; try with_reducible rfl)
          try simp only [Act.put, List.setIfInBounds_toArray, List.set_cons_zero, List.set_cons_succ]
          refine heldI_take 10 151 ?vv78 rfl (by kernel_rfl) (by kernel_rfl) (by kernel_rfl) rfl (fun _ _ _ h => h) (by rfl) ?hy78 (by assumption) ?rest78
          case hy78 => (intro w hSw; (try dsimp only at hSw); go_simp; try with_reducible rfl)
          try simp only [Act.put, List.setIfInBounds_toArray, List.set_cons_zero, List.set_cons_succ]
          refine wpAnyH_ready (rs := [11]) (by kernel_rfl) (by simp) ?_
          refine AllReadyH.cons rfl (fun K hK => ?_) AllReadyH.nil
          go_simp
          refine (PageAt_any _ N2 c2 z2 x.r x.c _ HZT.out bT (rd_step HRTr.out hHeld.2.2)).mono ?_
          rintro e v1 ⟨rfl, hb⟩
          rw [HPS.out.1, HPS.out.2]
          go_wp2_with fail
          have hq := Below.trans hHeld.2.2 (Below.mono hb hHeld.2.2.size)
          refine hK.out _ _ ⟨(hq.cell (p := ⟨b, off + k * 4 + 1, none⟩) hbr).trans d1, (hq.cell (p := ⟨b, off + k * 4 + 2, none⟩) hbr).trans d2, hq⟩ (fun hHeld => ?_)
          clear hq hb hK K
          try simp only [Act.put, List.setIfInBounds_toArray, List.set_cons_zero, List.set_cons_succ]
          refine heldI_take 12 140 ?vv79 rfl (by kernel_rfl) (by kernel_rfl) (by kernel_rfl) rfl (fun _ _ _ h => h) (by rfl) ?hy79 (by assumption) ?rest79
          case hy79 => (intro w hSw; (try dsimp only at hSw); go_simp; try with_reducible rfl)
          try simp only [Act.put, List.setIfInBounds_toArray, List.set_cons_zero, List.set_cons_succ]
          refine heldI_take 13 153 ?vv80 rfl (by kernel_rfl) (by kernel_rfl) (by kernel_rfl) rfl (fun _ _ _ h => h) (by rfl) ?hy80 (by assumption) ?rest80
          case hy80 => (intro w hSw; (try dsimp only at hSw); go_simp; try with_reducible rfl)
          try simp only [Act.put, List.setIfInBounds_toArray, List.set_cons_zero, List.set_cons_succ]
          refine heldI_take 14 154 ?vv81 rfl (by kernel_rfl) (by kernel_rfl) (by kernel_rfl) rfl (fun _ _ _ h => h) (by rfl) ?hy81 (by assumption) ?rest81
          case hy81 => (intro w hSw; (try dsimp only at hSw); go_simp; try with_reducible rfl)
          try simp only [Act.put, List.setIfInBounds_toArray, List.set_cons_zero, List.set_cons_succ]
          refine heldI_take 15 21 ?vv82 rfl (by kernel_rfl) (by kernel_rfl) (by kernel_rfl) rfl (fun _ _ _ h => h) (by rfl) ?hy82 (by assumption) ?rest82
          case hy82 => (intro w hSw; (try dsimp only at hSw); go_simp; try with_reducible rfl)
          try simp only [Act.put, List.setIfInBounds_toArray, List.set_cons_zero, List.set_cons_succ]
          refine heldI_take 16 22 ?vv83 rfl (by kernel_rfl) (by kernel_rfl) (by kernel_rfl) rfl (fun _ _ _ h => h) (by rfl) ?hy83 (by assumption) ?rest83
          case hy83 => (intro w hSw; (try dsimp only at hSw); go_simp; try with_reducible rfl)
          try simp only [Act.put, List.setIfInBounds_toArray, List.set_cons_zero, List.set_cons_succ]
          refine wpAnyH_done (by kernel_rfl) ?_ _
          have HBK := hide hHeld.2.2
          clear hHeld
          have HB := hide (bl_step HB.out HBK.out)
          have BV := hide (bl_step BV.out HBK.out)
          have HRT2 := hide (rd_step HRTr.out HBK.out)
          have hbr2 : b < v1.heap.size := Nat.lt_of_lt_of_le hbr HBK.out.size
          have e0 := (HBK.out.cell (p := ⟨b, off + k * 4, none⟩) hbr).trans d0
          have e1 := (HBK.out.cell (p := ⟨b, off + k * 4 + 1, none⟩) hbr).trans d1
          have e2 := (HBK.out.cell (p := ⟨b, off + k * 4 + 2, none⟩) hbr).trans d2
          clear HBK HRTr d0 d1 d2 d3
          go_wp2_with fail
          refine wp_region_held_drew (S := fun w' => w'.cell? ⟨b, off + k * 4 + 1, none⟩ = some (.int .i64 x.r) ∧ w'.cell? ⟨b, off + k * 4 + 2, none⟩ = some (.int .i64 x.c) ∧ Below v1.heap.size v1 w') (by kernel_rfl) ⟨e1, e2, (Below.refl _ _).drew⟩ (fun hHeld => ?_)
          refine heldI_take 0 156 ?vv84 rfl (by kernel_rfl) (by kernel_rfl) (by kernel_rfl) rfl (fun _ _ _ h => h) (by rfl) ?hy84 (by assumption) ?rest84
          case hy84 => (intro w hSw; (try dsimp only at hSw); go_simp; try with_reducible rfl)
          try simp only [Act.put, List.setIfInBounds_toArray, List.set_cons_zero, List.set_cons_succ]
          refine heldI_take 1 157 ?vv85 rfl (by kernel_rfl) (by kernel_rfl) (by kernel_rfl) rfl (fun _ _ _ h => h) (by rfl) ?hy85 (by assumption) ?rest85
          case hy85 => (intro w hSw; (try dsimp only at hSw); go_simp; try with_reducible rfl)
          try simp only [Act.put, List.setIfInBounds_toArray, List.set_cons_zero, List.set_cons_succ]
          refine heldI_take 2 158 ?vv86 rfl (by kernel_rfl) (by kernel_rfl) (by kernel_rfl) rfl (fun _ _ _ h => h) (by rfl) ?hy86 (by assumption) ?rest86
          case hy86 => (intro w hSw; (try dsimp only at hSw); go_simp; try with_reducible rfl)
          try simp only [Act.put, List.setIfInBounds_toArray, List.set_cons_zero, List.set_cons_succ]
          refine heldI_take 3 159 ?vv87 rfl (by kernel_rfl) (by kernel_rfl) (by kernel_rfl) rfl (fun _ _ _ h => h) (by rfl) ?hy87 (by assumption) ?rest87
          case hy87 => (intro w hSw; (try dsimp only at hSw); go_simp; try with_reducible rfl)
          try simp only [Act.put, List.setIfInBounds_toArray, List.set_cons_zero, List.set_cons_succ]
          refine heldI_take 4 160 ?vv88 rfl (by kernel_rfl) (by kernel_rfl) (by kernel_rfl) rfl (fun _ _ _ h => h) (by rfl) ?hy88 (by assumption) ?rest88
          case hy88 => (intro w hSw; (try dsimp only at hSw); go_simp; try with_reducible rfl)
          try simp only [Act.put, List.setIfInBounds_toArray, List.set_cons_zero, List.set_cons_succ]
          refine heldI_take 5 161 ?vv89 rfl (by kernel_rfl) (by kernel_rfl) (by kernel_rfl) rfl (fun _ _ _ h => h) (by rfl) ?hy89 (by assumption) ?rest89
          case hy89 => (intro w hSw; (try dsimp only at hSw); go_simp; try with_reducible rfl)
          try simp only [Act.put, List.setIfInBounds_toArray, List.set_cons_zero, List.set_cons_succ]
          refine heldI_take 6 162 ?vv90 rfl (by kernel_rfl) (by kernel_rfl) (by kernel_rfl) rfl (fun _ _ _ h => h) (by rfl) ?hy90 (by assumption) ?rest90
          case hy90 => (intro w hSw; (try dsimp only at hSw); go_simp; try with_reducible rfl)
          try simp only [Act.put, List.setIfInBounds_toArray, List.set_cons_zero, List.set_cons_succ]
          refine heldI_take 7 163 ?vv91 rfl (by kernel_rfl) (by kernel_rfl) (by kernel_rfl) rfl (fun _ _ _ h => h) (by rfl) ?hy91 (by assumption) ?rest91
          case hy91 => (intro w hSw; (try dsimp only at hSw); go_simp; try with_reducible rfl)
          try simp only [Act.put, List.setIfInBounds_toArray, List.set_cons_zero, List.set_cons_succ]
          refine heldI_take 8 164 ?vv92 rfl (by kernel_rfl) (by kernel_rfl) (by kernel_rfl) rfl (fun _ _ _ h => h) (by rfl) ?hy92 (by assumption) ?rest92
          case hy92 => (intro w hSw; (try dsimp only at hSw); go_simp; try with_reducible rfl)
          try simp only [Act.put, List.setIfInBounds_toArray, List.set_cons_zero, List.set_cons_succ]
          refine heldI_take 9 165 ?vv93 rfl (by kernel_rfl) (by kernel_rfl) (by kernel_rfl) rfl (fun _ _ _ h => h) (by rfl) ?hy93 (by assumption) ?rest93
          case hy93 => (intro w hSw; (try dsimp only at hSw); go_simp; try with_reducible rfl)
          try simp only [Act.put, List.setIfInBounds_toArray, List.set_cons_zero, List.set_cons_succ]
          refine heldI_take 10 166 ?vv94 rfl (by kernel_rfl) (by kernel_rfl) (by kernel_rfl) rfl (fun _ _ _ h => h) (by rfl) ?hy94 (by assumption) ?rest94
          case hy94 => (intro w hSw; (try dsimp only at hSw); go_simp; try with_reducible rfl)
          try simp only [Act.put, List.setIfInBounds_toArray, List.set_cons_zero, List.set_cons_succ]
          refine heldI_take 11 167 ?vv95 rfl (by kernel_rfl) (by kernel_rfl) (by kernel_rfl) rfl (fun _ _ _ h => h) (by rfl) ?hy95 (by assumption) ?rest95
          case hy95 => (intro w hSw; (try dsimp only at hSw); go_simp; try with_reducible rfl)
          try simp only [Act.put, List.setIfInBounds_toArray, List.set_cons_zero, List.set_cons_succ]
          refine heldI_take 12 168 ?vv96 rfl (by kernel_rfl) (by kernel_rfl) (by kernel_rfl) rfl (fun _ _ _ h => h) (by rfl) ?hy96 (by assumption) ?rest96
          case hy96 => (intro w hSw; (try dsimp only at hSw); go_simp; try with_reducible rfl)
          try simp only [Act.put, List.setIfInBounds_toArray, List.set_cons_zero, List.set_cons_succ]
          refine heldI_take 13 169 ?vv97 rfl (by kernel_rfl) (by kernel_rfl) (by kernel_rfl) rfl (fun _ _ _ h => h) (by rfl) ?hy97 (by assumption) ?rest97
          case hy97 => (intro w hSw; (try dsimp only at hSw); go_simp; try with_reducible rfl)
          try simp only [Act.put, List.setIfInBounds_toArray, List.set_cons_zero, List.set_cons_succ]
          refine heldI_take 14 170 ?vv98 rfl (by kernel_rfl) (by kernel_rfl) (by kernel_rfl) rfl (fun _ _ _ h => h) (by rfl) ?hy98 (by assumption) ?rest98
          case hy98 => (intro w hSw; (try dsimp only at hSw); go_simp; try with_reducible rfl)
          try simp only [Act.put, List.setIfInBounds_toArray, List.set_cons_zero, List.set_cons_succ]
          refine wpAnyH_ready (rs := [15]) (by kernel_rfl) (by simp) ?_
          refine AllReadyH.cons rfl (fun K hK => ?_) AllReadyH.nil
          go_simp
          refine (SeenOn_any _ N2 c2 z2 (100 * x.c + 50) (100 * x.r + 50) _ HZT.out bT (rd_step HRT2.out hHeld.2.2)).mono ?_
          rintro e v2 ⟨vz, rfl, ho, hb⟩
          rw [HSS.out.1]
          rw [← HMM.out] at ho
          obtain ⟨so, sq, rfl, hsq, _, hrd⟩ := own_rd encI_len ho HMM.out.symm
          have HRW := hide hrd
          clear ho hrd
          go_wp2_with fail
          have hq := Below.trans hHeld.2.2 (Below.mono hb hHeld.2.2.size)
          refine hK.out _ _ ⟨(hq.cell (p := ⟨b, off + k * 4 + 1, none⟩) hbr2).trans e1, (hq.cell (p := ⟨b, off + k * 4 + 2, none⟩) hbr2).trans e2, hq⟩ (fun hHeld => ?_)
          clear hq hb hK K
          try simp only [Act.put, List.setIfInBounds_toArray, List.set_cons_zero, List.set_cons_succ]
          refine heldI_take 16 155 ?vv99 rfl (by kernel_rfl) (by kernel_rfl) (by kernel_rfl) rfl (fun _ _ _ h => h) (by rfl) ?hy99 (by assumption) ?rest99
          case hy99 => (intro w hSw; (try dsimp only at hSw); go_simp; try with_reducible rfl)
          try simp only [Act.put, List.setIfInBounds_toArray, List.set_cons_zero, List.set_cons_succ]
          refine heldI_take 17 172 ?vv100 rfl (by kernel_rfl) (by kernel_rfl) (by kernel_rfl) rfl (fun _ _ _ h => h) (by rfl) ?hy100 (by assumption) ?rest100
          case hy100 => (intro w hSw; (try dsimp only at hSw); go_simp; try with_reducible rfl)
          try simp only [Act.put, List.setIfInBounds_toArray, List.set_cons_zero, List.set_cons_succ]
          refine heldI_take 18 173 ?vv101 rfl (by kernel_rfl) (by kernel_rfl) (by kernel_rfl) rfl (fun _ _ _ h => h) (by rfl) ?hy101 (by assumption) ?rest101
          case hy101 => (intro w hSw; (try dsimp only at hSw); go_simp; try with_reducible rfl)
          try simp only [Act.put, List.setIfInBounds_toArray, List.set_cons_zero, List.set_cons_succ]
          refine heldI_take 19 23 ?vv102 rfl (by kernel_rfl) (by kernel_rfl) (by kernel_rfl) rfl (fun _ _ _ h => h) (by rfl) ?hy102 (by assumption) ?rest102
          case hy102 => (intro w hSw; (try dsimp only at hSw); go_simp; try with_reducible rfl)
          try simp only [Act.put, List.setIfInBounds_toArray, List.set_cons_zero, List.set_cons_succ]
          refine heldI_take 20 24 ?vv103 rfl (by kernel_rfl) (by kernel_rfl) (by kernel_rfl) rfl (fun _ _ _ h => h) (by rfl) ?hy103 (by assumption) ?rest103
          case hy103 => (intro w hSw; (try dsimp only at hSw); go_simp; try with_reducible rfl)
          try simp only [Act.put, List.setIfInBounds_toArray, List.set_cons_zero, List.set_cons_succ]
          refine wpAnyH_done (by kernel_rfl) ?_ _
          have HBK := hide hHeld.2.2
          clear hHeld
          have HB := hide (bl_step HB.out HBK.out)
          have BV := hide (bl_step BV.out HBK.out)
          have f0 := (HBK.out.cell (p := ⟨b, off + k * 4, none⟩) hbr2).trans e0
          clear HBK HRT2 e0 e1 e2
          go_wp2_with fail
          refine (rHas_any _ M sq (seenV z2 (100 * x.c + 50) (100 * x.r + 50)) x.n _ HMM.out.symm bM HRW.out).mono ?_
          rintro e wh ⟨rfl, hb⟩
          rw [has_yes HSS.out.2]
          have HB := hide (bl_step HB.out hb)
          have BV := hide (bl_step BV.out hb)
          clear hb f0
          go_wp2
          go_roundg (N2 - (k + 1))
          case measure => omega
          case rel => exact ⟨k + 1, by omega, by omega, by first | go_num | (congr 1; omega), HB.out, BV.out⟩
        · have hge : ¬ (k : Int) < (N2 : Int) := by omega
          clear HRTr BV
          have HBY3 := hide (HBY.out.later HB.out)
          go_wp2_with fail
          refine (DrawSeenOn_any ao n c _ hn6 hnc HBY3.out).mono ?_
          rintro e w36 ⟨v3, z3, x3, y3, rfl, hl3, ho, hb⟩
          have HB := hide (bl_step HB.out hb)
          obtain ⟨N3, hN3⟩ : ∃ N3, N3 = z3.length := ⟨_, rfl⟩
          rw [← hN3] at ho hl3
          obtain ⟨s3, c3, rfl, hc3, _, hrd⟩ := own_rd encPg_len ho hN3.symm
          have HZX := hide hN3.symm
          have HRX := hide hrd
          have bX : N3 ≤ 1048576 := by omega
          clear ho hrd hN3
          
          clear hb
          obtain ⟨P3, hP3⟩ : ∃ P3, P3 = (seenV z3 x3 y3).length := ⟨_, rfl⟩
          have b3 : P3 ≤ 1048576 := by rw [hP3]; exact Nat.le_trans seen_len (by rw [HZX.out]; exact bX)
          have HP3 := hide hP3
          obtain ⟨bs, hbs⟩ : ∃ bs, okSeen z3 x3 y3 = bs := ⟨_, rfl⟩
          have HBS := hide hbs
          clear hP3 hbs
          go_wp2_with fail
          refine (SeenOn_any _ N3 c3 z3 x3 y3 _ HZX.out bX HRX.out).mono ?_
          rintro e w37 ⟨vs, rfl, ho, hb⟩
          have HRX := hide (rd_step HRX.out hb)
          have HB := hide (bl_step HB.out hb)
          rw [HBS.out]
          rw [← HP3.out] at ho
          obtain ⟨so3, sc3, rfl, hsc3, _, hrd⟩ := own_rd encI_len ho HP3.out.symm
          have HOP := hide ho
          have HRP := hide hrd
          clear ho hrd
          clear hb
          go_wp2_with fail
          refine (sSeenOnC_any _ N3 c3 z3 x3 y3 hc3 _ HZX.out bX HRX.out).mono ?_
          rintro e w38 ⟨vt, rfl, ho, hb⟩
          have HRX := hide (rd_step HRX.out hb)
          have HRP := hide (rd_step HRP.out hb)
          have HOP := hide (own_step HOP.out hb)
          have HB := hide (bl_step HB.out hb)
          rw [HBS.out]
          rw [← HP3.out] at ho
          obtain ⟨so4, sc4, rfl, hsc4, _, hrd⟩ := own_rd encI_len ho HP3.out.symm
          have HOW := hide ho
          have HRW := hide hrd
          clear ho hrd
          clear hb
          have HBY4 := hide (HBY.out.later HB.out)
          go_wp2_with fail
          refine (DrawPageAt_any ao n c _ hn6 hnc HBY4.out).mono ?_
          rintro e w39 ⟨v4, z4, x4, y4, rfl, hl4, ho, hb⟩
          have HOP := hide (own_step HOP.out hb)
          have HOW := hide (own_step HOW.out hb)
          have HB := hide (bl_step HB.out hb)
          obtain ⟨N4, hN4⟩ : ∃ N4, N4 = z4.length := ⟨_, rfl⟩
          rw [← hN4] at ho hl4
          obtain ⟨s4, c4, rfl, hc4, _, hrd⟩ := own_rd encPg_len ho hN4.symm
          have HZY := hide hN4.symm
          have HRY := hide hrd
          have bY : N4 ≤ 1048576 := by omega
          clear ho hrd hN4
          
          clear hb
          obtain ⟨bp, hbp⟩ : ∃ bp, pOk z4 x4 y4 = bp := ⟨_, rfl⟩
          have HBP := hide hbp
          obtain ⟨pv, hpv⟩ : ∃ pv, pageV z4 x4 y4 = pv := ⟨_, rfl⟩
          have HPV := hide hpv
          clear hbp hpv
          go_wp2_with fail
          refine (PageAt_any _ N4 c4 z4 x4 y4 _ HZY.out bY HRY.out).mono ?_
          rintro e w40 ⟨rfl, hb⟩
          have HRY := hide (rd_step HRY.out hb)
          have HOP := hide (own_step HOP.out hb)
          have HOW := hide (own_step HOW.out hb)
          have HB := hide (bl_step HB.out hb)
          rw [HBP.out, HPV.out]
          clear hb
          go_wp2_with fail
          refine (sPageAtC_any _ N4 c4 z4 x4 y4 hc4 _ HZY.out bY HRY.out).mono ?_
          rintro e w41 ⟨rfl, hb⟩
          have HRY := hide (rd_step HRY.out hb)
          have HOP := hide (own_step HOP.out hb)
          have HOW := hide (own_step HOW.out hb)
          have HB := hide (bl_step HB.out hb)
          rw [HBP.out, HPV.out]
          clear hb
          go_wp2_with fail
          refine (rInts_own _ _ P3 (seenV z3 x3 y3) _ HOP.out HOW.out HP3.out.symm b3).mono ?_
          rintro e w42 ⟨rfl, hb⟩
          have HRY := hide (rd_step HRY.out hb)
          have HOP := hide (own_step HOP.out hb)
          have HOW := hide (own_step HOW.out hb)
          have HB := hide (bl_step HB.out hb)
          clear hb
          go_wp2
          go_ret
          exact ⟨rfl, HB.out⟩
  | true =>
    have HOK := hide hok
    have hat : atlasB zs = true := by unfold okBO at hok; simp only [Bool.and_eq_true] at hok; exact hok.1
    have HAT := hide hat
    have HP : Hid (N = (ordV zs).length) := hide (by rw [ord_full hok, HZS.out])
    obtain ⟨R, hR⟩ : ∃ R, roughV zs N = R := ⟨_, rfl⟩
    have HRR := hide hR
    have hQR : Q ≤ R := by rw [← hQ, ← hR]; unfold roughV; rw [if_pos hat, ← HZS.out]; exact lst_rough hok
    have hQR2 : ¬ R < Q := by omega
    have hQR3 : decide (R < Q) = false := by simpa using hQR
    clear hat hR
    clear hok hQ
    go_wp2_with fail
    refine (BestOrder_any _ N sc zs _ HZS.out bS HRS.out).mono ?_
    rintro e w2 ⟨vf, rfl, ho, hb⟩
    have HRS := hide (rd_step HRS.out hb)
    have HB := hide (bl_step HB.out hb)
    rw [HOK.out, HQ.out]
    rw [← HP.out] at ho
    obtain ⟨fo, fc, rfl, hfc, _, hrd⟩ := own_rd encI_len ho HP.out.symm
    have HOF := hide ho
    have HRF := hide hrd
    clear ho hrd
    clear hb
    go_wp2_with fail
    refine (sBestOrderC_any _ N sc zs hsc _ HZS.out bS HRS.out).mono ?_
    rintro e w3 ⟨vg, rfl, ho, hb⟩
    have HRS := hide (rd_step HRS.out hb)
    have HRF := hide (rd_step HRF.out hb)
    have HOF := hide (own_step HOF.out hb)
    have HB := hide (bl_step HB.out hb)
    rw [HOK.out, HQ.out]
    rw [← HP.out] at ho
    obtain ⟨go_, gc, rfl, hgc, _, hrd⟩ := own_rd encI_len ho HP.out.symm
    have HOG := hide ho
    have HRG := hide hrd
    clear ho hrd
    clear hb
    go_wp2_with fail
    refine (rInts_own _ _ N (ordV zs) _ HOF.out HOG.out HP.out.symm bS).mono ?_
    rintro e w4 ⟨rfl, hb⟩
    have HRS := hide (rd_step HRS.out hb)
    have HRF := hide (rd_step HRF.out hb)
    have HRG := hide (rd_step HRG.out hb)
    have HOF := hide (own_step HOF.out hb)
    have HOG := hide (own_step HOG.out hb)
    have HB := hide (bl_step HB.out hb)
    clear hb
    clear HOG HRG
    go_wp2_with fail
    refine (RoughTurns_any _ N sc zs _ HZS.out bS HRS.out).mono ?_
    rintro e w5 ⟨rfl, hb⟩
    have HRS := hide (rd_step HRS.out hb)
    have HRF := hide (rd_step HRF.out hb)
    have HB := hide (bl_step HB.out hb)
    rw [HAT.out, HRR.out]
    clear hb
    go_wp2_with fail
    go_loopg [12] N (fun gk i wr => ∃ k : Nat, k ≤ N ∧ N - k ≤ gk ∧ i = .int .i64 ((k : Int) + 1) ∧ Aside (Below w.heap.size w wr) ∧ Aside (Below w5.heap.size w5 wr))
    case atStart => exact ⟨0, by omega, by omega, rfl, HB.out, Below.refl _ _⟩
    case round =>
      obtain ⟨k, hk, hgk, rfl, BW, BV⟩ := hrel
      have HRFr := hide (rd_step HRF.out BV.out)
      have HB := hide BW.out
      clear BW
      by_cases hlt : k < N
      · have hlti : (k : Int) + 1 ≤ (N : Int) := by omega
        have HHS := hide (has_yes (ord_has HOK.out (i := (k : Int) + 1) (by omega) (by rw [HZS.out]; exact hlti)))
        go_wp2_with fail
        refine (rHas_any _ N fc (ordV zs) ((k : Int) + 1) _ HP.out.symm bS HRFr.out).mono ?_
        rintro e wh ⟨rfl, hb⟩
        rw [HHS.out]
        have HB := hide (bl_step HB.out hb)
        have BV := hide (bl_step BV.out hb)
        clear hb
        have k1 : IntKind.i64.wrap ((k : Int) + 1 + 1) = (k : Int) + 1 + 1 := IntWalk.i64_in _ (by omega)
        go_wp2
        go_roundg (N - (k + 1))
        case measure => omega
        case rel => exact ⟨k + 1, by omega, by omega, by first | go_num | (congr 1; omega), HB.out, BV.out⟩
      · have hge : ¬ (k : Int) + 1 ≤ (N : Int) := by omega
        clear HRFr BV HRF HRS
        have HBY2 := hide (HBY.out.later HB.out)
        go_wp2_with fail
        refine (DrawOrderedAtlas_any ao n c _ hn6 hnc HBY2.out).mono ?_
        rintro e w6 ⟨v2, z2, rfl, hfm2, hl2, ho, hb⟩
        have HB := hide (bl_step HB.out hb)
        obtain ⟨N2, hN2⟩ : ∃ N2, N2 = z2.length := ⟨_, rfl⟩
        rw [← hN2] at ho hl2
        obtain ⟨s2, c2, rfl, hc2, _, hrd⟩ := own_rd encPg_len ho hN2.symm
        have HZT := hide hN2.symm
        have HRT := hide hrd
        have bT : N2 ≤ 1048576 := by omega
        clear ho hrd hN2
        
        have HNT : Hid (s2 = none → N2 = 0 ∧ c2 = 0) := hide (by intro h; obtain ⟨gg, vc, e⟩ := hfm2; rw [h] at e; cases e)
        clear hb hfm2
        cases haz : atlasB z2 with
        | false =>
          have HAZ := hide haz
          have HPO : Hid (0 = (oaV z2).length) := hide (by unfold oaV; rw [haz]; rfl)
          clear haz
          go_wp2_with fail
          refine (OrderedAtlasO_any _ N2 c2 z2 _ HZT.out bT HRT.out HNT.out).mono ?_
          rintro e w31 ⟨vo, rfl, ho, hb⟩
          have HRT := hide (rd_step HRT.out hb)
          have HB := hide (bl_step HB.out hb)
          rw [HAZ.out]
          rw [← HPO.out] at ho
          obtain ⟨oo, oc, rfl, hoc, _, hrd⟩ := own_rd encPg_len ho HPO.out.symm
          have HOO := hide ho
          have HRO := hide hrd
          clear ho hrd
          clear hb
          go_wp2_with fail
          refine (sOrderedAtlasC_any _ N2 c2 z2 hc2 _ HZT.out bT HRT.out).mono ?_
          rintro e w32 ⟨vu, rfl, ho, hb⟩
          have HRT := hide (rd_step HRT.out hb)
          have HRO := hide (rd_step HRO.out hb)
          have HOO := hide (own_step HOO.out hb)
          have HB := hide (bl_step HB.out hb)
          rw [HAZ.out]
          rw [← HPO.out] at ho
          obtain ⟨uo, uc, rfl, huc, _, hrd⟩ := own_rd encPg_len ho HPO.out.symm
          have HOU := hide ho
          have HRU := hide hrd
          clear ho hrd
          clear hb
          go_wp2_with fail
          refine (rPages_own _ _ 0 (oaV z2) _ HOO.out HOU.out HPO.out.symm (by omega)).mono ?_
          rintro e w33 ⟨rfl, hb⟩
          have HRT := hide (rd_step HRT.out hb)
          have HRO := hide (rd_step HRO.out hb)
          have HRU := hide (rd_step HRU.out hb)
          have HOO := hide (own_step HOO.out hb)
          have HOU := hide (own_step HOU.out hb)
          have HB := hide (bl_step HB.out hb)
          clear hb
          have HBY3 := hide (HBY.out.later HB.out)
          go_wp2_with fail
          refine (DrawSeenOn_any ao n c _ hn6 hnc HBY3.out).mono ?_
          rintro e w34 ⟨v3, z3, x3, y3, rfl, hl3, ho, hb⟩
          have HB := hide (bl_step HB.out hb)
          obtain ⟨N3, hN3⟩ : ∃ N3, N3 = z3.length := ⟨_, rfl⟩
          rw [← hN3] at ho hl3
          obtain ⟨s3, c3, rfl, hc3, _, hrd⟩ := own_rd encPg_len ho hN3.symm
          have HZX := hide hN3.symm
          have HRX := hide hrd
          have bX : N3 ≤ 1048576 := by omega
          clear ho hrd hN3
          
          clear hb
          obtain ⟨P3, hP3⟩ : ∃ P3, P3 = (seenV z3 x3 y3).length := ⟨_, rfl⟩
          have b3 : P3 ≤ 1048576 := by rw [hP3]; exact Nat.le_trans seen_len (by rw [HZX.out]; exact bX)
          have HP3 := hide hP3
          obtain ⟨bs, hbs⟩ : ∃ bs, okSeen z3 x3 y3 = bs := ⟨_, rfl⟩
          have HBS := hide hbs
          clear hP3 hbs
          go_wp2_with fail
          refine (SeenOn_any _ N3 c3 z3 x3 y3 _ HZX.out bX HRX.out).mono ?_
          rintro e w35 ⟨vs, rfl, ho, hb⟩
          have HRX := hide (rd_step HRX.out hb)
          have HB := hide (bl_step HB.out hb)
          rw [HBS.out]
          rw [← HP3.out] at ho
          obtain ⟨so3, sc3, rfl, hsc3, _, hrd⟩ := own_rd encI_len ho HP3.out.symm
          have HOP := hide ho
          have HRP := hide hrd
          clear ho hrd
          clear hb
          go_wp2_with fail
          refine (sSeenOnC_any _ N3 c3 z3 x3 y3 hc3 _ HZX.out bX HRX.out).mono ?_
          rintro e w36 ⟨vt, rfl, ho, hb⟩
          have HRX := hide (rd_step HRX.out hb)
          have HRP := hide (rd_step HRP.out hb)
          have HOP := hide (own_step HOP.out hb)
          have HB := hide (bl_step HB.out hb)
          rw [HBS.out]
          rw [← HP3.out] at ho
          obtain ⟨so4, sc4, rfl, hsc4, _, hrd⟩ := own_rd encI_len ho HP3.out.symm
          have HOW := hide ho
          have HRW := hide hrd
          clear ho hrd
          clear hb
          have HBY4 := hide (HBY.out.later HB.out)
          go_wp2_with fail
          refine (DrawPageAt_any ao n c _ hn6 hnc HBY4.out).mono ?_
          rintro e w37 ⟨v4, z4, x4, y4, rfl, hl4, ho, hb⟩
          have HOP := hide (own_step HOP.out hb)
          have HOW := hide (own_step HOW.out hb)
          have HB := hide (bl_step HB.out hb)
          obtain ⟨N4, hN4⟩ : ∃ N4, N4 = z4.length := ⟨_, rfl⟩
          rw [← hN4] at ho hl4
          obtain ⟨s4, c4, rfl, hc4, _, hrd⟩ := own_rd encPg_len ho hN4.symm
          have HZY := hide hN4.symm
          have HRY := hide hrd
          have bY : N4 ≤ 1048576 := by omega
          clear ho hrd hN4
          
          clear hb
          obtain ⟨bp, hbp⟩ : ∃ bp, pOk z4 x4 y4 = bp := ⟨_, rfl⟩
          have HBP := hide hbp
          obtain ⟨pv, hpv⟩ : ∃ pv, pageV z4 x4 y4 = pv := ⟨_, rfl⟩
          have HPV := hide hpv
          clear hbp hpv
          go_wp2_with fail
          refine (PageAt_any _ N4 c4 z4 x4 y4 _ HZY.out bY HRY.out).mono ?_
          rintro e w38 ⟨rfl, hb⟩
          have HRY := hide (rd_step HRY.out hb)
          have HOP := hide (own_step HOP.out hb)
          have HOW := hide (own_step HOW.out hb)
          have HB := hide (bl_step HB.out hb)
          rw [HBP.out, HPV.out]
          clear hb
          go_wp2_with fail
          refine (sPageAtC_any _ N4 c4 z4 x4 y4 hc4 _ HZY.out bY HRY.out).mono ?_
          rintro e w39 ⟨rfl, hb⟩
          have HRY := hide (rd_step HRY.out hb)
          have HOP := hide (own_step HOP.out hb)
          have HOW := hide (own_step HOW.out hb)
          have HB := hide (bl_step HB.out hb)
          rw [HBP.out, HPV.out]
          clear hb
          go_wp2_with fail
          refine (rInts_own _ _ P3 (seenV z3 x3 y3) _ HOP.out HOW.out HP3.out.symm b3).mono ?_
          rintro e w40 ⟨rfl, hb⟩
          have HRY := hide (rd_step HRY.out hb)
          have HOP := hide (own_step HOP.out hb)
          have HOW := hide (own_step HOW.out hb)
          have HB := hide (bl_step HB.out hb)
          clear hb
          go_wp2
          go_ret
          exact ⟨rfl, HB.out⟩
        | true =>
          have HAZ := hide haz
          have HPO : Hid (N2 = (oaV z2).length) := hide (by rw [oa_eq haz, ordA_len, HZT.out])
          have HAO := hide (oa_atlas haz)
          have HAG := hide (oa_again haz)
          clear haz
          go_wp2_with fail
          refine (OrderedAtlasO_any _ N2 c2 z2 _ HZT.out bT HRT.out HNT.out).mono ?_
          rintro e w31 ⟨vo, rfl, ho, hb⟩
          have HRT := hide (rd_step HRT.out hb)
          have HB := hide (bl_step HB.out hb)
          rw [HAZ.out]
          rw [← HPO.out] at ho
          obtain ⟨oo, oc, rfl, hoc, _, hrd⟩ := own_rd encPg_len ho HPO.out.symm
          have HOO := hide ho
          have HRO := hide hrd
          clear ho hrd
          clear hb
          go_wp2_with fail
          refine (sOrderedAtlasC_any _ N2 c2 z2 hc2 _ HZT.out bT HRT.out).mono ?_
          rintro e w32 ⟨vu, rfl, ho, hb⟩
          have HRT := hide (rd_step HRT.out hb)
          have HRO := hide (rd_step HRO.out hb)
          have HOO := hide (own_step HOO.out hb)
          have HB := hide (bl_step HB.out hb)
          rw [HAZ.out]
          rw [← HPO.out] at ho
          obtain ⟨uo, uc, rfl, huc, _, hrd⟩ := own_rd encPg_len ho HPO.out.symm
          have HOU := hide ho
          have HRU := hide hrd
          clear ho hrd
          clear hb
          go_wp2_with fail
          refine (rPages_own _ _ N2 (oaV z2) _ HOO.out HOU.out HPO.out.symm bT).mono ?_
          rintro e w33 ⟨rfl, hb⟩
          have HRT := hide (rd_step HRT.out hb)
          have HRO := hide (rd_step HRO.out hb)
          have HRU := hide (rd_step HRU.out hb)
          have HOO := hide (own_step HOO.out hb)
          have HOU := hide (own_step HOU.out hb)
          have HB := hide (bl_step HB.out hb)
          clear hb
          clear HOU HRU
          have HNO : Hid (oo = none → N2 = 0 ∧ oc = 0) := hide (by
            intro h
            rcases own_form encPg_len HOO.out HPO.out.symm with ⟨h1, h2, _⟩ | ⟨g, cap, cs, h1, _⟩
            · rw [h] at h1; injection h1 with _ _ h3; exact ⟨h2, h3⟩
            · rw [h] at h1; injection h1 with h3; cases h3)
          go_wp2_with fail
          refine (OrderedAtlasO_any _ N2 oc (oaV z2) _ HPO.out.symm bT HRO.out HNO.out).mono ?_
          rintro e w34 ⟨va, rfl, ho, hb⟩
          have HRT := hide (rd_step HRT.out hb)
          have HRO := hide (rd_step HRO.out hb)
          have HOO := hide (own_step HOO.out hb)
          have HB := hide (bl_step HB.out hb)
          rw [HAO.out]
          rw [HAG.out] at ho
          rw [← HPO.out] at ho
          obtain ⟨aa, ac, rfl, hac, _, hrd⟩ := own_rd encPg_len ho HPO.out.symm
          have HOA := hide ho
          have HRA := hide hrd
          clear ho hrd
          clear hb
          go_wp2_with fail
          refine (rPages_own _ _ N2 (oaV z2) _ HOA.out HOO.out HPO.out.symm bT).mono ?_
          rintro e w35 ⟨rfl, hb⟩
          have HRT := hide (rd_step HRT.out hb)
          have HRO := hide (rd_step HRO.out hb)
          have HRA := hide (rd_step HRA.out hb)
          have HOO := hide (own_step HOO.out hb)
          have HOA := hide (own_step HOA.out hb)
          have HB := hide (bl_step HB.out hb)
          clear hb
          go_wp2_with fail
          go_loopg [20] N2 (fun gk i wr => ∃ k : Nat, k ≤ N2 ∧ N2 - k ≤ gk ∧ i = .int .i64 (k : Int) ∧ Aside (Below w.heap.size w wr) ∧ Aside (Below w35.heap.size w35 wr))
          case atStart => exact ⟨0, by omega, by omega, rfl, HB.out, Below.refl _ _⟩
          case round =>
            obtain ⟨k, hk, hgk, rfl, BW, BV⟩ := hrel
            have HRTr := hide (rd_step HRT.out BV.out)
            have HB := hide BW.out
            clear BW
            by_cases hlt : k < N2
            · have hlti : (k : Int) < (N2 : Int) := by omega
              have hk0 : (0 : Int) ≤ (k : Int) := by omega
              obtain ⟨b, off, rfl, hbl, hat⟩ := rdPg HRTr.out (by rw [HZT.out]; omega)
              obtain ⟨x, hx, hxc⟩ := hat k (by rw [HZT.out]; exact hlt)
              have HPS := hide (page_self HAZ.out hx)
              have HSS := hide (seen_self HAZ.out hx)
              have bx := atlas_at HAZ.out hx
              obtain ⟨M, hM⟩ : ∃ M, M = (seenV z2 (100 * x.c + 50) (100 * x.r + 50)).length := ⟨_, rfl⟩
              have bM : M ≤ 1048576 := by rw [hM]; exact Nat.le_trans seen_len (by rw [HZT.out]; exact bT)
              have HMM := hide hM
              obtain ⟨hbr, d0, d1, d2, d3⟩ := hxc wr (Below.refl _ _)
              have k1 : IntKind.i64.wrap (100 * x.c) = 100 * x.c := IntWalk.i64_in _ (by omega)
              have k2 : IntKind.i64.wrap (100 * x.c + 50) = 100 * x.c + 50 := IntWalk.i64_in _ (by omega)
              have k3 : IntKind.i64.wrap (100 * x.r) = 100 * x.r := IntWalk.i64_in _ (by omega)
              have k4 : IntKind.i64.wrap (100 * x.r + 50) = 100 * x.r + 50 := IntWalk.i64_in _ (by omega)
              have k5 : IntKind.i64.wrap ((k : Int) + 1) = (k : Int) + 1 := IntWalk.i64_in _ (by omega)
              clear hx hxc hat hM
              go_wp2_with fail
              refine wp_region_held_drew (S := fun w' => w'.cell? ⟨b, off + k * 4 + 1, none⟩ = some (.int .i64 x.r) ∧ w'.cell? ⟨b, off + k * 4 + 2, none⟩ = some (.int .i64 x.c) ∧ Below wr.heap.size wr w') (by kernel_rfl) ⟨d1, d2, (Below.refl _ _).drew⟩ (fun hHeld => ?_)
              refine heldI_take 0 141 ?vv104 rfl (by kernel_rfl) (by kernel_rfl) (by kernel_rfl) rfl (fun _ _ _ h => h) (by rfl) ?hy104 (by assumption) ?rest104
              case hy104 => (intro w hSw; (try dsimp only at hSw); go_simp; try with_reducible rfl)
              try simp only [Act.put, List.setIfInBounds_toArray, List.set_cons_zero, List.set_cons_succ]
              refine heldI_take 1 142 ?vv105 rfl (by kernel_rfl) (by kernel_rfl) (by kernel_rfl) rfl (fun _ _ _ h => h) (by rfl) ?hy105 (by assumption) ?rest105
              case hy105 => (intro w hSw; (try dsimp only at hSw); go_simp; try with_reducible rfl)
              try simp only [Act.put, List.setIfInBounds_toArray, List.set_cons_zero, List.set_cons_succ]
              refine heldI_take 2 143 ?vv106 rfl (by kernel_rfl) (by kernel_rfl) (by kernel_rfl) rfl (fun _ _ _ h => h) (by rfl) ?hy106 (by assumption) ?rest106
              case hy106 => (intro w hSw; (try dsimp only at hSw); go_simp; try with_reducible rfl)
              try simp only [Act.put, List.setIfInBounds_toArray, List.set_cons_zero, List.set_cons_succ]
              refine heldI_take 3 144 ?vv107 rfl (by kernel_rfl) (by kernel_rfl) (by kernel_rfl) rfl (fun _ _ _ h => h) (by rfl) ?hy107 (by assumption) ?rest107
              case hy107 => (intro w hSw; (try dsimp only at hSw); go_simp; try with_reducible rfl)
              try simp only [Act.put, List.setIfInBounds_toArray, List.set_cons_zero, List.set_cons_succ]
              refine heldI_take 4 145 ?vv108 rfl (by kernel_rfl) (by kernel_rfl) (by kernel_rfl) rfl (fun _ _ _ h => h) (by rfl) ?hy108 (by assumption) ?rest108
              case hy108 => (intro w hSw; (try dsimp only at hSw); go_simp; try with_reducible rfl)
              try simp only [Act.put, List.setIfInBounds_toArray, List.set_cons_zero, List.set_cons_succ]
              refine heldI_take 5 146 ?vv109 rfl (by kernel_rfl) (by kernel_rfl) (by kernel_rfl) rfl (fun _ _ _ h => h) (by rfl) ?hy109 (by assumption) ?rest109
              case hy109 => (intro w hSw; (try dsimp only at hSw); go_simp; try with_reducible rfl)
              try simp only [Act.put, List.setIfInBounds_toArray, List.set_cons_zero, List.set_cons_succ]
              refine heldI_take 6 147 ?vv110 rfl (by kernel_rfl) (by kernel_rfl) (by kernel_rfl) rfl (fun _ _ _ h => h) (by rfl) ?hy110 (by assumption) ?rest110
              case hy110 => (intro w hSw; (try dsimp only at hSw); go_simp; try with_reducible rfl)
              try simp only [Act.put, List.setIfInBounds_toArray, List.set_cons_zero, List.set_cons_succ]
              refine heldI_take 7 148 ?vv111 rfl (by kernel_rfl) (by kernel_rfl) (by kernel_rfl) rfl (fun _ _ _ h => h) (by rfl) ?hy111 (by assumption) ?rest111
              case hy111 => (intro w hSw; (try dsimp only at hSw); go_simp; try with_reducible rfl)
              try simp only [Act.put, List.setIfInBounds_toArray, List.set_cons_zero, List.set_cons_succ]
              refine heldI_take 8 149 ?vv112 rfl (by kernel_rfl) (by kernel_rfl) (by kernel_rfl) rfl (fun _ _ _ h => h) (by rfl) ?hy112 (by assumption) ?rest112
              case hy112 => (intro w hSw; (try dsimp only at hSw); go_simp; try with_reducible rfl)
              try simp only [Act.put, List.setIfInBounds_toArray, List.set_cons_zero, List.set_cons_succ]
              refine heldI_take 9 150 ?vv113 rfl (by kernel_rfl) (by kernel_rfl) (by kernel_rfl) rfl (fun _ _ _ h => h) (by rfl) ?hy113 (by assumption) ?rest113
              case hy113 => (intro w hSw; (try dsimp only at hSw); go_simp; try with_reducible rfl)
              try simp only [Act.put, List.setIfInBounds_toArray, List.set_cons_zero, List.set_cons_succ]
              refine heldI_take 10 151 ?vv114 rfl (by kernel_rfl) (by kernel_rfl) (by kernel_rfl) rfl (fun _ _ _ h => h) (by rfl) ?hy114 (by assumption) ?rest114
              case hy114 => (intro w hSw; (try dsimp only at hSw); go_simp; try with_reducible rfl)
              try simp only [Act.put, List.setIfInBounds_toArray, List.set_cons_zero, List.set_cons_succ]
              refine wpAnyH_ready (rs := [11]) (by kernel_rfl) (by simp) ?_
              refine AllReadyH.cons rfl (fun K hK => ?_) AllReadyH.nil
              go_simp
              refine (PageAt_any _ N2 c2 z2 x.r x.c _ HZT.out bT (rd_step HRTr.out hHeld.2.2)).mono ?_
              rintro e v1 ⟨rfl, hb⟩
              rw [HPS.out.1, HPS.out.2]
              go_wp2_with fail
              have hq := Below.trans hHeld.2.2 (Below.mono hb hHeld.2.2.size)
              refine hK.out _ _ ⟨(hq.cell (p := ⟨b, off + k * 4 + 1, none⟩) hbr).trans d1, (hq.cell (p := ⟨b, off + k * 4 + 2, none⟩) hbr).trans d2, hq⟩ (fun hHeld => ?_)
              clear hq hb hK K
              try simp only [Act.put, List.setIfInBounds_toArray, List.set_cons_zero, List.set_cons_succ]
              refine heldI_take 12 140 ?vv115 rfl (by kernel_rfl) (by kernel_rfl) (by kernel_rfl) rfl (fun _ _ _ h => h) (by rfl) ?hy115 (by assumption) ?rest115
              case hy115 => (intro w hSw; (try dsimp only at hSw); go_simp; try with_reducible rfl)
              try simp only [Act.put, List.setIfInBounds_toArray, List.set_cons_zero, List.set_cons_succ]
              refine heldI_take 13 153 ?vv116 rfl (by kernel_rfl) (by kernel_rfl) (by kernel_rfl) rfl (fun _ _ _ h => h) (by rfl) ?hy116 (by assumption) ?rest116
              case hy116 => (intro w hSw; (try dsimp only at hSw); go_simp; try with_reducible rfl)
              try simp only [Act.put, List.setIfInBounds_toArray, List.set_cons_zero, List.set_cons_succ]
              refine heldI_take 14 154 ?vv117 rfl (by kernel_rfl) (by kernel_rfl) (by kernel_rfl) rfl (fun _ _ _ h => h) (by rfl) ?hy117 (by assumption) ?rest117
              case hy117 => (intro w hSw; (try dsimp only at hSw); go_simp; try with_reducible rfl)
              try simp only [Act.put, List.setIfInBounds_toArray, List.set_cons_zero, List.set_cons_succ]
              refine heldI_take 15 21 ?vv118 rfl (by kernel_rfl) (by kernel_rfl) (by kernel_rfl) rfl (fun _ _ _ h => h) (by rfl) ?hy118 (by assumption) ?rest118
              case hy118 => (intro w hSw; (try dsimp only at hSw); go_simp; try with_reducible rfl)
              try simp only [Act.put, List.setIfInBounds_toArray, List.set_cons_zero, List.set_cons_succ]
              refine heldI_take 16 22 ?vv119 rfl (by kernel_rfl) (by kernel_rfl) (by kernel_rfl) rfl (fun _ _ _ h => h) (by rfl) ?hy119 (by assumption) ?rest119
              case hy119 => (intro w hSw; (try dsimp only at hSw); go_simp; try with_reducible rfl)
              try simp only [Act.put, List.setIfInBounds_toArray, List.set_cons_zero, List.set_cons_succ]
              refine wpAnyH_done (by kernel_rfl) ?_ _
              have HBK := hide hHeld.2.2
              clear hHeld
              have HB := hide (bl_step HB.out HBK.out)
              have BV := hide (bl_step BV.out HBK.out)
              have HRT2 := hide (rd_step HRTr.out HBK.out)
              have hbr2 : b < v1.heap.size := Nat.lt_of_lt_of_le hbr HBK.out.size
              have e0 := (HBK.out.cell (p := ⟨b, off + k * 4, none⟩) hbr).trans d0
              have e1 := (HBK.out.cell (p := ⟨b, off + k * 4 + 1, none⟩) hbr).trans d1
              have e2 := (HBK.out.cell (p := ⟨b, off + k * 4 + 2, none⟩) hbr).trans d2
              clear HBK HRTr d0 d1 d2 d3
              go_wp2_with fail
              refine wp_region_held_drew (S := fun w' => w'.cell? ⟨b, off + k * 4 + 1, none⟩ = some (.int .i64 x.r) ∧ w'.cell? ⟨b, off + k * 4 + 2, none⟩ = some (.int .i64 x.c) ∧ Below v1.heap.size v1 w') (by kernel_rfl) ⟨e1, e2, (Below.refl _ _).drew⟩ (fun hHeld => ?_)
              refine heldI_take 0 156 ?vv120 rfl (by kernel_rfl) (by kernel_rfl) (by kernel_rfl) rfl (fun _ _ _ h => h) (by rfl) ?hy120 (by assumption) ?rest120
              case hy120 => (intro w hSw; (try dsimp only at hSw); go_simp; try with_reducible rfl)
              try simp only [Act.put, List.setIfInBounds_toArray, List.set_cons_zero, List.set_cons_succ]
              refine heldI_take 1 157 ?vv121 rfl (by kernel_rfl) (by kernel_rfl) (by kernel_rfl) rfl (fun _ _ _ h => h) (by rfl) ?hy121 (by assumption) ?rest121
              case hy121 => (intro w hSw; (try dsimp only at hSw); go_simp; try with_reducible rfl)
              try simp only [Act.put, List.setIfInBounds_toArray, List.set_cons_zero, List.set_cons_succ]
              refine heldI_take 2 158 ?vv122 rfl (by kernel_rfl) (by kernel_rfl) (by kernel_rfl) rfl (fun _ _ _ h => h) (by rfl) ?hy122 (by assumption) ?rest122
              case hy122 => (intro w hSw; (try dsimp only at hSw); go_simp; try with_reducible rfl)
              try simp only [Act.put, List.setIfInBounds_toArray, List.set_cons_zero, List.set_cons_succ]
              refine heldI_take 3 159 ?vv123 rfl (by kernel_rfl) (by kernel_rfl) (by kernel_rfl) rfl (fun _ _ _ h => h) (by rfl) ?hy123 (by assumption) ?rest123
              case hy123 => (intro w hSw; (try dsimp only at hSw); go_simp; try with_reducible rfl)
              try simp only [Act.put, List.setIfInBounds_toArray, List.set_cons_zero, List.set_cons_succ]
              refine heldI_take 4 160 ?vv124 rfl (by kernel_rfl) (by kernel_rfl) (by kernel_rfl) rfl (fun _ _ _ h => h) (by rfl) ?hy124 (by assumption) ?rest124
              case hy124 => (intro w hSw; (try dsimp only at hSw); go_simp; try with_reducible rfl)
              try simp only [Act.put, List.setIfInBounds_toArray, List.set_cons_zero, List.set_cons_succ]
              refine heldI_take 5 161 ?vv125 rfl (by kernel_rfl) (by kernel_rfl) (by kernel_rfl) rfl (fun _ _ _ h => h) (by rfl) ?hy125 (by assumption) ?rest125
              case hy125 => (intro w hSw; (try dsimp only at hSw); go_simp; try with_reducible rfl)
              try simp only [Act.put, List.setIfInBounds_toArray, List.set_cons_zero, List.set_cons_succ]
              refine heldI_take 6 162 ?vv126 rfl (by kernel_rfl) (by kernel_rfl) (by kernel_rfl) rfl (fun _ _ _ h => h) (by rfl) ?hy126 (by assumption) ?rest126
              case hy126 => (intro w hSw; (try dsimp only at hSw); go_simp; try with_reducible rfl)
              try simp only [Act.put, List.setIfInBounds_toArray, List.set_cons_zero, List.set_cons_succ]
              refine heldI_take 7 163 ?vv127 rfl (by kernel_rfl) (by kernel_rfl) (by kernel_rfl) rfl (fun _ _ _ h => h) (by rfl) ?hy127 (by assumption) ?rest127
              case hy127 => (intro w hSw; (try dsimp only at hSw); go_simp; try with_reducible rfl)
              try simp only [Act.put, List.setIfInBounds_toArray, List.set_cons_zero, List.set_cons_succ]
              refine heldI_take 8 164 ?vv128 rfl (by kernel_rfl) (by kernel_rfl) (by kernel_rfl) rfl (fun _ _ _ h => h) (by rfl) ?hy128 (by assumption) ?rest128
              case hy128 => (intro w hSw; (try dsimp only at hSw); go_simp; try with_reducible rfl)
              try simp only [Act.put, List.setIfInBounds_toArray, List.set_cons_zero, List.set_cons_succ]
              refine heldI_take 9 165 ?vv129 rfl (by kernel_rfl) (by kernel_rfl) (by kernel_rfl) rfl (fun _ _ _ h => h) (by rfl) ?hy129 (by assumption) ?rest129
              case hy129 => (intro w hSw; (try dsimp only at hSw); go_simp; try with_reducible rfl)
              try simp only [Act.put, List.setIfInBounds_toArray, List.set_cons_zero, List.set_cons_succ]
              refine heldI_take 10 166 ?vv130 rfl (by kernel_rfl) (by kernel_rfl) (by kernel_rfl) rfl (fun _ _ _ h => h) (by rfl) ?hy130 (by assumption) ?rest130
              case hy130 => (intro w hSw; (try dsimp only at hSw); go_simp; try with_reducible rfl)
              try simp only [Act.put, List.setIfInBounds_toArray, List.set_cons_zero, List.set_cons_succ]
              refine heldI_take 11 167 ?vv131 rfl (by kernel_rfl) (by kernel_rfl) (by kernel_rfl) rfl (fun _ _ _ h => h) (by rfl) ?hy131 (by assumption) ?rest131
              case hy131 => (intro w hSw; (try dsimp only at hSw); go_simp; try with_reducible rfl)
              try simp only [Act.put, List.setIfInBounds_toArray, List.set_cons_zero, List.set_cons_succ]
              refine heldI_take 12 168 ?vv132 rfl (by kernel_rfl) (by kernel_rfl) (by kernel_rfl) rfl (fun _ _ _ h => h) (by rfl) ?hy132 (by assumption) ?rest132
              case hy132 => (intro w hSw; (try dsimp only at hSw); go_simp; try with_reducible rfl)
              try simp only [Act.put, List.setIfInBounds_toArray, List.set_cons_zero, List.set_cons_succ]
              refine heldI_take 13 169 ?vv133 rfl (by kernel_rfl) (by kernel_rfl) (by kernel_rfl) rfl (fun _ _ _ h => h) (by rfl) ?hy133 (by assumption) ?rest133
              case hy133 => (intro w hSw; (try dsimp only at hSw); go_simp; try with_reducible rfl)
              try simp only [Act.put, List.setIfInBounds_toArray, List.set_cons_zero, List.set_cons_succ]
              refine heldI_take 14 170 ?vv134 rfl (by kernel_rfl) (by kernel_rfl) (by kernel_rfl) rfl (fun _ _ _ h => h) (by rfl) ?hy134 (by assumption) ?rest134
              case hy134 => (intro w hSw; (try dsimp only at hSw); go_simp; try with_reducible rfl)
              try simp only [Act.put, List.setIfInBounds_toArray, List.set_cons_zero, List.set_cons_succ]
              refine wpAnyH_ready (rs := [15]) (by kernel_rfl) (by simp) ?_
              refine AllReadyH.cons rfl (fun K hK => ?_) AllReadyH.nil
              go_simp
              refine (SeenOn_any _ N2 c2 z2 (100 * x.c + 50) (100 * x.r + 50) _ HZT.out bT (rd_step HRT2.out hHeld.2.2)).mono ?_
              rintro e v2 ⟨vz, rfl, ho, hb⟩
              rw [HSS.out.1]
              rw [← HMM.out] at ho
              obtain ⟨so, sq, rfl, hsq, _, hrd⟩ := own_rd encI_len ho HMM.out.symm
              have HRW := hide hrd
              clear ho hrd
              go_wp2_with fail
              have hq := Below.trans hHeld.2.2 (Below.mono hb hHeld.2.2.size)
              refine hK.out _ _ ⟨(hq.cell (p := ⟨b, off + k * 4 + 1, none⟩) hbr2).trans e1, (hq.cell (p := ⟨b, off + k * 4 + 2, none⟩) hbr2).trans e2, hq⟩ (fun hHeld => ?_)
              clear hq hb hK K
              try simp only [Act.put, List.setIfInBounds_toArray, List.set_cons_zero, List.set_cons_succ]
              refine heldI_take 16 155 ?vv135 rfl (by kernel_rfl) (by kernel_rfl) (by kernel_rfl) rfl (fun _ _ _ h => h) (by rfl) ?hy135 (by assumption) ?rest135
              case hy135 => (intro w hSw; (try dsimp only at hSw); go_simp; try with_reducible rfl)
              try simp only [Act.put, List.setIfInBounds_toArray, List.set_cons_zero, List.set_cons_succ]
              refine heldI_take 17 172 ?vv136 rfl (by kernel_rfl) (by kernel_rfl) (by kernel_rfl) rfl (fun _ _ _ h => h) (by rfl) ?hy136 (by assumption) ?rest136
              case hy136 => (intro w hSw; (try dsimp only at hSw); go_simp; try with_reducible rfl)
              try simp only [Act.put, List.setIfInBounds_toArray, List.set_cons_zero, List.set_cons_succ]
              refine heldI_take 18 173 ?vv137 rfl (by kernel_rfl) (by kernel_rfl) (by kernel_rfl) rfl (fun _ _ _ h => h) (by rfl) ?hy137 (by assumption) ?rest137
              case hy137 => (intro w hSw; (try dsimp only at hSw); go_simp; try with_reducible rfl)
              try simp only [Act.put, List.setIfInBounds_toArray, List.set_cons_zero, List.set_cons_succ]
              refine heldI_take 19 23 ?vv138 rfl (by kernel_rfl) (by kernel_rfl) (by kernel_rfl) rfl (fun _ _ _ h => h) (by rfl) ?hy138 (by assumption) ?rest138
              case hy138 => (intro w hSw; (try dsimp only at hSw); go_simp; try with_reducible rfl)
              try simp only [Act.put, List.setIfInBounds_toArray, List.set_cons_zero, List.set_cons_succ]
              refine heldI_take 20 24 ?vv139 rfl (by kernel_rfl) (by kernel_rfl) (by kernel_rfl) rfl (fun _ _ _ h => h) (by rfl) ?hy139 (by assumption) ?rest139
              case hy139 => (intro w hSw; (try dsimp only at hSw); go_simp; try with_reducible rfl)
              try simp only [Act.put, List.setIfInBounds_toArray, List.set_cons_zero, List.set_cons_succ]
              refine wpAnyH_done (by kernel_rfl) ?_ _
              have HBK := hide hHeld.2.2
              clear hHeld
              have HB := hide (bl_step HB.out HBK.out)
              have BV := hide (bl_step BV.out HBK.out)
              have f0 := (HBK.out.cell (p := ⟨b, off + k * 4, none⟩) hbr2).trans e0
              clear HBK HRT2 e0 e1 e2
              go_wp2_with fail
              refine (rHas_any _ M sq (seenV z2 (100 * x.c + 50) (100 * x.r + 50)) x.n _ HMM.out.symm bM HRW.out).mono ?_
              rintro e wh ⟨rfl, hb⟩
              rw [has_yes HSS.out.2]
              have HB := hide (bl_step HB.out hb)
              have BV := hide (bl_step BV.out hb)
              clear hb f0
              go_wp2
              go_roundg (N2 - (k + 1))
              case measure => omega
              case rel => exact ⟨k + 1, by omega, by omega, by first | go_num | (congr 1; omega), HB.out, BV.out⟩
            · have hge : ¬ (k : Int) < (N2 : Int) := by omega
              clear HRTr BV
              have HBY3 := hide (HBY.out.later HB.out)
              go_wp2_with fail
              refine (DrawSeenOn_any ao n c _ hn6 hnc HBY3.out).mono ?_
              rintro e w36 ⟨v3, z3, x3, y3, rfl, hl3, ho, hb⟩
              have HB := hide (bl_step HB.out hb)
              obtain ⟨N3, hN3⟩ : ∃ N3, N3 = z3.length := ⟨_, rfl⟩
              rw [← hN3] at ho hl3
              obtain ⟨s3, c3, rfl, hc3, _, hrd⟩ := own_rd encPg_len ho hN3.symm
              have HZX := hide hN3.symm
              have HRX := hide hrd
              have bX : N3 ≤ 1048576 := by omega
              clear ho hrd hN3
              
              clear hb
              obtain ⟨P3, hP3⟩ : ∃ P3, P3 = (seenV z3 x3 y3).length := ⟨_, rfl⟩
              have b3 : P3 ≤ 1048576 := by rw [hP3]; exact Nat.le_trans seen_len (by rw [HZX.out]; exact bX)
              have HP3 := hide hP3
              obtain ⟨bs, hbs⟩ : ∃ bs, okSeen z3 x3 y3 = bs := ⟨_, rfl⟩
              have HBS := hide hbs
              clear hP3 hbs
              go_wp2_with fail
              refine (SeenOn_any _ N3 c3 z3 x3 y3 _ HZX.out bX HRX.out).mono ?_
              rintro e w37 ⟨vs, rfl, ho, hb⟩
              have HRX := hide (rd_step HRX.out hb)
              have HB := hide (bl_step HB.out hb)
              rw [HBS.out]
              rw [← HP3.out] at ho
              obtain ⟨so3, sc3, rfl, hsc3, _, hrd⟩ := own_rd encI_len ho HP3.out.symm
              have HOP := hide ho
              have HRP := hide hrd
              clear ho hrd
              clear hb
              go_wp2_with fail
              refine (sSeenOnC_any _ N3 c3 z3 x3 y3 hc3 _ HZX.out bX HRX.out).mono ?_
              rintro e w38 ⟨vt, rfl, ho, hb⟩
              have HRX := hide (rd_step HRX.out hb)
              have HRP := hide (rd_step HRP.out hb)
              have HOP := hide (own_step HOP.out hb)
              have HB := hide (bl_step HB.out hb)
              rw [HBS.out]
              rw [← HP3.out] at ho
              obtain ⟨so4, sc4, rfl, hsc4, _, hrd⟩ := own_rd encI_len ho HP3.out.symm
              have HOW := hide ho
              have HRW := hide hrd
              clear ho hrd
              clear hb
              have HBY4 := hide (HBY.out.later HB.out)
              go_wp2_with fail
              refine (DrawPageAt_any ao n c _ hn6 hnc HBY4.out).mono ?_
              rintro e w39 ⟨v4, z4, x4, y4, rfl, hl4, ho, hb⟩
              have HOP := hide (own_step HOP.out hb)
              have HOW := hide (own_step HOW.out hb)
              have HB := hide (bl_step HB.out hb)
              obtain ⟨N4, hN4⟩ : ∃ N4, N4 = z4.length := ⟨_, rfl⟩
              rw [← hN4] at ho hl4
              obtain ⟨s4, c4, rfl, hc4, _, hrd⟩ := own_rd encPg_len ho hN4.symm
              have HZY := hide hN4.symm
              have HRY := hide hrd
              have bY : N4 ≤ 1048576 := by omega
              clear ho hrd hN4
              
              clear hb
              obtain ⟨bp, hbp⟩ : ∃ bp, pOk z4 x4 y4 = bp := ⟨_, rfl⟩
              have HBP := hide hbp
              obtain ⟨pv, hpv⟩ : ∃ pv, pageV z4 x4 y4 = pv := ⟨_, rfl⟩
              have HPV := hide hpv
              clear hbp hpv
              go_wp2_with fail
              refine (PageAt_any _ N4 c4 z4 x4 y4 _ HZY.out bY HRY.out).mono ?_
              rintro e w40 ⟨rfl, hb⟩
              have HRY := hide (rd_step HRY.out hb)
              have HOP := hide (own_step HOP.out hb)
              have HOW := hide (own_step HOW.out hb)
              have HB := hide (bl_step HB.out hb)
              rw [HBP.out, HPV.out]
              clear hb
              go_wp2_with fail
              refine (sPageAtC_any _ N4 c4 z4 x4 y4 hc4 _ HZY.out bY HRY.out).mono ?_
              rintro e w41 ⟨rfl, hb⟩
              have HRY := hide (rd_step HRY.out hb)
              have HOP := hide (own_step HOP.out hb)
              have HOW := hide (own_step HOW.out hb)
              have HB := hide (bl_step HB.out hb)
              rw [HBP.out, HPV.out]
              clear hb
              go_wp2_with fail
              refine (rInts_own _ _ P3 (seenV z3 x3 y3) _ HOP.out HOW.out HP3.out.symm b3).mono ?_
              rintro e w42 ⟨rfl, hb⟩
              have HRY := hide (rd_step HRY.out hb)
              have HOP := hide (own_step HOP.out hb)
              have HOW := hide (own_step HOW.out hb)
              have HB := hide (bl_step HB.out hb)
              clear hb
              go_wp2
              go_ret
              exact ⟨rfl, HB.out⟩

end Go.Proofs.Ytdgalehipgdhiaa
