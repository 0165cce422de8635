/- l12Best. -/
import Derived.Test.YtpdfbijfklmonaaM25
namespace Go.Proofs.Ytpdfbijfklmonaa
open Go.RowKit
set_option linter.unusedVariables false
set_option linter.unusedSimpArgs false

set_option maxRecDepth 100000 in
set_option maxHeartbeats 2000000 in
theorem l12Best_any (pr : Bool) (wd hg : Nat) (h1 : wd ≤ 10) (h2 : hg ≤ 10) (ao : Option Addr) (n c : Nat) (zs : List Cv) (w : World) (hz : zs.length = n) (hn : n ≤ 10) (hr : Rd encCv 6 w.heap.size w ao zs) (hc : coversB zs = true) :
    Calls Try.prog 67 #[.int .i64 wd, .int .i64 hg, .slice ao n c, .bool pr] w fun e w' => ∃ v, e = .returned (.tuple #[v, .int .i64 (sumP (bestS pr wd hg zs (2 ^ n)))]) ∧ w'.ownsRow w.heap.size 3 1 v (bestS pr wd hg zs (2 ^ n)).length (((bestS pr wd hg zs (2 ^ n)).map Cv.i).flatMap encI) ∧ Below w.heap.size w w' := by
  have HZ := hide hz
  have HR := hide hr
  have HCV := hide hc
  have HG := hide (good_of hc)
  clear hz hr hc
  obtain ⟨N, hN⟩ : ∃ N, N = 2 ^ n := ⟨_, rfl⟩
  have hN1 : N ≤ 1024 := by rw [hN]; exact Nat.pow_le_pow_right (by decide) hn
  have hN0 : 0 < N := by rw [hN]; exact Nat.two_pow_pos n
  have hsh : (2 : Int) ^ n = (N : Int) := by rw [hN]; exact (Int.natCast_pow 2 n).symm
  have hwr : IntKind.i64.wrap (N : Int) = (N : Int) := IntWalk.i64_in _ (by omega)
  have hwr2 : IntKind.i64.wrap ((N : Int) - 1) = (N : Int) - 1 := IntWalk.i64_in _ (by omega)
  have hN2 : (N : Int) - 1 = ((N - 1 : Nat) : Int) := by omega
  have HNN := hide hN
  have HN2 := hide hN2
  have HS0 : Hid (subs (N - 1) zs = bestS pr wd hg zs 0) := hide (by show _ = subs (2 ^ zs.length - 1) zs; rw [HZ.out, hN])
  rw [← hN]
  clear hN hN2
  go_enter Try.func67, Try.ntmps67
  go_wp2_with fail
  rw [HN2.out]
  refine (l12Ids_any ao n c zs (N - 1) _ HZ.out hn HR.out HG.out).mono ?_
  rintro e w1 ⟨v1, rfl, ho, hb⟩
  rw [HS0.out] at ho
  rw [HS0.out]
  have HB1 := hide hb
  have HO1 := hide ho
  clear hb ho
  go_wp2
  go_loopg [10, 11, 12, 13, 14, 15, 16, 17] N (fun gk bv lv i _ _ _ _ _ wr => ∃ s : Nat, s ≤ N ∧ N - s ≤ gk ∧ i = .int .i64 s ∧ lv = .int .i64 (sumP (bestS pr wd hg zs s)) ∧ Aside (wr.ownsRow w.heap.size 3 1 bv (bestS pr wd hg zs s).length (((bestS pr wd hg zs s).map Cv.i).flatMap encI)) ∧ Aside (Below w.heap.size w wr))
  case atStart => exact ⟨0, Nat.zero_le _, by omega, rfl, rfl, HO1.out, HB1.out⟩
  case round =>
    obtain ⟨s, hs, hgs, rfl, rfl, OW, BW⟩ := hrel
    by_cases hlt : s < N
    · have hlti : (s : Int) < (N : Int) := by omega
      obtain ⟨V, hV⟩ : ∃ V, V = wr := ⟨_, rfl⟩
      subst hV
      have hsv := BW.out.size
      obtain ⟨bs, hbs⟩ : ∃ bs, bs = bestS pr wd hg zs s := ⟨_, rfl⟩
      have hlb : bs.length ≤ 10 := by rw [hbs]; exact Nat.le_trans (bestS_len _ _ _ _ _) (by rw [HZ.out]; exact hn)
      obtain ⟨ps, hps⟩ : ∃ ps, ps = subs s zs := ⟨_, rfl⟩
      have hlp : ps.length ≤ 10 := by rw [hps]; exact Nat.le_trans (sel_len _ _ _) (by rw [HZ.out]; exact hn)
      rw [← hbs] at OW ⊢
      obtain ⟨M, hM⟩ : ∃ M, M = bs.length := ⟨_, rfl⟩
      obtain ⟨L, hL⟩ : ∃ L, L = ps.length := ⟨_, rfl⟩
      rw [← hM] at OW hlb
      rw [← hL] at hlp
      have HM : Hid ((bs.map Cv.i).length = M) := hide (by rw [List.length_map, hM])
      have HL : Hid ((ps.map Cv.i).length = L) := hide (by rw [List.length_map, hL])
      have HLL := hide hL.symm
      have HMM := hide hM.symm
      have HPI : Hid (picks zs (ps.map Cv.i) = ps) := hide (by rw [hps]; exact picks_subs HCV.out s)
      have HFR : Hid ((foundB zs (ps.map Cv.i) && risB (ps.map Cv.i)) = true) := hide (by rw [hps]; exact fr_subs HCV.out s)
      have HGP : Hid (goodAll ps) := hide (by rw [hps]; exact good_sub HG.out (subs_sub s zs))
      have HPS := hide hps
      have HBS := hide hbs
      have HYES : Hid (ltK pr (keyOf ps) (keyOf bs) = true → cntX ps hg wd = 0 → bestS pr wd hg zs (s + 1) = ps) := hide (fun h1 h2 => by rw [hps, hbs] at h1; rw [hps] at h2 ⊢; exact bs_yes h1 h2)
      have HNO : Hid (ltK pr (keyOf ps) (keyOf bs) = false → bestS pr wd hg zs (s + 1) = bs) := hide (fun h1 => by rw [hps, hbs] at h1; rw [hbs]; exact bs_no h1)
      have HNO2 : Hid (¬ cntX ps hg wd = 0 → bestS pr wd hg zs (s + 1) = bs) := hide (fun h1 => by rw [hps] at h1; rw [hbs]; exact bs_no2 h1)
      clear hM hL hps hbs
      obtain ⟨ab, cb, rfl, _, _, hrb⟩ := own_rd encI_len OW.out HM.out
      have HRB := hide hrb
      clear hrb
      go_wp2_with fail
      refine (l12Ids_any ao n c zs s _ HZ.out hn (rd_at0 HR.out BW.out) HG.out).mono ?_
      rintro e w2 ⟨v2, rfl, ho, hb⟩
      rw [← HPS.out, HLL.out] at ho
      rw [← HPS.out]
      have HB2 := hide (bl_step BW.out hb)
      have HOB := hide (own_step OW.out hb)
      have HRB := hide (rd_step HRB.out hb)
      obtain ⟨ap, cp, rfl, _, _, hrp⟩ := own_rd encI_len ho HL.out
      have HRP := hide hrp
      have HOP := hide (own_base ho hsv)
      clear hb ho hrp
      go_wp2_with fail
      refine (l12Before_any ap ab L M cp cb _ _ _ HL.out HM.out (by omega) (by omega) HRP.out HRB.out).mono ?_
      rintro e w3 ⟨rfl, hb⟩
      have HB3 := hide (bl_step HB2.out hb)
      have HOB := hide (own_step HOB.out hb)
      have HOP := hide (own_step HOP.out hb)
      have HRP := hide (rd_step HRP.out hb)
      clear hb
      obtain ⟨P, hP⟩ : ∃ P, P = sumP ps := ⟨_, rfl⟩
      obtain ⟨Q, hQ⟩ : ∃ Q, Q = sumP bs := ⟨_, rfl⟩
      have K1 : (keyOf ps).1 = P := hP.symm
      have K2 : (keyOf bs).1 = Q := hQ.symm
      rw [← hP, ← hQ]
      have HPP := hide hP
      have HQQ := hide hQ
      clear hP hQ
      obtain ⟨bf, hbf⟩ : ∃ bf, bf = befB (ps.map Cv.i) (bs.map Cv.i) := ⟨_, rfl⟩
      rw [← hbf]
      have HBF := hide hbf
      clear hbf
      cases pr with
      | false =>
        cases hl : bf with
        | true =>
          have HL1 : Hid (ltK false (keyOf ps) (keyOf bs) = true) := hide (by rw [ltK_f, keyOf2, keyOf2, ← HBF.out, hl])
          clear hl
          go_wp2_with fail
          refine (l12Some_any ao n c zs ap L cp (ps.map Cv.i) _ HZ.out (by omega) (rd_at0 HR.out HB3.out) HL.out (by omega) HRP.out).mono ?_
          rintro e w4 ⟨v4, rfl, ho, hb⟩
          have ho2 := ho HFR.out
          rw [HPI.out] at ho2
          rw [HFR.out]
          have HB4 := hide (bl_step HB3.out hb)
          have HOB := hide (own_step HOB.out hb)
          have HOP := hide (own_step HOP.out hb)
          obtain ⟨ac, cc, rfl, _, _, hrc⟩ := own_rd encCv_len ho2 HLL.out
          have HRC := hide hrc
          clear hb ho ho2 hrc
          go_wp2_with fail
          refine (l12Bare_any wd hg h1 h2 ac L cc ps _ HLL.out (by omega) HRC.out).mono ?_
          rintro e w5 ⟨rfl, hb⟩
          have HB5 := hide (bl_step HB4.out hb)
          have HOB := hide (own_step HOB.out hb)
          have HOP := hide (own_step HOP.out hb)
          clear hb
          obtain ⟨X, hX⟩ : ∃ X, X = cntX ps hg wd := ⟨_, rfl⟩
          rw [← hX]
          by_cases hx0 : X = 0
          · have HU := hide (HYES.out HL1.out (by rw [← hX]; exact hx0))
            subst hx0
            clear hX
            go_wp2
            go_roundg (N - (s + 1))
            case measure => omega
            case rel => exact ⟨s + 1, by omega, by omega, by go_num, by rw [HU.out, ← HPP.out], by rw [HU.out, HLL.out]; exact HOP.out, HB5.out⟩
          · have HU := hide (HNO2.out (by rw [← hX]; exact hx0))
            have hd1 : decide (X = 0) = false := by simp [hx0]
            have hd2 : (X == 0) = false := by simp [hx0]
            clear hX
            go_wp2
            go_roundg (N - (s + 1))
            case measure => omega
            case rel => exact ⟨s + 1, by omega, by omega, by go_num, by rw [HU.out, ← HQQ.out], by rw [HU.out, HMM.out]; exact HOB.out, HB5.out⟩
        | false =>
          have HL1 : Hid (ltK false (keyOf ps) (keyOf bs) = false) := hide (by rw [ltK_f, keyOf2, keyOf2, ← HBF.out, hl])
          clear hl
          go_wp2
          go_roundg (N - (s + 1))
          case measure => omega
          case rel => exact ⟨s + 1, by omega, by omega, by go_num, by rw [HNO.out HL1.out, ← HQQ.out], by rw [HNO.out HL1.out, HMM.out]; exact HOB.out, HB3.out⟩
      | true =>
        rcases Int.lt_trichotomy P Q with h | h | h
        · have HL1 : Hid (ltK true (keyOf ps) (keyOf bs) = true) := hide (ltT_lt (by rw [K1, K2]; exact h))
          clear K1 K2
          go_wp2_with fail
          refine (l12Some_any ao n c zs ap L cp (ps.map Cv.i) _ HZ.out (by omega) (rd_at0 HR.out HB3.out) HL.out (by omega) HRP.out).mono ?_
          rintro e w4 ⟨v4, rfl, ho, hb⟩
          have ho2 := ho HFR.out
          rw [HPI.out] at ho2
          rw [HFR.out]
          have HB4 := hide (bl_step HB3.out hb)
          have HOB := hide (own_step HOB.out hb)
          have HOP := hide (own_step HOP.out hb)
          obtain ⟨ac, cc, rfl, _, _, hrc⟩ := own_rd encCv_len ho2 HLL.out
          have HRC := hide hrc
          clear hb ho ho2 hrc
          go_wp2_with fail
          refine (l12Bare_any wd hg h1 h2 ac L cc ps _ HLL.out (by omega) HRC.out).mono ?_
          rintro e w5 ⟨rfl, hb⟩
          have HB5 := hide (bl_step HB4.out hb)
          have HOB := hide (own_step HOB.out hb)
          have HOP := hide (own_step HOP.out hb)
          clear hb
          obtain ⟨X, hX⟩ : ∃ X, X = cntX ps hg wd := ⟨_, rfl⟩
          rw [← hX]
          by_cases hx0 : X = 0
          · have HU := hide (HYES.out HL1.out (by rw [← hX]; exact hx0))
            subst hx0
            clear hX
            go_wp2
            go_roundg (N - (s + 1))
            case measure => omega
            case rel => exact ⟨s + 1, by omega, by omega, by go_num, by rw [HU.out, ← HPP.out], by rw [HU.out, HLL.out]; exact HOP.out, HB5.out⟩
          · have HU := hide (HNO2.out (by rw [← hX]; exact hx0))
            have hd1 : decide (X = 0) = false := by simp [hx0]
            have hd2 : (X == 0) = false := by simp [hx0]
            clear hX
            go_wp2
            go_roundg (N - (s + 1))
            case measure => omega
            case rel => exact ⟨s + 1, by omega, by omega, by go_num, by rw [HU.out, ← HQQ.out], by rw [HU.out, HMM.out]; exact HOB.out, HB5.out⟩
        · have HLE : Hid (ltK true (keyOf ps) (keyOf bs) = bf) := hide (by rw [ltT_eq (by rw [K1, K2, h]), keyOf2, keyOf2, ← HBF.out])
          have HQE := hide h
          clear K1 K2
          subst h
          have hq : ¬ P < P := by omega
          cases hl : bf with
          | true =>
            have HL1 : Hid (ltK true (keyOf ps) (keyOf bs) = true) := hide (by rw [HLE.out, hl])
            clear hl
            go_wp2_with fail
            refine (l12Some_any ao n c zs ap L cp (ps.map Cv.i) _ HZ.out (by omega) (rd_at0 HR.out HB3.out) HL.out (by omega) HRP.out).mono ?_
            rintro e w4 ⟨v4, rfl, ho, hb⟩
            have ho2 := ho HFR.out
            rw [HPI.out] at ho2
            rw [HFR.out]
            have HB4 := hide (bl_step HB3.out hb)
            have HOB := hide (own_step HOB.out hb)
            have HOP := hide (own_step HOP.out hb)
            obtain ⟨ac, cc, rfl, _, _, hrc⟩ := own_rd encCv_len ho2 HLL.out
            have HRC := hide hrc
            clear hb ho ho2 hrc
            go_wp2_with fail
            refine (l12Bare_any wd hg h1 h2 ac L cc ps _ HLL.out (by omega) HRC.out).mono ?_
            rintro e w5 ⟨rfl, hb⟩
            have HB5 := hide (bl_step HB4.out hb)
            have HOB := hide (own_step HOB.out hb)
            have HOP := hide (own_step HOP.out hb)
            clear hb
            obtain ⟨X, hX⟩ : ∃ X, X = cntX ps hg wd := ⟨_, rfl⟩
            rw [← hX]
            by_cases hx0 : X = 0
            · have HU := hide (HYES.out HL1.out (by rw [← hX]; exact hx0))
              subst hx0
              clear hX
              go_wp2
              go_roundg (N - (s + 1))
              case measure => omega
              case rel => exact ⟨s + 1, by omega, by omega, by go_num, by rw [HU.out, ← HPP.out], by rw [HU.out, HLL.out]; exact HOP.out, HB5.out⟩
            · have HU := hide (HNO2.out (by rw [← hX]; exact hx0))
              have hd1 : decide (X = 0) = false := by simp [hx0]
              have hd2 : (X == 0) = false := by simp [hx0]
              clear hX
              go_wp2
              go_roundg (N - (s + 1))
              case measure => omega
              case rel => exact ⟨s + 1, by omega, by omega, by go_num, by rw [HU.out, ← HQQ.out], by rw [HU.out, HMM.out]; exact HOB.out, HB5.out⟩
          | false =>
            have HL1 : Hid (ltK true (keyOf ps) (keyOf bs) = false) := hide (by rw [HLE.out, hl])
            clear hl
            go_wp2
            go_roundg (N - (s + 1))
            case measure => omega
            case rel => exact ⟨s + 1, by omega, by omega, by go_num, by rw [HNO.out HL1.out, ← HQQ.out], by rw [HNO.out HL1.out, HMM.out]; exact HOB.out, HB3.out⟩
        · have HL1 : Hid (ltK true (keyOf ps) (keyOf bs) = false) := hide (ltT_gt (by rw [K1, K2]; exact h))
          clear K1 K2
          have hq4 : decide (P < Q) = false := by simp; omega
          have hq2 : decide (P = Q) = false := by simp; omega
          have hq3 : (P == Q) = false := by simp; omega
          clear h
          go_wp2
          go_roundg (N - (s + 1))
          case measure => omega
          case rel => exact ⟨s + 1, by omega, by omega, by go_num, by rw [HNO.out HL1.out, ← HQQ.out], by rw [HNO.out HL1.out, HMM.out]; exact HOB.out, HB3.out⟩
    · have hge : ¬ (s : Int) < (N : Int) := by omega
      obtain rfl : s = N := by omega
      go_wp2
      go_ret2
      exact ⟨_, rfl, OW.out, BW.out⟩

end Go.Proofs.Ytpdfbijfklmonaa
