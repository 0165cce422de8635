/- FewestCovers, CheapestCovers: the program. -/
import Derived.Test.YtpdfbijfklmonaaM23
import Derived.Test.YtpdfbijfklmonaaM21b
namespace Go.Proofs.Ytpdfbijfklmonaa
open Go.RowKit
set_option linter.unusedVariables false
set_option linter.unusedSimpArgs false

set_option maxRecDepth 100000 in
set_option maxHeartbeats 1000000 in
theorem FewestCovers_any (a b : Int) (ao : Option Addr) (n c : Nat) (zs : List Cv) (w : World) (hz : zs.length = n) (hn : n ≤ 1048576) (hr : Rd encCv 6 w.heap.size w ao zs) :
    Calls Try.prog 34 #[.int .i64 a, .int .i64 b, .slice ao n c] w fun e w' => ∃ v, e = .returned (.tuple #[v, .bool (okFew a b zs)]) ∧ w'.ownsRow w.heap.size 3 1 v (fewV a b zs).length ((fewV a b zs).flatMap encI) ∧ Below w.heap.size w w' := by
  have HZ := hide hz
  have HR := hide hr
  clear hz hr
  cases h1 : wallB a b zs with
  | false =>
    have HOK : Hid (okFew a b zs = false) := hide (by unfold okFew; rw [h1]; rfl)
    have HC : Hid (fewV a b zs = []) := hide (by unfold fewV; rw [HOK.out]; rfl)
    have H1 := hide h1
    clear h1
    go_enter Try.func34, Try.ntmps34
    go_wp2_with fail
    refine (isWall_any _ _ _ n c zs _ HZ.out hn HR.out).mono ?_
    rintro e w1 ⟨rfl, hb⟩
    have HB1 := hide hb
    have HR1 := hide (rd_step HR.out hb)
    clear hb
    rw [H1.out]
    go_wp2
    go_ret2
    exact ⟨_, ret_vb' HOK.out.symm, by rw [HC.out]; exact World.ownsRow_nil _ _ _ _, HB1.out⟩
  | true =>
    have hw2 := h1
    unfold wallB at hw2; simp only [Bool.and_eq_true] at hw2
    have b1 := inB_iff.1 hw2.1.1
    have b2 := inB_iff.1 hw2.1.2
    have HCV := hide hw2.2
    have HG := hide (good_of hw2.2)
    have h10 : n ≤ 10 := by have := covers_10 hw2.2; rw [HZ.out] at this; exact this
    have H1 := hide h1
    clear h1 hw2
    obtain ⟨wd, rfl⟩ : ∃ k : Nat, a = k := ⟨a.toNat, by omega⟩
    obtain ⟨hg, rfl⟩ : ∃ k : Nat, b = k := ⟨b.toNat, by omega⟩
    have eg : ∀ args w, (callFunc 69 args).run Try.prog w = .ok (.enter 69 args) w := enters_at Try.func69 (by kernel_rfl) rfl
    have HBM := hide (fun (W : World) (hr : Rd encCv 6 W.heap.size W ao zs) => bestMosaic_any false 69 eg wd hg (by omega) (by omega) ao n c zs W HZ.out h10 hr HG.out (fun W ao n c zs bo m d cs hz hn hr hc hm hrc g1 g2 => by rw [ltK_f]; exact isFewer_any ao n c zs bo m d cs W hz hn hr hc hm hrc))
    clear eg
    obtain ⟨bl, hbl⟩ : ∃ bl, bl = bestL false wd hg zs (2 ^ n) := ⟨_, rfl⟩
    have HGB : goodAll bl := by rw [hbl]; exact bestL_good HG.out
    have hlb : bl.length ≤ 10 := by rw [hbl]; exact Nat.le_trans bestL_len (by rw [HZ.out]; exact h10)
    obtain ⟨L, hL⟩ : ∃ L, L = bl.length := ⟨_, rfl⟩
    have hL10 : L ≤ 10 := by rw [hL]; exact hlb
    have HBL := hide hL.symm
    have HLB : Hid (bestL false wd hg zs (2 ^ n) = bl) := hide hbl.symm
    have HLLL : Hid ((bestL false wd hg zs (2 ^ n)).length = L) := hide (by rw [← hbl, hL])
    have HPP := hide (good_p HGB)
    by_cases h0 : cntX zs hg wd = 0
    · have HOK : Hid (okFew wd hg zs = true) := hide (by unfold okFew; rw [H1.out]; simp [h0])
      have h9 : zs.length ≤ 10 := by rw [HZ.out]; exact h10
      obtain ⟨b, hb1, hb2, hb3, hb4⟩ := best_same (pr := false) (wd := wd) (hg := hg) h9 h0
      rw [HZ.out] at hb1 hb3 hb4
      have e1 : bl = b := by rw [hbl]; unfold bestL; rw [hb1]; rfl
      have HBF : Hid (bestF false wd hg zs (2 ^ n) = true) := hide (by unfold bestF; rw [hb1]; rfl)
      have HC : Hid (fewV wd hg zs = bl.map Cv.i) := hide (by unfold fewV; rw [HOK.out, HZ.out, e1]; exact hb3.symm)
      have HLC : Hid ((bl.map Cv.i).length = L) := hide (by rw [List.length_map, HBL.out])
      clear hb1 hb2 hb3 hb4 e1 h0 hbl hL HGB
      go_enter Try.func34, Try.ntmps34
      go_wp2_with fail
      refine (isWall_any _ _ _ n c zs _ HZ.out hn HR.out).mono ?_
      rintro e w1 ⟨rfl, hb⟩
      have HB1 := hide hb
      have HR1 := hide (rd_step HR.out hb)
      clear hb
      rw [H1.out]
      go_wp2_with fail
      refine (HBM.out w1 HR1.out).mono ?_
      rintro e w2 ⟨v, rfl, ho, hb⟩
      have HB2 := hide (bl_step HB1.out hb)
      have hs1 := HB1.out.size
      rw [HLB.out, HBL.out] at ho
      obtain ⟨ap, cp, rfl, _, _, hrp⟩ := own_rd encCv_len ho HBL.out
      have HRP := hide hrp
      clear hb ho hrp
      rw [HBF.out]
      go_wp2_with fail
      refine (coverIds_any ap L cp bl _ HBL.out (by omega) HRP.out).mono ?_
      rintro e w3 ⟨v3, rfl, ho, hb⟩
      have HB3 := hide (bl_step HB2.out hb)
      have HO3 := hide (own_base ho (HB2.out.size))
      have HRP := hide (rd_step HRP.out hb)
      clear hb ho
      go_wp2
      go_ret2
      exact ⟨_, ret_vb' HOK.out.symm, by rw [HC.out, HLC.out]; exact HO3.out, HB3.out⟩
    · have HOK : Hid (okFew wd hg zs = false) := hide (by unfold okFew; rw [H1.out]; simp [h0])
      have hb1 := best_none (pr := false) (wd := wd) (hg := hg) (zs := zs) h0
      rw [HZ.out] at hb1
      have e1 : bl = [] := by rw [hbl]; unfold bestL; rw [hb1]; rfl
      have HBF : Hid (bestF false wd hg zs (2 ^ n) = false) := hide (by unfold bestF; rw [hb1]; rfl)
      have HC : Hid (fewV wd hg zs = bl.map Cv.i) := hide (by unfold fewV; rw [HOK.out, e1]; rfl)
      have HLC : Hid ((bl.map Cv.i).length = L) := hide (by rw [List.length_map, HBL.out])
      clear hb1 e1 h0 hbl hL HGB
      go_enter Try.func34, Try.ntmps34
      go_wp2_with fail
      refine (isWall_any _ _ _ n c zs _ HZ.out hn HR.out).mono ?_
      rintro e w1 ⟨rfl, hb⟩
      have HB1 := hide hb
      have HR1 := hide (rd_step HR.out hb)
      clear hb
      rw [H1.out]
      go_wp2_with fail
      refine (HBM.out w1 HR1.out).mono ?_
      rintro e w2 ⟨v, rfl, ho, hb⟩
      have HB2 := hide (bl_step HB1.out hb)
      have hs1 := HB1.out.size
      rw [HLB.out, HBL.out] at ho
      obtain ⟨ap, cp, rfl, _, _, hrp⟩ := own_rd encCv_len ho HBL.out
      have HRP := hide hrp
      clear hb ho hrp
      rw [HBF.out]
      go_wp2_with fail
      refine (coverIds_any ap L cp bl _ HBL.out (by omega) HRP.out).mono ?_
      rintro e w3 ⟨v3, rfl, ho, hb⟩
      have HB3 := hide (bl_step HB2.out hb)
      have HO3 := hide (own_base ho (HB2.out.size))
      have HRP := hide (rd_step HRP.out hb)
      clear hb ho
      go_wp2
      go_ret2
      exact ⟨_, ret_vb' HOK.out.symm, by rw [HC.out, HLC.out]; exact HO3.out, HB3.out⟩

set_option maxRecDepth 100000 in
set_option maxHeartbeats 1000000 in
theorem CheapestCovers_any (a b : Int) (ao : Option Addr) (n c : Nat) (zs : List Cv) (w : World) (hz : zs.length = n) (hn : n ≤ 1048576) (hr : Rd encCv 6 w.heap.size w ao zs) :
    Calls Try.prog 36 #[.int .i64 a, .int .i64 b, .slice ao n c] w fun e w' => ∃ v, e = .returned (.tuple #[v, .int .i64 (cheP a b zs), .bool (okFew a b zs)]) ∧ w'.ownsRow w.heap.size 3 1 v (cheV a b zs).length ((cheV a b zs).flatMap encI) ∧ Below w.heap.size w w' := by
  have HZ := hide hz
  have HR := hide hr
  clear hz hr
  cases h1 : wallB a b zs with
  | false =>
    have HOK : Hid (okFew a b zs = false) := hide (by unfold okFew; rw [h1]; rfl)
    have HC : Hid (cheV a b zs = []) := hide (by unfold cheV; rw [HOK.out]; rfl)
    have H1 := hide h1
    clear h1
    go_enter Try.func36, Try.ntmps36
    go_wp2_with fail
    refine (isWall_any _ _ _ n c zs _ HZ.out hn HR.out).mono ?_
    rintro e w1 ⟨rfl, hb⟩
    have HB1 := hide hb
    have HR1 := hide (rd_step HR.out hb)
    clear hb
    rw [H1.out]
    go_wp2
    go_ret3
    exact ⟨_, ret_vib' (by unfold cheP; rw [HOK.out]; rfl) HOK.out.symm, by rw [HC.out]; exact World.ownsRow_nil _ _ _ _, HB1.out⟩
  | true =>
    have hw2 := h1
    unfold wallB at hw2; simp only [Bool.and_eq_true] at hw2
    have b1 := inB_iff.1 hw2.1.1
    have b2 := inB_iff.1 hw2.1.2
    have HCV := hide hw2.2
    have HG := hide (good_of hw2.2)
    have h10 : n ≤ 10 := by have := covers_10 hw2.2; rw [HZ.out] at this; exact this
    have H1 := hide h1
    clear h1 hw2
    obtain ⟨wd, rfl⟩ : ∃ k : Nat, a = k := ⟨a.toNat, by omega⟩
    obtain ⟨hg, rfl⟩ : ∃ k : Nat, b = k := ⟨b.toNat, by omega⟩
    have eg : ∀ args w, (callFunc 71 args).run Try.prog w = .ok (.enter 71 args) w := enters_at Try.func71 (by kernel_rfl) rfl
    have HBM := hide (fun (W : World) (hr : Rd encCv 6 W.heap.size W ao zs) => bestMosaic_any true 71 eg wd hg (by omega) (by omega) ao n c zs W HZ.out h10 hr HG.out (fun W ao n c zs bo m d cs hz hn hr hc hm hrc g1 g2 => cheaper_any ao n c zs bo m d cs W hz hn hr hc hm hrc g1 g2))
    clear eg
    obtain ⟨bl, hbl⟩ : ∃ bl, bl = bestL true wd hg zs (2 ^ n) := ⟨_, rfl⟩
    have HGB : goodAll bl := by rw [hbl]; exact bestL_good HG.out
    have hlb : bl.length ≤ 10 := by rw [hbl]; exact Nat.le_trans bestL_len (by rw [HZ.out]; exact h10)
    obtain ⟨L, hL⟩ : ∃ L, L = bl.length := ⟨_, rfl⟩
    have hL10 : L ≤ 10 := by rw [hL]; exact hlb
    have HBL := hide hL.symm
    have HLB : Hid (bestL true wd hg zs (2 ^ n) = bl) := hide hbl.symm
    have HLLL : Hid ((bestL true wd hg zs (2 ^ n)).length = L) := hide (by rw [← hbl, hL])
    have HPP := hide (good_p HGB)
    by_cases h0 : cntX zs hg wd = 0
    · have HOK : Hid (okFew wd hg zs = true) := hide (by unfold okFew; rw [H1.out]; simp [h0])
      have h9 : zs.length ≤ 10 := by rw [HZ.out]; exact h10
      obtain ⟨b, hb1, hb2, hb3, hb4⟩ := best_same (pr := true) (wd := wd) (hg := hg) h9 h0
      rw [HZ.out] at hb1 hb3 hb4
      have e1 : bl = b := by rw [hbl]; unfold bestL; rw [hb1]; rfl
      have HBF : Hid (bestF true wd hg zs (2 ^ n) = true) := hide (by unfold bestF; rw [hb1]; rfl)
      have HC : Hid (cheV wd hg zs = bl.map Cv.i) := hide (by unfold cheV; rw [HOK.out, HZ.out, e1]; exact hb3.symm)
      have HSP : Hid (sumP bl = cheP wd hg zs) := hide (by unfold cheP; rw [HOK.out, HZ.out, e1]; exact hb4 rfl)
      have HLC : Hid ((bl.map Cv.i).length = L) := hide (by rw [List.length_map, HBL.out])
      clear hb1 hb2 hb3 hb4 e1 h0 hbl hL HGB
      go_enter Try.func36, Try.ntmps36
      go_wp2_with fail
      refine (isWall_any _ _ _ n c zs _ HZ.out hn HR.out).mono ?_
      rintro e w1 ⟨rfl, hb⟩
      have HB1 := hide hb
      have HR1 := hide (rd_step HR.out hb)
      clear hb
      rw [H1.out]
      go_wp2_with fail
      refine (HBM.out w1 HR1.out).mono ?_
      rintro e w2 ⟨v, rfl, ho, hb⟩
      have HB2 := hide (bl_step HB1.out hb)
      have hs1 := HB1.out.size
      rw [HLB.out, HBL.out] at ho
      obtain ⟨ap, cp, rfl, _, _, hrp⟩ := own_rd encCv_len ho HBL.out
      have HRP := hide hrp
      clear hb ho hrp
      rw [HBF.out]
      go_wp2_with fail
      refine (coverIds_any ap L cp bl _ HBL.out (by omega) HRP.out).mono ?_
      rintro e w3 ⟨v3, rfl, ho, hb⟩
      have HB3 := hide (bl_step HB2.out hb)
      have HO3 := hide (own_base ho (HB2.out.size))
      have HRP := hide (rd_step HRP.out hb)
      clear hb ho
      go_wp2_with fail
      refine (price_any ap L cp bl _ HBL.out hL10 HRP.out HPP.out).mono ?_
      rintro e w4 ⟨rfl, hb⟩
      have HB3 := hide (bl_step HB3.out hb)
      have HO3 := hide (own_step HO3.out hb)
      clear hb
      rw [HSP.out]
      go_wp2
      go_ret3
      exact ⟨_, ret_vib' (rfl) HOK.out.symm, by rw [HC.out, HLC.out]; exact HO3.out, HB3.out⟩
    · have HOK : Hid (okFew wd hg zs = false) := hide (by unfold okFew; rw [H1.out]; simp [h0])
      have hb1 := best_none (pr := true) (wd := wd) (hg := hg) (zs := zs) h0
      rw [HZ.out] at hb1
      have e1 : bl = [] := by rw [hbl]; unfold bestL; rw [hb1]; rfl
      have HBF : Hid (bestF true wd hg zs (2 ^ n) = false) := hide (by unfold bestF; rw [hb1]; rfl)
      have HC : Hid (cheV wd hg zs = bl.map Cv.i) := hide (by unfold cheV; rw [HOK.out, e1]; rfl)
      have HSP : Hid (sumP bl = cheP wd hg zs) := hide (by unfold cheP; rw [HOK.out, e1]; rfl)
      have HLC : Hid ((bl.map Cv.i).length = L) := hide (by rw [List.length_map, HBL.out])
      clear hb1 e1 h0 hbl hL HGB
      go_enter Try.func36, Try.ntmps36
      go_wp2_with fail
      refine (isWall_any _ _ _ n c zs _ HZ.out hn HR.out).mono ?_
      rintro e w1 ⟨rfl, hb⟩
      have HB1 := hide hb
      have HR1 := hide (rd_step HR.out hb)
      clear hb
      rw [H1.out]
      go_wp2_with fail
      refine (HBM.out w1 HR1.out).mono ?_
      rintro e w2 ⟨v, rfl, ho, hb⟩
      have HB2 := hide (bl_step HB1.out hb)
      have hs1 := HB1.out.size
      rw [HLB.out, HBL.out] at ho
      obtain ⟨ap, cp, rfl, _, _, hrp⟩ := own_rd encCv_len ho HBL.out
      have HRP := hide hrp
      clear hb ho hrp
      rw [HBF.out]
      go_wp2_with fail
      refine (coverIds_any ap L cp bl _ HBL.out (by omega) HRP.out).mono ?_
      rintro e w3 ⟨v3, rfl, ho, hb⟩
      have HB3 := hide (bl_step HB2.out hb)
      have HO3 := hide (own_base ho (HB2.out.size))
      have HRP := hide (rd_step HRP.out hb)
      clear hb ho
      go_wp2_with fail
      refine (price_any ap L cp bl _ HBL.out hL10 HRP.out HPP.out).mono ?_
      rintro e w4 ⟨rfl, hb⟩
      have HB3 := hide (bl_step HB3.out hb)
      have HO3 := hide (own_step HO3.out hb)
      clear hb
      rw [HSP.out]
      go_wp2
      go_ret3
      exact ⟨_, ret_vib' (rfl) HOK.out.symm, by rw [HC.out, HLC.out]; exact HO3.out, HB3.out⟩

end Go.Proofs.Ytpdfbijfklmonaa
