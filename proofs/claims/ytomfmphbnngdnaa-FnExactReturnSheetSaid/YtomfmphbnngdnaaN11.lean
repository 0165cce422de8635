/- ReturnSheet: the program. -/
import Derived.Test.YtomfmphbnngdnaaN10
import Derived.Test.YtomfmphbnngdnaaN7
import Derived.Test.YtomfmphbnngdnaaN2
namespace Go.Proofs.Ytomfmphbnngdnaa
open Go.RowKit
set_option linter.unusedVariables false
set_option linter.unusedSimpArgs false

theorem ret_vib {u : Value} {a b : Int} {c d : Bool} (h1 : a = b) (h2 : c = d) : Ending.returned (.tuple #[u, .int .i64 a, .bool c]) = .returned (.tuple #[u, .int .i64 b, .bool d]) := by rw [h1, h2]
set_option maxRecDepth 100000 in
set_option maxHeartbeats 1000000 in
theorem ReturnSheet_any (ao : Addr) (n : Nat) (zs : List Ln) (s d : Int) (w : World) (hz : zs.length = n) (hn : n ≤ 1048576) (hr : Rd encLn 5 w.heap.size w (some ao) zs) :
    Calls Try.prog 24 #[.slice (some ao) n n, .int .i64 s, .int .i64 d] w fun e w' => ∃ v, e = .returned (.tuple #[v, .int .i64 (retF zs s d), .bool (okRet zs s d)]) ∧ w'.ownsRow w.heap.size 48 5 v (retV zs s d).length ((retV zs s d).flatMap encLn) ∧ Below w.heap.size w w' := by
  have HZ := hide hz
  have HR := hide hr
  have HL := hide (lentAt_any (some ao) n n zs s w hz hn hr)
  have HN : Hid (okRet zs s d = false → retV zs s d = []) := hide (fun h => by unfold retV; rw [h]; rfl)
  clear hz hr
  rcases lent_cases zs s with hi | ⟨k, x, hk, hx, hxb, hi⟩
  · have HO : Hid (okRet zs s d = false) := hide (by unfold okRet; rw [hi]; simp)
    have HC := hide (HN.out HO.out)
    have HI := hide hi
    clear hi
    cases h1 : loansB zs
    all_goals
      go_enter Try.func24, Try.ntmps24
      go_wp2_with fail
      refine HL.out.mono ?_
      rintro e w1 ⟨rfl, hb⟩
      rw [HI.out]
      have HB := hide hb
      clear hb
      go_wp2_with fail
      refine (AreLoans_any (some ao) n n zs (Nat.le_refl _) _ HZ.out hn (rd_step HR.out HB.out)).mono ?_
      rintro e w2 ⟨rfl, hb⟩
      rw [h1]
      have HB2 := hide (bl_step HB.out hb)
      clear hb
      go_wp2_with (first | (go_at_call 38; refine (isId_any _ _).mono ?_; rintro e w' ⟨rfl, rfl⟩) | (go_at_call 39; refine (isDay_any _ _).mono ?_; rintro e w' ⟨rfl, rfl⟩) | (go_at_call 43; refine (within_any _ _ _ _).mono ?_; rintro e w' ⟨rfl, rfl⟩))
      go_ret3
      exact ⟨_, ret_vib (by unfold retF; rw [HO.out]; rfl) HO.out.symm, by rw [HC.out]; exact World.ownsRow_nil _ _ _ _, HB2.out⟩
  · have hkn : (k : Int) < (n : Int) := by have := HZ.out; omega
    have hk0 : ¬ (k : Int) < 0 := by omega
    have HI := hide hi
    have HX := hide hx
    clear hi hx
    rcases first2 (loansB zs) (inB d 0 4000) with h1 | ⟨h1, h2⟩ | ⟨h1, h2⟩
    iterate 2
      · have HO : Hid (okRet zs s d = false) := hide (by simp [okRet, *])
        have HC := hide (HN.out HO.out)
        have HH1 := hide h1
        clear h1
        go_enter Try.func24, Try.ntmps24
        go_wp2_with fail
        refine HL.out.mono ?_
        rintro e w1 ⟨rfl, hb⟩
        rw [HI.out]
        have HB := hide hb
        clear hb
        go_wp2_with fail
        refine (AreLoans_any (some ao) n n zs (Nat.le_refl _) _ HZ.out hn (rd_step HR.out HB.out)).mono ?_
        rintro e w2 ⟨rfl, hb⟩
        rw [HH1.out]
        have HB2 := hide (bl_step HB.out hb)
        clear hb
        go_wp2_with (first | (go_at_call 38; refine (isId_any _ _).mono ?_; rintro e w' ⟨rfl, rfl⟩) | (go_at_call 39; refine (isDay_any _ _).mono ?_; rintro e w' ⟨rfl, rfl⟩) | (go_at_call 43; refine (within_any _ _ _ _).mono ?_; rintro e w' ⟨rfl, rfl⟩))
        go_ret3
        exact ⟨_, ret_vib (by unfold retF; rw [HO.out]; rfl) HO.out.symm, by rw [HC.out]; exact World.ownsRow_nil _ _ _ _, HB2.out⟩
    · have h15 := loans_15 h1
      rw [HZ.out] at h15
      have HH1 := hide h1
      have HH2 := hide h2
      have bd := inB_iff.1 h2
      have bx := (okLn_bd (loans_at h1 HX.out)).2.2.2.1
      clear h1
      go_enter Try.func24, Try.ntmps24
      go_wp2_with fail
      refine HL.out.mono ?_
      rintro e w1 ⟨rfl, hb⟩
      rw [HI.out]
      have HB := hide hb
      clear hb HL
      go_wp2_with fail
      refine (AreLoans_any (some ao) n n zs (Nat.le_refl _) _ HZ.out hn (rd_step HR.out HB.out)).mono ?_
      rintro e w2 ⟨rfl, hb⟩
      rw [HH1.out]
      have HB2 := hide (bl_step HB.out hb)
      clear hb
      go_wp2_with (first | (go_at_call 38; refine (isId_any _ _).mono ?_; rintro e w' ⟨rfl, rfl⟩) | (go_at_call 39; refine (isDay_any _ _).mono ?_; rintro e w' ⟨rfl, rfl⟩) | (go_at_call 43; refine (within_any _ _ _ _).mono ?_; rintro e w' ⟨rfl, rfl⟩))
      refine (CloneLoan_any ao n n zs _ HZ.out hn (rd_step HR.out HB2.out)).mono ?_
      rintro e w3 ⟨v, rfl, ho, hb⟩
      have HB3 := hide (bl_step HB2.out hb)
      have ho2 := own_base ho HB2.out.size
      clear ho hb
      rcases own_form encLn_len ho2 HZ.out with ⟨_, hn0, _⟩ | ⟨g, cap, cs, rfl, hg, hBk, hcs, hnc, hcm, ht⟩
      · omega
      have HWR := hide (own_set1 encLn_len hBk hg hcs hnc hcm HZ.out ht k 4 x (backX x d) (.int .i64 d) HX.out rfl (by omega))
      have f4 : w3.cell? ⟨g, k * 5 + 4, none⟩ = some (cs[k * 5 + 4]'(by rw [hcs]; omega)) := by rw [hBk.cell]; exact Array.getElem?_eq_getElem _
      have g4 : w3.frozen? ⟨g, k * 5 + 4, none⟩ = false := hBk.frozen _
      have HG := hide hg
      clear ho2 ht hg
      go_wp2_with fail
      obtain ⟨w4, hw4⟩ : ∃ w4, w4 = w3.setCell ⟨g, k * 5 + 4, none⟩ (.int .i64 d) := ⟨_, rfl⟩
      have HB4 : Hid (Below w.heap.size w w4) := hide (by rw [hw4]; exact HB3.out.setCell HG.out _)
      have HO4 : Hid (w4.ownsRow w.heap.size 48 5 (.slice (some ⟨g, 0, none⟩) n cap) n ((zs.set k (backX x d)).flatMap encLn)) := hide (by rw [hw4]; exact HWR.out)
      have HLEN : Hid ((zs.set k (backX x d)).length = n) := hide (by rw [List.length_set]; exact HZ.out)
      rw [← hw4]
      clear hw4 HWR f4 g4 hBk hcs
      have HRD := hide (own_rd' encLn_len HO4.out HLEN.out)
      refine (AreLoans_any (some ⟨g, 0, none⟩) n cap (zs.set k (backX x d)) hnc _ HLEN.out hn HRD.out).mono ?_
      rintro e w5 ⟨rfl, hb⟩
      have HB5 := hide (bl_step HB4.out hb)
      have HO5 := hide (own_step HO4.out hb)
      have HRD5 := hide (rd_step HRD.out hb)
      clear hb
      have HRL := hide (retL_at (d := d) HI.out HX.out)
      cases hq : loansB (zs.set k (backX x d)) with
      | false =>
        have HO : Hid (okRet zs s d = false) := hide (by unfold okRet; rw [HRL.out, hq]; simp)
        have HC := hide (HN.out HO.out)
        clear hq
        go_wp2
        go_ret3
        exact ⟨_, ret_vib (by unfold retF; rw [HO.out]; rfl) HO.out.symm, by rw [HC.out]; exact World.ownsRow_nil _ _ _ _, HB5.out⟩
      | true =>
        have HO : Hid (okRet zs s d = true) := hide (by unfold okRet; rw [HRL.out, hq, HH1.out, HH2.out, HI.out]; simp)
        have HC : Hid (retV zs s d = zs.set k (backX x d)) := hide (by unfold retV; rw [HO.out, HRL.out]; rfl)
        clear hq
        obtain ⟨b', off', he, hb1, hat⟩ := rdLn HRD5.out (by rw [HLEN.out]; omega)
        cases he
        obtain ⟨y, hy, hyc⟩ := hat k (by rw [HLEN.out]; omega)
        obtain rfl : y = backX x d := by rw [List.getElem?_set_self hk] at hy; injection hy with hy; exact hy.symm
        obtain ⟨hbr, c0, c1, c2, c3, c4⟩ := hyc w5 (Below.refl _ _)
        simp only [Nat.zero_add, backX] at c0 c1 c2 c3 c4
        clear hy hyc hat
        go_wp2_with fail
        refine (fine_any _ _ _ x.d d _ bd bx).mono ?_
        rintro e w6 ⟨rfl, hb⟩
        have HB6 := hide (bl_step HB5.out hb)
        have HO6 := hide (own_step HO5.out hb)
        clear hb
        go_wp2
        go_ret3
        exact ⟨_, ret_vib (fineV_at HI.out HX.out HO.out).symm HO.out.symm, by rw [HC.out, HLEN.out]; exact HO6.out, HB6.out⟩

end Go.Proofs.Ytomfmphbnngdnaa
