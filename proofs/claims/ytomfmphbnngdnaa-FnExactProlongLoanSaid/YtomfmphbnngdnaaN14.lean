/- ProlongLoan: the program. -/
import Derived.Test.YtomfmphbnngdnaaN13
import Derived.Test.YtomfmphbnngdnaaN7
import Derived.Test.YtomfmphbnngdnaaN2
namespace Go.Proofs.Ytomfmphbnngdnaa
open Go.RowKit
set_option linter.unusedVariables false
set_option linter.unusedSimpArgs false

set_option maxRecDepth 100000 in
set_option maxHeartbeats 1000000 in
theorem ProlongLoan_any (ao : Addr) (n : Nat) (zs : List Ln) (s d m : Int) (w : World) (hz : zs.length = n) (hn : n ≤ 1048576) (hr : Rd encLn 5 w.heap.size w (some ao) zs) :
    Calls Try.prog 22 #[.slice (some ao) n n, .int .i64 s, .int .i64 d, .int .i64 m] w fun e w' => ∃ v, e = .returned (.tuple #[v, .bool (okPro zs s d m)]) ∧ w'.ownsRow w.heap.size 48 5 v (proV zs s d m).length ((proV zs s d m).flatMap encLn) ∧ Below w.heap.size w w' := by
  have HZ := hide hz
  have HR := hide hr
  have HL := hide (lentAt_any (some ao) n n zs s w hz hn hr)
  have HN : Hid (okPro zs s d m = false → proV zs s d m = []) := hide (fun h => by unfold proV; rw [h]; rfl)
  clear hz hr
  rcases lent_cases zs s with hi | ⟨k, x, hk, hx, hxb, hi⟩
  · have HO : Hid (okPro zs s d m = false) := hide (by unfold okPro; rw [hi]; simp)
    have HC := hide (HN.out HO.out)
    have HI := hide hi
    clear hi
    cases h1 : loansB zs
    all_goals
      go_enter Try.func22, Try.ntmps22
      go_wp2_with fail
      refine HL.out.mono ?_
      rintro e w1 ⟨rfl, hb⟩
      rw [HI.out]
      have HB := hide hb
      clear hb
      go_wp2_with fail
      refine (AreLoans_any (some ao) n n zs (Nat.le_refl _) _ HZ.out hn (rd_step HR.out HB.out)).mono ?_
      rintro e w2 ⟨rfl, hb⟩
      rw [h1]
      have HB2 := hide (bl_step HB.out hb)
      clear hb
      go_wp2_with (first | (go_at_call 38; refine (isId_any _ _).mono ?_; rintro e w' ⟨rfl, rfl⟩) | (go_at_call 39; refine (isDay_any _ _).mono ?_; rintro e w' ⟨rfl, rfl⟩) | (go_at_call 43; refine (within_any _ _ _ _).mono ?_; rintro e w' ⟨rfl, rfl⟩))
      go_ret2
      exact ⟨_, ret_vb HO.out.symm, by rw [HC.out]; exact World.ownsRow_nil _ _ _ _, HB2.out⟩
  · have hkn : (k : Int) < (n : Int) := by have := HZ.out; omega
    have hk0 : ¬ (k : Int) < 0 := by omega
    have hkz : (0 : Int) ≤ (k : Int) := by omega
    have HI := hide hi
    have HX := hide hx
    have HXB := hide hxb
    clear hi hx hxb
    rcases first3 (loansB zs) (inB d 0 4000) (inB m 1 60) with h1 | ⟨h1, h2⟩ | ⟨h1, h2, h3⟩ | ⟨h1, h2, h3⟩
    iterate 3
      · have HO : Hid (okPro zs s d m = false) := hide (by simp [okPro, *])
        have HC := hide (HN.out HO.out)
        have HH1 := hide h1
        clear h1
        go_enter Try.func22, Try.ntmps22
        go_wp2_with fail
        refine HL.out.mono ?_
        rintro e w1 ⟨rfl, hb⟩
        rw [HI.out]
        have HB := hide hb
        clear hb
        go_wp2_with fail
        refine (AreLoans_any (some ao) n n zs (Nat.le_refl _) _ HZ.out hn (rd_step HR.out HB.out)).mono ?_
        rintro e w2 ⟨rfl, hb⟩
        rw [HH1.out]
        have HB2 := hide (bl_step HB.out hb)
        clear hb
        go_wp2_with (first | (go_at_call 38; refine (isId_any _ _).mono ?_; rintro e w' ⟨rfl, rfl⟩) | (go_at_call 39; refine (isDay_any _ _).mono ?_; rintro e w' ⟨rfl, rfl⟩) | (go_at_call 43; refine (within_any _ _ _ _).mono ?_; rintro e w' ⟨rfl, rfl⟩))
        go_ret2
        exact ⟨_, ret_vb HO.out.symm, by rw [HC.out]; exact World.ownsRow_nil _ _ _ _, HB2.out⟩
    · have h15 := loans_15 h1
      rw [HZ.out] at h15
      have HH1 := hide h1
      have HH2 := hide h2
      have HH3 := hide h3
      have bd := inB_iff.1 h2
      have bm := inB_iff.1 h3
      have bx := okLn_bd (loans_at h1 HX.out)
      clear h1
      obtain ⟨b, off, he, hb1, hat⟩ := rdLn HR.out (by rw [HZ.out]; omega)
      cases he
      obtain ⟨x', hx', hxc⟩ := hat k (by rw [HZ.out]; omega)
      obtain rfl : x' = x := by rw [HX.out] at hx'; injection hx' with hx'; exact hx'.symm
      have HXC := hide hxc
      clear hx' hxc hat
      have H3 : (x'.o ≤ d ∧ x'.d < d) ∨ (d < x'.o) ∨ (x'.o ≤ d ∧ ¬ x'.d < d) := by omega
      rcases H3 with ⟨h4, h5⟩ | h4 | ⟨h4, h5⟩
      · have HLT := hide (show lateB x' d = true from (by unfold lateB openB; simp [HXB.out, h4, h5]))
        have HO : Hid (okPro zs s d m = false) := hide (pro_fit HI.out HX.out (by unfold fitB; simp; omega))
        have HC := hide (HN.out HO.out)
        go_enter Try.func22, Try.ntmps22
        go_wp2_with fail
        refine HL.out.mono ?_
        rintro e w1 ⟨rfl, hb⟩
        rw [HI.out]
        have HB := hide hb
        clear hb
        go_wp2_with fail
        refine (AreLoans_any (some ⟨b, off, none⟩) n n zs (Nat.le_refl _) _ HZ.out hn (rd_step HR.out HB.out)).mono ?_
        rintro e w2 ⟨rfl, hb⟩
        rw [HH1.out]
        have HB2 := hide (bl_step HB.out hb)
        clear hb
        obtain ⟨hbr, c0, c1, c2, c3, c4⟩ := HXC.out _ HB2.out
        go_wp2_with (first | (go_at_call 38; refine (isId_any _ _).mono ?_; rintro e w' ⟨rfl, rfl⟩) | (go_at_call 39; refine (isDay_any _ _).mono ?_; rintro e w' ⟨rfl, rfl⟩) | (go_at_call 43; refine (within_any _ _ _ _).mono ?_; rintro e w' ⟨rfl, rfl⟩))
        refine (isLate_any x' d _).mono ?_
        rintro e w3 ⟨rfl, hb⟩
        rw [HLT.out]
        have HB3 := hide (bl_step HB2.out hb)
        clear hb c0 c1 c2 c3 c4 hbr
        obtain ⟨hbr, c0, c1, c2, c3, c4⟩ := HXC.out _ HB3.out
        go_wp2
        go_ret2
        exact ⟨_, ret_vb HO.out.symm, by rw [HC.out]; exact World.ownsRow_nil _ _ _ _, HB3.out⟩
      · have HLT := hide (show lateB x' d = false from (by unfold lateB openB; simp; omega))
        have HO : Hid (okPro zs s d m = false) := hide (pro_fit HI.out HX.out (by unfold fitB; simp; omega))
        have HC := hide (HN.out HO.out)
        go_enter Try.func22, Try.ntmps22
        go_wp2_with fail
        refine HL.out.mono ?_
        rintro e w1 ⟨rfl, hb⟩
        rw [HI.out]
        have HB := hide hb
        clear hb
        go_wp2_with fail
        refine (AreLoans_any (some ⟨b, off, none⟩) n n zs (Nat.le_refl _) _ HZ.out hn (rd_step HR.out HB.out)).mono ?_
        rintro e w2 ⟨rfl, hb⟩
        rw [HH1.out]
        have HB2 := hide (bl_step HB.out hb)
        clear hb
        obtain ⟨hbr, c0, c1, c2, c3, c4⟩ := HXC.out _ HB2.out
        go_wp2_with (first | (go_at_call 38; refine (isId_any _ _).mono ?_; rintro e w' ⟨rfl, rfl⟩) | (go_at_call 39; refine (isDay_any _ _).mono ?_; rintro e w' ⟨rfl, rfl⟩) | (go_at_call 43; refine (within_any _ _ _ _).mono ?_; rintro e w' ⟨rfl, rfl⟩))
        refine (isLate_any x' d _).mono ?_
        rintro e w3 ⟨rfl, hb⟩
        rw [HLT.out]
        have HB3 := hide (bl_step HB2.out hb)
        clear hb c0 c1 c2 c3 c4 hbr
        obtain ⟨hbr, c0, c1, c2, c3, c4⟩ := HXC.out _ HB3.out
        go_wp2
        go_ret2
        exact ⟨_, ret_vb HO.out.symm, by rw [HC.out]; exact World.ownsRow_nil _ _ _ _, HB3.out⟩
      · have HLT := hide (show lateB x' d = false from (by unfold lateB; simp [h5]))
        have HF := hide (show fitB x' d = true from (by unfold fitB; simp; omega))
        have h6 : ¬ d < x'.o := by omega
        have k1 : IntKind.i64.wrap (x'.d + m) = x'.d + m := IntWalk.i64_in _ (by omega)
        go_enter Try.func22, Try.ntmps22
        go_wp2_with fail
        refine HL.out.mono ?_
        rintro e w1 ⟨rfl, hb⟩
        rw [HI.out]
        have HB := hide hb
        clear hb
        go_wp2_with fail
        refine (AreLoans_any (some ⟨b, off, none⟩) n n zs (Nat.le_refl _) _ HZ.out hn (rd_step HR.out HB.out)).mono ?_
        rintro e w2 ⟨rfl, hb⟩
        rw [HH1.out]
        have HB2 := hide (bl_step HB.out hb)
        clear hb
        obtain ⟨hbr, c0, c1, c2, c3, c4⟩ := HXC.out _ HB2.out
        go_wp2_with (first | (go_at_call 38; refine (isId_any _ _).mono ?_; rintro e w' ⟨rfl, rfl⟩) | (go_at_call 39; refine (isDay_any _ _).mono ?_; rintro e w' ⟨rfl, rfl⟩) | (go_at_call 43; refine (within_any _ _ _ _).mono ?_; rintro e w' ⟨rfl, rfl⟩))
        refine (isLate_any x' d _).mono ?_
        rintro e w3 ⟨rfl, hb⟩
        rw [HLT.out]
        have HB3 := hide (bl_step HB2.out hb)
        clear hb c0 c1 c2 c3 c4 hbr
        obtain ⟨hbr, c0, c1, c2, c3, c4⟩ := HXC.out _ HB3.out
        go_wp2_with fail
        refine (CloneLoan_any ⟨b, off, none⟩ n n zs _ HZ.out hn (rd_step HR.out HB3.out)).mono ?_
        rintro e w4 ⟨v, rfl, ho, hb⟩
        have HB4 := hide (bl_step HB3.out hb)
        have ho2 := own_base ho HB3.out.size
        clear ho hb c0 c1 c2 c3 c4 hbr
        rcases own_form encLn_len ho2 HZ.out with ⟨_, hn0, _⟩ | ⟨g, cap, cs, rfl, hg, hBk, hcs, hnc, hcm, ht⟩
        · omega
        have HWR := hide (own_set1 encLn_len hBk hg hcs hnc hcm HZ.out ht k 3 x' (proX x' m) (.int .i64 (x'.d + m)) HX.out rfl (by omega))
        have HRD0 := own_rd' encLn_len ho2 HZ.out
        obtain ⟨b', off', he, hb1', hat⟩ := rdLn HRD0 (by rw [HZ.out]; omega)
        cases he
        obtain ⟨y, hy, hyc⟩ := hat k (by rw [HZ.out]; omega)
        obtain rfl : y = x' := by rw [HX.out] at hy; injection hy with hy; exact hy.symm
        obtain ⟨hbr, c0, c1, c2, c3, c4⟩ := hyc w4 (Below.refl _ _)
        simp only [Nat.zero_add] at c0 c1 c2 c3 c4
        have g4 : w4.frozen? ⟨g, k * 5 + 3, none⟩ = false := hBk.frozen _
        have HG := hide hg
        clear ho2 ht hg hy hyc hat HRD0 c0 c1 c2 c4
        go_wp2_with fail
        obtain ⟨w5, hw5⟩ : ∃ w5, w5 = w4.setCell ⟨g, k * 5 + 3, none⟩ (.int .i64 (y.d + m)) := ⟨_, rfl⟩
        have HB5 : Hid (Below w.heap.size w w5) := hide (by rw [hw5]; exact HB4.out.setCell HG.out _)
        have HO5 : Hid (w5.ownsRow w.heap.size 48 5 (.slice (some ⟨g, 0, none⟩) n cap) n ((zs.set k (proX y m)).flatMap encLn)) := hide (by rw [hw5]; exact HWR.out)
        have HLEN : Hid ((zs.set k (proX y m)).length = n) := hide (by rw [List.length_set]; exact HZ.out)
        rw [← hw5]
        clear hw5 HWR c3 g4 hBk hcs hbr
        have HRD := hide (own_rd' encLn_len HO5.out HLEN.out)
        have HE := hide (pro_at HI.out HX.out HH1.out HH2.out HH3.out HF.out)
        refine (AreLoans_any (some ⟨g, 0, none⟩) n cap (zs.set k (proX y m)) hnc _ HLEN.out hn HRD.out).mono ?_
        rintro e w6 ⟨rfl, hb⟩
        have HB6 := hide (bl_step HB5.out hb)
        have HO6 := hide (own_step HO5.out hb)
        clear hb
        rw [← HE.out]
        cases hq : okPro zs s d m with
        | false =>
          have HC := hide (HN.out hq)
          go_wp2
          go_ret2
          exact ⟨_, ret_vb hq.symm, by rw [HC.out]; exact World.ownsRow_nil _ _ _ _, HB6.out⟩
        | true =>
          have HC : Hid (proV zs s d m = zs.set k (proX y m)) := hide (by unfold proV; rw [hq, proL_at HI.out HX.out]; rfl)
          go_wp2
          go_ret2
          exact ⟨_, ret_vb hq.symm, by rw [HC.out, HLEN.out]; exact HO6.out, HB6.out⟩

end Go.Proofs.Ytomfmphbnngdnaa
