/- ExtendRight: the program. -/
import Derived.Test.YtpghdjehagamlaaRB
namespace Go.Proofs.Ytpghdjehagamlaa
open Go.RowKit
set_option linter.unusedVariables false
set_option linter.unusedSimpArgs false

set_option maxRecDepth 100000 in
set_option maxHeartbeats 1000000 in
theorem ExtendRight_any (ro : Addr) (m d : Nat) (rz : List Rt) (ao : Option Addr) (n c : Nat) (zs : List Cp) (s y : Int) (w : World) (hrz : rz.length = m) (hm : m ≤ 1048576) (hrr : Rd encRt 4 w.heap.size w (some ro) rz) (hz : zs.length = n) (hn : n ≤ 1048576) (hr : Rd encCp 4 w.heap.size w ao zs) :
    Calls Try.prog 45 #[.slice (some ro) m d, .slice ao n c, .int .i64 s, .int .i64 y] w fun e w' => ∃ v, e = .returned (.tuple #[v, .bool (okExt rz zs s y)]) ∧ w'.ownsRow w.heap.size 72 4 v (extV rz zs s y).length ((extV rz zs s y).flatMap encRt) ∧ Below w.heap.size w w' := by
  have HZ := hide hz
  have HR := hide hr
  have HRZ := hide hrz
  have HRR := hide hrr
  clear hz hr hrz hrr
  have HL := hide (rightOf_any (some ro) m d rz s w HRZ.out hm HRR.out)
  have HN : Hid (okExt rz zs s y = false → extV rz zs s y = []) := hide (fun h => by unfold extV; rw [h]; rfl)
  have hinf := infoRt
  obtain ⟨i0, hi, hz0, hz1, hz2⟩ := info_parts hinf
  clear hinf
  have HI0 := hide (And.intro hi (And.intro hz0 (And.intro hz1 hz2)))
  clear hi hz0 hz1 hz2
  rcases rt_cases rz s with hi | ⟨k, r, hk, hx, hi⟩
  · have HO : Hid (okExt rz zs s y = false) := hide (by unfold okExt; rw [hi]; simp)
    have HC := hide (HN.out HO.out)
    have HI := hide hi
    clear hi
    cases h1 : lawful rz zs
    all_goals
      go_enter Try.func45, Try.ntmps45
      go_wp2_with fail
      refine HL.out.mono ?_
      rintro e w1 ⟨rfl, hb⟩
      rw [show idxB (isS s) rz = rtI rz s from rfl, HI.out]
      have HB := hide hb
      clear hb
      go_wp2_with fail
      refine (AreLawful_any (some ro) m d rz ao n c zs _ HRZ.out hm (rd_step HRR.out HB.out) HZ.out hn (rd_step HR.out HB.out)).mono ?_
      rintro e w2 ⟨rfl, hb⟩
      rw [h1]
      have HB2 := hide (bl_step HB.out hb)
      clear hb
      go_wp2
      go_ret2
      exact ⟨_, ret_vb HO.out.symm, by rw [HC.out]; exact World.ownsRow_nil _ _ _ _, HB2.out⟩
  · have hkn : (k : Int) < (m : Int) := by have := HRZ.out; omega
    have hk0 : ¬ (k : Int) < 0 := by omega
    have hkz : (0 : Int) ≤ (k : Int) := by omega
    have HI := hide hi
    have HX := hide hx
    clear hi hx
    cases h1 : lawful rz zs with
    | false =>
      have HO : Hid (okExt rz zs s y = false) := hide (by simp [okExt, h1])
      have HC := hide (HN.out HO.out)
      go_enter Try.func45, Try.ntmps45
      go_wp2_with fail
      refine HL.out.mono ?_
      rintro e w1 ⟨rfl, hb⟩
      rw [show idxB (isS s) rz = rtI rz s from rfl, HI.out]
      have HB := hide hb
      clear hb
      go_wp2_with fail
      refine (AreLawful_any (some ro) m d rz ao n c zs _ HRZ.out hm (rd_step HRR.out HB.out) HZ.out hn (rd_step HR.out HB.out)).mono ?_
      rintro e w2 ⟨rfl, hb⟩
      rw [h1]
      have HB2 := hide (bl_step HB.out hb)
      clear hb
      go_wp2
      go_ret2
      exact ⟨_, ret_vb HO.out.symm, by rw [HC.out]; exact World.ownsRow_nil _ _ _ _, HB2.out⟩
    | true =>
      have HH1 := hide h1
      have h10 := lawful_10 h1
      rw [HRZ.out] at h10
      clear h1
      obtain ⟨b, off, he, hb1, hat⟩ := rdRt HRR.out (by rw [HRZ.out]; omega)
      cases he
      obtain ⟨r', hr', hrc⟩ := hat k (by rw [HRZ.out]; omega)
      obtain rfl : r' = r := by rw [HX.out] at hr'; injection hr' with hr'; exact hr'.symm
      have HXC := hide hrc
      clear hr' hrc hat
      by_cases h4 : r'.e < y
      · have h5 : ¬ y ≤ r'.e := by omega
        have HE := hide (ext_at (s := s) HI.out HX.out HH1.out h4)
        go_enter Try.func45, Try.ntmps45
        go_wp2_with fail
        refine HL.out.mono ?_
        rintro e w1 ⟨rfl, hb⟩
        rw [show idxB (isS s) rz = rtI rz s from rfl, HI.out]
        have HB := hide hb
        clear hb
        go_wp2_with fail
        refine (AreLawful_any (some ⟨b, off, none⟩) m d rz ao n c zs _ HRZ.out hm (rd_step HRR.out HB.out) HZ.out hn (rd_step HR.out HB.out)).mono ?_
        rintro e w2 ⟨rfl, hb⟩
        rw [HH1.out]
        have HB2 := hide (bl_step HB.out hb)
        clear hb
        obtain ⟨hbr, c0, c1, c2, c3⟩ := HXC.out _ HB2.out
        go_wp2_with fail
        refine (CloneRight_any ⟨b, off, none⟩ m d rz _ HRZ.out hm (rd_step HRR.out HB2.out)).mono ?_
        rintro e w3 ⟨v, rfl, ho, hb⟩
        have HB3 := hide (bl_step HB2.out hb)
        have ho2 := own_baseX ho HB2.out.size
        clear ho hb c0 c1 c2 c3 hbr
        rcases own_form encRt_len ho2 HRZ.out with ⟨_, hn0, _⟩ | ⟨g, cap, cs, rfl, hg, hBk, hcs, hnc, hcm, ht⟩
        · omega
        have HWR := hide (own_set1 encRt_len hBk hg hcs hnc hcm HRZ.out ht k 1 r' (extX r' y) (.int .i64 y) HX.out rfl (by omega))
        have f4 : w3.cell? ⟨g, k * 4 + 1, none⟩ = some (cs[k * 4 + 1]'(by rw [hcs]; omega)) := by rw [hBk.cell]; exact Array.getElem?_eq_getElem _
        have g4 : w3.frozen? ⟨g, k * 4 + 1, none⟩ = false := hBk.frozen _
        have HG := hide hg
        clear ho2 ht hg
        go_wp2_with fail
        obtain ⟨w4, hw4⟩ : ∃ w4, w4 = w3.setCell ⟨g, k * 4 + 1, none⟩ (.int .i64 y) := ⟨_, rfl⟩
        have HB4 : Hid (Below w.heap.size w w4) := hide (by rw [hw4]; exact HB3.out.setCell HG.out _)
        have HO4 : Hid (w4.ownsRow w.heap.size 72 4 (.slice (some ⟨g, 0, none⟩) m cap) m ((rz.set k (extX r' y)).flatMap encRt)) := hide (by rw [hw4]; exact HWR.out)
        have HLEN : Hid ((rz.set k (extX r' y)).length = m) := hide (by rw [List.length_set]; exact HRZ.out)
        rw [← hw4]
        clear hw4 HWR f4 g4 hBk hcs
        have HRD := hide (own_rd' encRt_len HO4.out HLEN.out)
        refine (AreLawful_any (some ⟨g, 0, none⟩) m cap (rz.set k (extX r' y)) ao n c zs _ HLEN.out hm HRD.out HZ.out hn (rd_at0 HR.out HB4.out)).mono ?_
        rintro e w5 ⟨rfl, hb⟩
        have HB5 := hide (bl_step HB4.out hb)
        have HO5 := hide (own_step HO4.out hb)
        clear hb
        rw [← HE.out]
        cases hq : okExt rz zs s y with
        | false =>
          have HC := hide (HN.out hq)
          go_wp2
          go_ret2
          exact ⟨_, ret_vb hq.symm, by rw [HC.out]; exact World.ownsRow_nil _ _ _ _, HB5.out⟩
        | true =>
          have HC : Hid (extV rz zs s y = rz.set k (extX r' y)) := hide (by unfold extV; rw [hq, extL_at HI.out HX.out]; rfl)
          go_wp2
          go_ret2
          exact ⟨_, ret_vb hq.symm, by rw [HC.out, HLEN.out]; exact HO5.out, HB5.out⟩
      · have h5 : y ≤ r'.e := by omega
        have HO : Hid (okExt rz zs s y = false) := hide (ext_no HI.out HX.out h4)
        have HC := hide (HN.out HO.out)
        go_enter Try.func45, Try.ntmps45
        go_wp2_with fail
        refine HL.out.mono ?_
        rintro e w1 ⟨rfl, hb⟩
        rw [show idxB (isS s) rz = rtI rz s from rfl, HI.out]
        have HB := hide hb
        clear hb
        go_wp2_with fail
        refine (AreLawful_any (some ⟨b, off, none⟩) m d rz ao n c zs _ HRZ.out hm (rd_step HRR.out HB.out) HZ.out hn (rd_step HR.out HB.out)).mono ?_
        rintro e w2 ⟨rfl, hb⟩
        rw [HH1.out]
        have HB2 := hide (bl_step HB.out hb)
        clear hb
        obtain ⟨hbr, c0, c1, c2, c3⟩ := HXC.out _ HB2.out
        go_wp2
        go_ret2
        exact ⟨_, ret_vb HO.out.symm, by rw [HC.out]; exact World.ownsRow_nil _ _ _ _, HB2.out⟩

end Go.Proofs.Ytpghdjehagamlaa
