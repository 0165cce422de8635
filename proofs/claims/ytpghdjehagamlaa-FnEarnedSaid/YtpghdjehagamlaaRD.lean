/- ExtendRight: the reference. -/
import Derived.Test.YtpghdjehagamlaaRB
namespace Go.Proofs.Ytpghdjehagamlaa
open Go.RowKit
set_option linter.unusedVariables false
set_option linter.unusedSimpArgs false

set_option maxRecDepth 100000 in
set_option maxHeartbeats 1000000 in
theorem sExtendRight_any (ro : Addr) (m d : Nat) (rz : List Rt) (ao : Option Addr) (n c : Nat) (zs : List Cp) (s y : Int) (w : World) (hrz : rz.length = m) (hm : m ≤ 1048576) (hrr : Rd encRt 4 w.heap.size w (some ro) rz) (hz : zs.length = n) (hn : n ≤ 1048576) (hr : Rd encCp 4 w.heap.size w ao zs) :
    Calls Try.prog 46 #[.slice (some ro) m d, .slice ao n c, .int .i64 s, .int .i64 y] w fun e w' => ∃ v, e = .returned (.tuple #[v, .bool (okExt rz zs s y)]) ∧ w'.ownsRow w.heap.size 72 4 v (extV rz zs s y).length ((extV rz zs s y).flatMap encRt) ∧ Below w.heap.size w w' := by
  have HZ := hide hz
  have HR := hide hr
  have HRZ := hide hrz
  have HRR := hide hrr
  clear hz hr hrz hrr
  have HL := hide (l14Find_any (some ro) m d rz s w HRZ.out hm HRR.out)
  have HN : Hid (okExt rz zs s y = false → extV rz zs s y = []) := hide (fun h => by unfold extV; rw [h]; rfl)
  have hinf := infoRt
  obtain ⟨i0, hi, hz0, hz1, hz2⟩ := info_parts hinf
  clear hinf
  have HI0 := hide (And.intro hi (And.intro hz0 (And.intro hz1 hz2)))
  clear hi hz0 hz1 hz2
  rcases rt_cases rz s with hi | ⟨k, r, hk, hx, hi⟩
  · have HO : Hid (okExt rz zs s y = false) := hide (by unfold okExt; rw [hi]; simp)
    have HC := hide (HN.out HO.out)
    have HI := hide hi
    clear hi
    cases h1 : lawful rz zs
    all_goals
      go_enter Try.func46, Try.ntmps46
      go_wp2_with fail
      refine HL.out.mono ?_
      rintro e w1 ⟨rfl, rfl⟩
      rw [show idxB (isS s) rz = rtI rz s from rfl, HI.out]
      go_wp2_with fail
      refine (l14Good0_any (some ro) m d rz ao n c zs w HRZ.out hm HRR.out HZ.out hn HR.out).mono ?_
      rintro e w2 ⟨rfl, hb⟩
      rw [h1]
      have HB2 := hide hb
      clear hb
      go_wp2_with (go_at_call 73; refine (l2Day_any _ _).mono ?_; rintro e w' ⟨rfl, rfl⟩)
      go_ret2
      exact ⟨_, ret_vb HO.out.symm, by rw [HC.out]; exact World.ownsRow_made _ #[] 0 HB2.out.size (by simp [maxLen]) rfl, HB2.out.alloc HB2.out.size _⟩
  · have hkn : (k : Int) < (m : Int) := by have := HRZ.out; omega
    have hk0 : ¬ (k : Int) < 0 := by omega
    have hkz : (0 : Int) ≤ (k : Int) := by omega
    have HI := hide hi
    have HX := hide hx
    clear hi hx
    cases h1 : lawful rz zs with
    | false =>
      have HO : Hid (okExt rz zs s y = false) := hide (by simp [okExt, h1])
      have HC := hide (HN.out HO.out)
      go_enter Try.func46, Try.ntmps46
      go_wp2_with fail
      refine HL.out.mono ?_
      rintro e w1 ⟨rfl, rfl⟩
      rw [show idxB (isS s) rz = rtI rz s from rfl, HI.out]
      go_wp2_with fail
      refine (l14Good0_any (some ro) m d rz ao n c zs w HRZ.out hm HRR.out HZ.out hn HR.out).mono ?_
      rintro e w2 ⟨rfl, hb⟩
      rw [h1]
      have HB2 := hide hb
      clear hb
      go_wp2_with (go_at_call 73; refine (l2Day_any _ _).mono ?_; rintro e w' ⟨rfl, rfl⟩)
      go_ret2
      exact ⟨_, ret_vb HO.out.symm, by rw [HC.out]; exact World.ownsRow_made _ #[] 0 HB2.out.size (by simp [maxLen]) rfl, HB2.out.alloc HB2.out.size _⟩
    | true =>
      have HH1 := hide h1
      have h10 := lawful_10 h1
      rw [HRZ.out] at h10
      clear h1
      obtain ⟨b, off, he, hb1, hat⟩ := rdRt HRR.out (by rw [HRZ.out]; omega)
      cases he
      obtain ⟨r', hr', hrc⟩ := hat k (by rw [HRZ.out]; omega)
      obtain rfl : r' = r := by rw [HX.out] at hr'; injection hr' with hr'; exact hr'.symm
      have HXC := hide hrc
      clear hr' hrc hat
      cases h2 : inB y 0 4000 with
      | false =>
        have HO : Hid (okExt rz zs s y = false) := hide (ext_day h2)
        have HC := hide (HN.out HO.out)
        go_enter Try.func46, Try.ntmps46
        go_wp2_with fail
        refine HL.out.mono ?_
        rintro e w1 ⟨rfl, rfl⟩
        rw [show idxB (isS s) rz = rtI rz s from rfl, HI.out]
        go_wp2_with fail
        refine (l14Good0_any (some ⟨b, off, none⟩) m d rz ao n c zs w HRZ.out hm HRR.out HZ.out hn HR.out).mono ?_
        rintro e w2 ⟨rfl, hb⟩
        rw [HH1.out]
        have HB2 := hide hb
        clear hb
        go_wp2_with (go_at_call 73; refine (l2Day_any _ _).mono ?_; rintro e w' ⟨rfl, rfl⟩)
        go_ret2
        exact ⟨_, ret_vb HO.out.symm, by rw [HC.out]; exact World.ownsRow_made _ #[] 0 HB2.out.size (by simp [maxLen]) rfl, HB2.out.alloc HB2.out.size _⟩
      | true =>
        by_cases h4 : r'.e < y
        · have h5 : ¬ y ≤ r'.e := by omega
          have HE := hide (ext_at (s := s) HI.out HX.out HH1.out h4)
          go_enter Try.func46, Try.ntmps46
          go_wp2_with fail
          refine HL.out.mono ?_
          rintro e w1 ⟨rfl, rfl⟩
          rw [show idxB (isS s) rz = rtI rz s from rfl, HI.out]
          go_wp2_with fail
          refine (l14Good0_any (some ⟨b, off, none⟩) m d rz ao n c zs w HRZ.out hm HRR.out HZ.out hn HR.out).mono ?_
          rintro e w2 ⟨rfl, hb⟩
          rw [HH1.out]
          have HB2 := hide hb
          clear hb
          obtain ⟨hbr, c0, c1, c2, c3⟩ := HXC.out _ HB2.out
          obtain ⟨V, hV⟩ : ∃ V, V = w2.alloc (.cells #[] 72) := ⟨_, rfl⟩
          have HBV : Hid (Below w.heap.size w V) := hide (by rw [hV]; exact HB2.out.alloc HB2.out.size _)
          have HEV : Hid (V.ownsRow w.heap.size 72 4 (.slice (some ⟨w2.heap.size, 0, none⟩) 0 0) 0 []) := hide (by rw [hV]; exact World.ownsRow_made w2 #[] 0 HB2.out.size (by simp [maxLen]) rfl)
          have HFL := hide (rd_flat encRt_len (rd_step HRR.out HBV.out))
          have hVs : w.heap.size ≤ V.heap.size := HBV.out.size
          have HV := hide hV
          clear hV
          obtain ⟨hi, hz0, hz1, hz2⟩ := HI0.out
          go_wp2_with (first | (at_builtin; rw [← HV.out]; refine wpList_append_own _ rfl _ _ 31 rfl w.heap.size 72 i0 (.agg #[.int .i64 0, .int .i64 0, .int .i64 0, .int .i64 0]) 4 32 Try.underlying31 hi hz0 hz1 hz2 rfl (by decide) _ 0 [] rfl HEV.out ⟨b, off, none⟩ m d (rz.flatMap encRt) rfl ?c0 ?c1 ?c2 ?c3 ?c4 ?c5 ?_) | (go_at_call 73; refine (l2Day_any _ _).mono ?_; rintro e w' ⟨rfl, rfl⟩))
          case c0 => rw [flat_len encRt_len, HRZ.out]
          case c1 => exact HFL.out
          case c2 => exact flat_one encRt_one rz
          case c3 => unfold maxLen; omega
          case c4 => omega
          case c5 => exact hVs
          intro v w3 hown' hgrow _
          have HB3 := hide (bl_grown HBV.out HEV.out (Nat.le_refl _) hgrow)
          have ho2 : w3.ownsRow w.heap.size 72 4 v m (rz.flatMap encRt) := by first | exact hown' | (rw [Nat.zero_add, List.nil_append] at hown'; exact hown')
          clear hown' hgrow c0 c1 c2 c3 hbr
          rcases own_form encRt_len ho2 HRZ.out with ⟨_, hn0, _⟩ | ⟨g, cap, cs, rfl, hg, hBk, hcs, hnc, hcm, ht⟩
          · omega
          have HRD0 := own_rd' encRt_len ho2 HRZ.out
          obtain ⟨b', off', he, hb1', hat⟩ := rdRt HRD0 (by rw [HRZ.out]; omega)
          cases he
          obtain ⟨q, hq, hqc⟩ := hat k (by rw [HRZ.out]; omega)
          obtain rfl : q = r' := by rw [HX.out] at hq; injection hq with hq; exact hq.symm
          obtain ⟨hbr, c0, c1, c2, c3⟩ := hqc w3 (Below.refl _ _)
          simp only [Nat.zero_add] at c0 c1 c2 c3
          have f0 : w3.frozen? ⟨g, k * 4, none⟩ = false := hBk.frozen _
          have f1 : w3.frozen? ⟨g, k * 4 + 1, none⟩ = false := hBk.frozen _
          have f2 : w3.frozen? ⟨g, k * 4 + 2, none⟩ = false := hBk.frozen _
          have f3 : w3.frozen? ⟨g, k * 4 + 3, none⟩ = false := hBk.frozen _
          clear hq hqc hat HRD0
          have HCS := hide (And.intro hBk (And.intro hcs (And.intro hg (And.intro ht hcm))))
          clear hBk hcs ht ho2 hg
          go_wp2_with fail
          obtain ⟨hBk, hcs, hg, ht, hcm⟩ := HCS.out
          obtain ⟨w4a, hw4a⟩ : ∃ w4, w4 = (((w3.setCell ⟨g, k * 4, none⟩ (.int .i64 q.s)).setCell ⟨g, k * 4 + 1, none⟩ (.int .i64 y)).setCell ⟨g, k * 4 + 2, none⟩ (.int .i64 q.h)).setCell ⟨g, k * 4 + 3, none⟩ (.int .i64 q.f) := ⟨_, rfl⟩
          obtain ⟨w4, hw4⟩ : ∃ w4, w4 = w4a.alloc (.cells #[.int .i64 q.s, .int .i64 y, .int .i64 q.h, .int .i64 q.f] 72) := ⟨_, rfl⟩
          have hb4 : Below w.heap.size w w4a := by rw [hw4a]; exact (((HB3.out.setCell hg _).setCell hg _).setCell hg _).setCell hg _
          have HB4 : Hid (Below w.heap.size w w4) := hide (by rw [hw4]; exact hb4.alloc hb4.size _)
          have HLEN : Hid ((rz.set k (extX q y)).length = m) := hide (by rw [List.length_set]; exact HRZ.out)
          have HO4 : Hid (w4.ownsRow w.heap.size 72 4 (.slice (some ⟨g, 0, none⟩) m cap) m ((rz.set k (extX q y)).flatMap encRt)) := hide (by
            have hbb : Blk w4 g 72 (setL cs (k * 4) (encRt (extX q y))) := by rw [hw4, hw4a]; exact ((((hBk.set_ _ _).set_ _ _).set_ _ _).set_ _ _).alloc _
            refine World.ownsRow_of_blk hbb hg (by rw [setL_size]; exact hcs) hnc hcm (by rw [flat_len encRt_len, HLEN.out]) ?_
            have := flat_setk encRt_len rz k (extX q y) hk cs (by rw [flat_len encRt_len, HRZ.out, hcs]; exact Nat.mul_le_mul_right _ hnc) (by rw [HRZ.out]; exact ht)
            rw [HRZ.out] at this; exact this)
          rw [← hw4a, ← hw4]
          clear hw4 hw4a hb4 f0 f1 f2 f3 c0 c1 c2 c3 hBk hcs hg ht hcm hbr hb1'
          have HRD := hide (own_rd' encRt_len HO4.out HLEN.out)
          refine (l14Good0_any (some ⟨g, 0, none⟩) m cap (rz.set k (extX q y)) ao n c zs _ HLEN.out hm HRD.out HZ.out hn (rd_at0 HR.out HB4.out)).mono ?_
          rintro e w5 ⟨rfl, hb⟩
          have HB5 := hide (bl_step HB4.out hb)
          have HO5 := hide (own_step HO4.out hb)
          clear hb
          rw [← HE.out]
          cases hq : okExt rz zs s y with
          | false =>
            have HC := hide (HN.out hq)
            go_wp2
            go_ret2
            exact ⟨_, ret_vb hq.symm, by rw [HC.out]; exact World.ownsRow_made _ #[] 0 HB5.out.size (by simp [maxLen]) rfl, HB5.out.alloc HB5.out.size _⟩
          | true =>
            have HC : Hid (extV rz zs s y = rz.set k (extX q y)) := hide (by unfold extV; rw [hq, extL_at HI.out HX.out]; rfl)
            go_wp2
            go_ret2
            exact ⟨_, ret_vb hq.symm, by rw [HC.out, HLEN.out]; exact HO5.out, HB5.out⟩
        · have h5 : y ≤ r'.e := by omega
          have HO : Hid (okExt rz zs s y = false) := hide (ext_no HI.out HX.out h4)
          have HC := hide (HN.out HO.out)
          go_enter Try.func46, Try.ntmps46
          go_wp2_with fail
          refine HL.out.mono ?_
          rintro e w1 ⟨rfl, rfl⟩
          rw [show idxB (isS s) rz = rtI rz s from rfl, HI.out]
          go_wp2_with fail
          refine (l14Good0_any (some ⟨b, off, none⟩) m d rz ao n c zs w HRZ.out hm HRR.out HZ.out hn HR.out).mono ?_
          rintro e w2 ⟨rfl, hb⟩
          rw [HH1.out]
          have HB2 := hide hb
          clear hb
          obtain ⟨hbr, c0, c1, c2, c3⟩ := HXC.out _ HB2.out
          go_wp2_with (go_at_call 73; refine (l2Day_any _ _).mono ?_; rintro e w' ⟨rfl, rfl⟩)
          go_ret2
          exact ⟨_, ret_vb HO.out.symm, by rw [HC.out]; exact World.ownsRow_made _ #[] 0 HB2.out.size (by simp [maxLen]) rfl, HB2.out.alloc HB2.out.size _⟩

end Go.Proofs.Ytpghdjehagamlaa
