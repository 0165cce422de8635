/- ReturnSheet: the reference. -/
import Derived.Test.YtomfmphbnngdnaaN11
import Derived.Test.YtomfmphbnngdnaaN3
namespace Go.Proofs.Ytomfmphbnngdnaa
open Go.RowKit
set_option linter.unusedVariables false
set_option linter.unusedSimpArgs false

set_option maxRecDepth 100000 in
set_option maxHeartbeats 1000000 in
theorem sReturnSheet_any (ao : Addr) (n c : Nat) (zs : List Ln) (s d : Int) (w : World) (hz : zs.length = n) (hn : n ≤ 1048576) (hr : Rd encLn 5 w.heap.size w (some ao) zs) :
    Calls Try.prog 23 #[.slice (some ao) n c, .int .i64 s, .int .i64 d] w fun e w' => ∃ v, e = .returned (.tuple #[v, .int .i64 (retF zs s d), .bool (okRet zs s d)]) ∧ w'.ownsRow w.heap.size 48 5 v (retV zs s d).length ((retV zs s d).flatMap encLn) ∧ Below w.heap.size w w' := by
  have HZ := hide hz
  have HR := hide hr
  have HL := hide (l11Open_any (some ao) n c zs s w hz hn hr)
  have HA := hide (l11Good_any (some ao) n c zs w hz hn hr)
  have HN : Hid (okRet zs s d = false → retV zs s d = []) := hide (fun h => by unfold retV; rw [h]; rfl)
  have hinf := infoLn
  obtain ⟨i0, hi, hz0, hz1, hz2⟩ := info_parts hinf
  clear hinf
  have HI0 := hide (And.intro hi (And.intro hz0 (And.intro hz1 hz2)))
  clear hi hz0 hz1 hz2 hz hr
  cases h1 : loansB zs with
  | false =>
    have HO : Hid (okRet zs s d = false) := hide (by simp [okRet, h1])
    have HC := hide (HN.out HO.out)
    generalize hii : idxB (lentS s) zs = ii at HL
    go_enter Try.func23, Try.ntmps23
    go_wp2_with fail
    refine HL.out.mono ?_
    rintro e w1 ⟨rfl, rfl⟩
    go_wp2_with fail
    refine HA.out.mono ?_
    rintro e w2 ⟨rfl, hb⟩
    rw [h1]
    have HB2 := hide hb
    clear hb
    go_wp2_with (first | (go_at_call 33; refine (l11Id_any _ _).mono ?_; rintro e w' ⟨rfl, rfl⟩) | (go_at_call 34; refine (l2Day_any _ _).mono ?_; rintro e w' ⟨rfl, rfl⟩) | (go_at_call 55; refine (l1In_any _ _ _ _).mono ?_; rintro e w' ⟨rfl, rfl⟩))
    go_ret3
    exact ⟨_, ret_vib (by unfold retF; rw [HO.out]; rfl) HO.out.symm, by rw [HC.out]; exact World.ownsRow_made _ #[] 0 HB2.out.size (by simp [maxLen]) rfl, HB2.out.alloc HB2.out.size _⟩
  | true =>
    have HH1 := hide h1
    have HIE := hide (lent_eq h1 s)
    have h15 := loans_15 h1
    rw [HZ.out] at h15
    clear h1
    rcases lent_cases zs s with hi | ⟨k, x, hk, hx, hxb, hi⟩
    · have HO : Hid (okRet zs s d = false) := hide (by unfold okRet; rw [hi]; simp)
      have HC := hide (HN.out HO.out)
      have HI := hide (HIE.out.trans hi)
      clear hi
      go_enter Try.func23, Try.ntmps23
      go_wp2_with fail
      refine HL.out.mono ?_
      rintro e w1 ⟨rfl, rfl⟩
      rw [HI.out]
      go_wp2_with fail
      refine HA.out.mono ?_
      rintro e w2 ⟨rfl, hb⟩
      rw [HH1.out]
      have HB2 := hide hb
      clear hb
      go_wp2_with (first | (go_at_call 33; refine (l11Id_any _ _).mono ?_; rintro e w' ⟨rfl, rfl⟩) | (go_at_call 34; refine (l2Day_any _ _).mono ?_; rintro e w' ⟨rfl, rfl⟩) | (go_at_call 55; refine (l1In_any _ _ _ _).mono ?_; rintro e w' ⟨rfl, rfl⟩))
      go_ret3
      exact ⟨_, ret_vib (by unfold retF; rw [HO.out]; rfl) HO.out.symm, by rw [HC.out]; exact World.ownsRow_made _ #[] 0 HB2.out.size (by simp [maxLen]) rfl, HB2.out.alloc HB2.out.size _⟩
    · have hkn : (k : Int) < (n : Int) := by have := HZ.out; omega
      have hk0 : ¬ (k : Int) < 0 := by omega
      have HI := hide (HIE.out.trans hi)
      have HII := hide hi
      have HX := hide hx
      clear hi hx
      cases h2 : inB d 0 4000 with
      | false =>
        have HO : Hid (okRet zs s d = false) := hide (by simp [okRet, h2])
        have HC := hide (HN.out HO.out)
        go_enter Try.func23, Try.ntmps23
        go_wp2_with fail
        refine HL.out.mono ?_
        rintro e w1 ⟨rfl, rfl⟩
        rw [HI.out]
        go_wp2_with fail
        refine HA.out.mono ?_
        rintro e w2 ⟨rfl, hb⟩
        rw [HH1.out]
        have HB2 := hide hb
        clear hb
        go_wp2_with (first | (go_at_call 33; refine (l11Id_any _ _).mono ?_; rintro e w' ⟨rfl, rfl⟩) | (go_at_call 34; refine (l2Day_any _ _).mono ?_; rintro e w' ⟨rfl, rfl⟩) | (go_at_call 55; refine (l1In_any _ _ _ _).mono ?_; rintro e w' ⟨rfl, rfl⟩))
        go_ret3
        exact ⟨_, ret_vib (by unfold retF; rw [HO.out]; rfl) HO.out.symm, by rw [HC.out]; exact World.ownsRow_made _ #[] 0 HB2.out.size (by simp [maxLen]) rfl, HB2.out.alloc HB2.out.size _⟩
      | true =>
        have HH2 := hide h2
        have bd := inB_iff.1 h2
        have bx := (okLn_bd (loans_at HH1.out HX.out)).2.2.2.1
        go_enter Try.func23, Try.ntmps23
        go_wp2_with fail
        refine HL.out.mono ?_
        rintro e w1 ⟨rfl, rfl⟩
        rw [HI.out]
        go_wp2_with fail
        refine HA.out.mono ?_
        rintro e w1 ⟨rfl, hb⟩
        rw [HH1.out]
        have HB := hide hb
        clear hb HA HL
        obtain ⟨V, hV⟩ : ∃ V, V = w1.alloc (.cells #[] 48) := ⟨_, rfl⟩
        have HBV : Hid (Below w.heap.size w V) := hide (by rw [hV]; exact HB.out.alloc HB.out.size _)
        have HE : Hid (V.ownsRow w.heap.size 48 5 (.slice (some ⟨w1.heap.size, 0, none⟩) 0 0) 0 []) := hide (by rw [hV]; exact World.ownsRow_made w1 #[] 0 HB.out.size (by simp [maxLen]) rfl)
        have HF := hide (rd_flat encLn_len (rd_step HR.out HBV.out))
        have hVs : w.heap.size ≤ V.heap.size := HBV.out.size
        have HV := hide hV
        clear hV
        obtain ⟨hi, hz0, hz1, hz2⟩ := HI0.out
        go_wp2_with (first | (at_builtin; rw [← HV.out]; refine wpList_append_own _ rfl _ _ 26 rfl w.heap.size 48 i0 (.agg #[.int .i64 0, .int .i64 0, .int .i64 0, .int .i64 0, .int .i64 0]) 5 40 Try.underlying26 hi hz0 hz1 hz2 rfl (by decide) _ 0 [] rfl HE.out ao n c (zs.flatMap encLn) rfl ?c0 ?c1 ?c2 ?c3 ?c4 ?c5 ?_) | (go_at_call 33; refine (l11Id_any _ _).mono ?_; rintro e w' ⟨rfl, rfl⟩) | (go_at_call 34; refine (l2Day_any _ _).mono ?_; rintro e w' ⟨rfl, rfl⟩) | (go_at_call 55; refine (l1In_any _ _ _ _).mono ?_; rintro e w' ⟨rfl, rfl⟩))
        case c0 => rw [flat_len encLn_len, HZ.out]
        case c1 => exact HF.out
        case c2 => exact flat_one encLn_one zs
        case c3 => unfold maxLen; omega
        case c4 => omega
        case c5 => exact hVs
        intro v w2 hown' hgrow _
        have HB2 := hide (bl_grown HBV.out HE.out (Nat.le_refl _) hgrow)
        have ho2 : w2.ownsRow w.heap.size 48 5 v n (zs.flatMap encLn) := by first | exact hown' | (rw [Nat.zero_add, List.nil_append] at hown'; exact hown')
        clear hown' hgrow
        rcases own_form encLn_len ho2 HZ.out with ⟨_, hn0, _⟩ | ⟨g, cap, cs, rfl, hg, hBk, hcs, hnc, hcm, ht⟩
        · omega
        have HRD0 := own_rd' encLn_len ho2 HZ.out
        obtain ⟨b', off', he, hb1, hat⟩ := rdLn HRD0 (by rw [HZ.out]; omega)
        cases he
        obtain ⟨y, hy, hyc⟩ := hat k (by rw [HZ.out]; omega)
        obtain rfl : y = x := by rw [HX.out] at hy; injection hy with hy; exact hy.symm
        obtain ⟨hbr, c0, c1, c2, c3, c4⟩ := hyc w2 (Below.refl _ _)
        simp only [Nat.zero_add] at c0 c1 c2 c3 c4
        have f0 : w2.frozen? ⟨g, k * 5, none⟩ = false := hBk.frozen _
        have f1 : w2.frozen? ⟨g, k * 5 + 1, none⟩ = false := hBk.frozen _
        have f2 : w2.frozen? ⟨g, k * 5 + 2, none⟩ = false := hBk.frozen _
        have f3 : w2.frozen? ⟨g, k * 5 + 3, none⟩ = false := hBk.frozen _
        have f4 : w2.frozen? ⟨g, k * 5 + 4, none⟩ = false := hBk.frozen _
        clear hy hyc hat HRD0
        have HCS := hide (And.intro hBk (And.intro hcs (And.intro hg (And.intro ht hcm))))
        clear hBk hcs ht ho2 hg
        go_wp2_with fail
        obtain ⟨hBk, hcs, hg, ht, hcm⟩ := HCS.out
        have hne : w2.heap.size ≠ g := by omega
        obtain ⟨w3, hw3⟩ : ∃ w3, w3 = ((((w2.setCell ⟨g, k * 5, none⟩ (.int .i64 y.s)).setCell ⟨g, k * 5 + 1, none⟩ (.int .i64 y.r)).setCell ⟨g, k * 5 + 2, none⟩ (.int .i64 y.o)).setCell ⟨g, k * 5 + 3, none⟩ (.int .i64 y.d)).setCell ⟨g, k * 5 + 4, none⟩ (.int .i64 d) := ⟨_, rfl⟩
        have hs3 : w3.heap.size = w2.heap.size := by rw [hw3]; simp
        obtain ⟨w4, hw4⟩ : ∃ w4, w4 = w3.alloc (.cells #[.int .i64 y.s, .int .i64 y.r, .int .i64 y.o, .int .i64 y.d, .int .i64 d] 48) := ⟨_, rfl⟩
        have hb3 : Below w.heap.size w w3 := by rw [hw3]; exact ((((HB2.out.setCell hg _).setCell hg _).setCell hg _).setCell hg _).setCell hg _
        have HB4 : Hid (Below w.heap.size w w4) := hide (by rw [hw4]; exact hb3.alloc hb3.size _)
        have HLEN : Hid ((zs.set k (backX y d)).length = n) := hide (by rw [List.length_set]; exact HZ.out)
        have HO4 : Hid (w4.ownsRow w.heap.size 48 5 (.slice (some ⟨g, 0, none⟩) n cap) n ((zs.set k (backX y d)).flatMap encLn)) := hide (by
          have hb4 : Blk w4 g 48 (setL cs (k * 5) (encLn (backX y d))) := by rw [hw4, hw3]; exact (((((hBk.set_ _ _).set_ _ _).set_ _ _).set_ _ _).set_ _ _).alloc _
          refine World.ownsRow_of_blk hb4 hg (by rw [setL_size]; exact hcs) hnc hcm (by rw [flat_len encLn_len, HLEN.out]) ?_
          have := flat_setk encLn_len zs k (backX y d) hk cs (by rw [flat_len encLn_len, HZ.out, hcs]; exact Nat.mul_le_mul_right _ hnc) (by rw [HZ.out]; exact ht)
          rw [HZ.out] at this; exact this)
        have HBOX : Hid (Blk w4 w2.heap.size 48 #[.int .i64 y.s, .int .i64 y.r, .int .i64 y.o, .int .i64 y.d, .int .i64 d]) := hide (by rw [hw4]; have h := Blk.new w3 48 #[.int .i64 y.s, .int .i64 y.r, .int .i64 y.o, .int .i64 y.d, .int .i64 d]; rw [hs3] at h; exact h)
        rw [← hw3, ← hw4]
        clear hw4 hw3 hb3 hs3 f0 f1 f2 f3 f4 c0 c1 c2 c3 c4 hBk hcs hg ht hcm hbr hb1
        have HRD := hide (own_rd' encLn_len HO4.out HLEN.out)
        refine (l11Good_any (some ⟨g, 0, none⟩) n cap (zs.set k (backX y d)) _ HLEN.out hn HRD.out).mono ?_
        rintro e w5 ⟨rfl, hb⟩
        have HB5 := hide (bl_step HB4.out hb)
        have HO5 := hide (own_step HO4.out hb)
        have hbox := HBOX.out.below' hb
        clear hb
        have e0 : w5.cell? ⟨w2.heap.size, 0, none⟩ = some (.int .i64 y.s) := by rw [hbox.cell]; rfl
        have e1 : w5.cell? ⟨w2.heap.size, 1, none⟩ = some (.int .i64 y.r) := by rw [hbox.cell]; rfl
        have e2 : w5.cell? ⟨w2.heap.size, 2, none⟩ = some (.int .i64 y.o) := by rw [hbox.cell]; rfl
        have e3 : w5.cell? ⟨w2.heap.size, 3, none⟩ = some (.int .i64 y.d) := by rw [hbox.cell]; rfl
        have e4 : w5.cell? ⟨w2.heap.size, 4, none⟩ = some (.int .i64 d) := by rw [hbox.cell]; rfl
        clear hbox
        have HRL := hide (retL_at (d := d) HII.out HX.out)
        cases hq : loansB (zs.set k (backX y d)) with
        | false =>
          have HO : Hid (okRet zs s d = false) := hide (by unfold okRet; rw [HRL.out, hq]; simp)
          have HC := hide (HN.out HO.out)
          clear hq
          go_wp2
          go_ret3
          exact ⟨_, ret_vib (by unfold retF; rw [HO.out]; rfl) HO.out.symm, by rw [HC.out]; exact World.ownsRow_made _ #[] 0 HB5.out.size (by simp [maxLen]) rfl, HB5.out.alloc HB5.out.size _⟩
        | true =>
          have HO : Hid (okRet zs s d = true) := hide (by unfold okRet; rw [HRL.out, hq, HH1.out, HH2.out, HII.out]; simp)
          have HC : Hid (retV zs s d = zs.set k (backX y d)) := hide (by unfold retV; rw [HO.out, HRL.out]; rfl)
          clear hq
          go_wp2_with fail
          refine (l11Fine_any _ _ _ y.d d _ bd bx).mono ?_
          rintro e w6 ⟨rfl, hb⟩
          have HB6 := hide (bl_step HB5.out hb)
          have HO6 := hide (own_step HO5.out hb)
          clear hb
          go_wp2
          go_ret3
          exact ⟨_, ret_vib (fineV_at HII.out HX.out HO.out).symm HO.out.symm, by rw [HC.out, HLEN.out]; exact HO6.out, HB6.out⟩

end Go.Proofs.Ytomfmphbnngdnaa
