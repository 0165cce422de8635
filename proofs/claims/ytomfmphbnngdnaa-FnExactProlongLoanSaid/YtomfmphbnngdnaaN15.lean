/- ProlongLoan: the reference. -/
import Derived.Test.YtomfmphbnngdnaaN13
import Derived.Test.YtomfmphbnngdnaaN7
import Derived.Test.YtomfmphbnngdnaaN3
namespace Go.Proofs.Ytomfmphbnngdnaa
open Go.RowKit
set_option linter.unusedVariables false
set_option linter.unusedSimpArgs false

set_option maxRecDepth 100000 in
set_option maxHeartbeats 1000000 in
theorem sProlongLoan_any (ao : Addr) (n c : Nat) (zs : List Ln) (s d m : Int) (w : World) (hz : zs.length = n) (hn : n ≤ 1048576) (hr : Rd encLn 5 w.heap.size w (some ao) zs) :
    Calls Try.prog 21 #[.slice (some ao) n c, .int .i64 s, .int .i64 d, .int .i64 m] w fun e w' => ∃ v, e = .returned (.tuple #[v, .bool (okPro zs s d m)]) ∧ w'.ownsRow w.heap.size 48 5 v (proV zs s d m).length ((proV zs s d m).flatMap encLn) ∧ Below w.heap.size w w' := by
  have HZ := hide hz
  have HR := hide hr
  have HL := hide (l11Open_any (some ao) n c zs s w hz hn hr)
  have HN : Hid (okPro zs s d m = false → proV zs s d m = []) := hide (fun h => by unfold proV; rw [h]; rfl)
  have hinf := infoLn
  obtain ⟨i0, hi, hz0, hz1, hz2⟩ := info_parts hinf
  clear hinf
  have HI0 := hide (And.intro hi (And.intro hz0 (And.intro hz1 hz2)))
  clear hi hz0 hz1 hz2 hz hr
  cases h1 : loansB zs with
  | false =>
    have HO : Hid (okPro zs s d m = false) := hide (by simp [okPro, h1])
    have HC := hide (HN.out HO.out)
    generalize hii : idxB (lentS s) zs = ii at HL
    have HII : Hid (ii = ii) := hide rfl
    go_enter Try.func21, Try.ntmps21
    go_wp2_with fail
    refine HL.out.mono ?_
    rintro e w1 ⟨rfl, rfl⟩
    go_wp2_with fail
    refine (l11Good_any (some ao) n c zs w HZ.out hn HR.out).mono ?_
    rintro e w2 ⟨rfl, hb⟩
    rw [h1]
    have HB2 := hide (hb)
    clear hb
    go_wp2_with (first | (go_at_call 42; refine (l11Days_any _ _).mono ?_; rintro e w' ⟨rfl, rfl⟩) | (go_at_call 33; refine (l11Id_any _ _).mono ?_; rintro e w' ⟨rfl, rfl⟩) | (go_at_call 34; refine (l2Day_any _ _).mono ?_; rintro e w' ⟨rfl, rfl⟩) | (go_at_call 55; refine (l1In_any _ _ _ _).mono ?_; rintro e w' ⟨rfl, rfl⟩))
    go_ret2
    exact ⟨_, ret_vb HO.out.symm, by rw [HC.out]; exact World.ownsRow_made _ #[] 0 HB2.out.size (by simp [maxLen]) rfl, HB2.out.alloc HB2.out.size _⟩
  | true =>
    have HH1 := hide h1
    have HIE := hide (lent_eq h1 s)
    have h15 := loans_15 h1
    rw [HZ.out] at h15
    clear h1
    rcases lent_cases zs s with hi | ⟨k, x, hk, hx, hxb, hi⟩
    · have HO : Hid (okPro zs s d m = false) := hide (by unfold okPro; rw [hi]; simp)
      have HC := hide (HN.out HO.out)
      have HI := hide (HIE.out.trans hi)
      clear hi
      go_enter Try.func21, Try.ntmps21
      go_wp2_with fail
      refine HL.out.mono ?_
      rintro e w1 ⟨rfl, rfl⟩
      rw [HI.out]
      go_wp2_with fail
      refine (l11Good_any (some ao) n c zs w HZ.out hn HR.out).mono ?_
      rintro e w2 ⟨rfl, hb⟩
      rw [HH1.out]
      have HB2 := hide (hb)
      clear hb
      go_wp2_with (first | (go_at_call 42; refine (l11Days_any _ _).mono ?_; rintro e w' ⟨rfl, rfl⟩) | (go_at_call 33; refine (l11Id_any _ _).mono ?_; rintro e w' ⟨rfl, rfl⟩) | (go_at_call 34; refine (l2Day_any _ _).mono ?_; rintro e w' ⟨rfl, rfl⟩) | (go_at_call 55; refine (l1In_any _ _ _ _).mono ?_; rintro e w' ⟨rfl, rfl⟩))
      go_ret2
      exact ⟨_, ret_vb HO.out.symm, by rw [HC.out]; exact World.ownsRow_made _ #[] 0 HB2.out.size (by simp [maxLen]) rfl, HB2.out.alloc HB2.out.size _⟩
    · have hkn : (k : Int) < (n : Int) := by have := HZ.out; omega
      have hk0 : ¬ (k : Int) < 0 := by omega
      have hkz : (0 : Int) ≤ (k : Int) := by omega
      have HI := hide (HIE.out.trans hi)
      have HII := hide hi
      have HX := hide hx
      have bx := okLn_bd (loans_at HH1.out hx)
      clear hi hx hxb
      rcases first2 (inB d 0 4000) (inB m 1 60) with h2 | ⟨h2, h3⟩ | ⟨h2, h3⟩
      iterate 2
        · have HO : Hid (okPro zs s d m = false) := hide (by simp [okPro, *])
          have HC := hide (HN.out HO.out)
          go_enter Try.func21, Try.ntmps21
          go_wp2_with fail
          refine HL.out.mono ?_
          rintro e w1 ⟨rfl, rfl⟩
          rw [HI.out]
          go_wp2_with fail
          refine (l11Good_any (some ao) n c zs w HZ.out hn HR.out).mono ?_
          rintro e w2 ⟨rfl, hb⟩
          rw [HH1.out]
          have HB2 := hide (hb)
          clear hb
          go_wp2_with (first | (go_at_call 42; refine (l11Days_any _ _).mono ?_; rintro e w' ⟨rfl, rfl⟩) | (go_at_call 33; refine (l11Id_any _ _).mono ?_; rintro e w' ⟨rfl, rfl⟩) | (go_at_call 34; refine (l2Day_any _ _).mono ?_; rintro e w' ⟨rfl, rfl⟩) | (go_at_call 55; refine (l1In_any _ _ _ _).mono ?_; rintro e w' ⟨rfl, rfl⟩))
          go_ret2
          exact ⟨_, ret_vb HO.out.symm, by rw [HC.out]; exact World.ownsRow_made _ #[] 0 HB2.out.size (by simp [maxLen]) rfl, HB2.out.alloc HB2.out.size _⟩
      · have HH2 := hide h2
        have HH3 := hide h3
        have bd := inB_iff.1 h2
        have bm := inB_iff.1 h3
        obtain ⟨b, off, he, hb1, hat⟩ := rdLn HR.out (by rw [HZ.out]; omega)
        cases he
        obtain ⟨x', hx', hxc⟩ := hat k (by rw [HZ.out]; omega)
        obtain rfl : x' = x := by rw [HX.out] at hx'; injection hx' with hx'; exact hx'.symm
        have HXC := hide hxc
        clear hx' hxc hat
        have H3 : (x'.d < d) ∨ (¬ x'.d < d ∧ d < x'.o) ∨ (¬ x'.d < d ∧ ¬ d < x'.o) := by omega
        rcases H3 with h4 | ⟨h4, h5⟩ | ⟨h4, h5⟩
        iterate 2
          · have HO : Hid (okPro zs s d m = false) := hide (pro_fit HII.out HX.out (by unfold fitB; simp; omega))
            have HC := hide (HN.out HO.out)
            go_enter Try.func21, Try.ntmps21
            go_wp2_with fail
            refine HL.out.mono ?_
            rintro e w1 ⟨rfl, rfl⟩
            rw [HI.out]
            go_wp2_with fail
            refine (l11Good_any (some ⟨b, off, none⟩) n c zs w HZ.out hn HR.out).mono ?_
            rintro e w2 ⟨rfl, hb⟩
            rw [HH1.out]
            have HB2 := hide (hb)
            clear hb
            obtain ⟨hbr, c0, c1, c2, c3, c4⟩ := HXC.out _ HB2.out
            go_wp2_with (first | (go_at_call 42; refine (l11Days_any _ _).mono ?_; rintro e w' ⟨rfl, rfl⟩) | (go_at_call 33; refine (l11Id_any _ _).mono ?_; rintro e w' ⟨rfl, rfl⟩) | (go_at_call 34; refine (l2Day_any _ _).mono ?_; rintro e w' ⟨rfl, rfl⟩) | (go_at_call 55; refine (l1In_any _ _ _ _).mono ?_; rintro e w' ⟨rfl, rfl⟩))
            go_ret2
            exact ⟨_, ret_vb HO.out.symm, by rw [HC.out]; exact World.ownsRow_made _ #[] 0 HB2.out.size (by simp [maxLen]) rfl, HB2.out.alloc HB2.out.size _⟩
        · have HF := hide (show fitB x' d = true from (by unfold fitB; simp; omega))
          have HE9 := hide (pro_at HII.out HX.out HH1.out HH2.out HH3.out HF.out)
          have k1 : IntKind.i64.wrap (x'.d + m) = x'.d + m := IntWalk.i64_in _ (by omega)
          go_enter Try.func21, Try.ntmps21
          go_wp2_with fail
          refine HL.out.mono ?_
          rintro e w1 ⟨rfl, rfl⟩
          rw [HI.out]
          go_wp2_with fail
          refine (l11Good_any (some ⟨b, off, none⟩) n c zs w HZ.out hn HR.out).mono ?_
          rintro e w2 ⟨rfl, hb⟩
          rw [HH1.out]
          have HB2 := hide (hb)
          clear hb
          obtain ⟨hbr, c0, c1, c2, c3, c4⟩ := HXC.out _ HB2.out
          obtain ⟨V, hV⟩ : ∃ V, V = w2.alloc (.cells #[] 48) := ⟨_, rfl⟩
          have HBV : Hid (Below w.heap.size w V) := hide (by rw [hV]; exact HB2.out.alloc HB2.out.size _)
          have HE : Hid (V.ownsRow w.heap.size 48 5 (.slice (some ⟨w2.heap.size, 0, none⟩) 0 0) 0 []) := hide (by rw [hV]; exact World.ownsRow_made w2 #[] 0 HB2.out.size (by simp [maxLen]) rfl)
          have HFL := hide (rd_flat encLn_len (rd_step HR.out HBV.out))
          have hVs : w.heap.size ≤ V.heap.size := HBV.out.size
          have HV := hide hV
          clear hV
          obtain ⟨hi, hz0, hz1, hz2⟩ := HI0.out
          go_wp2_with (first | (at_builtin; rw [← HV.out]; refine wpList_append_own _ rfl _ _ 26 rfl w.heap.size 48 i0 (.agg #[.int .i64 0, .int .i64 0, .int .i64 0, .int .i64 0, .int .i64 0]) 5 40 Try.underlying26 hi hz0 hz1 hz2 rfl (by decide) _ 0 [] rfl HE.out ⟨b, off, none⟩ n c (zs.flatMap encLn) rfl ?c0 ?c1 ?c2 ?c3 ?c4 ?c5 ?_) | (go_at_call 42; refine (l11Days_any _ _).mono ?_; rintro e w' ⟨rfl, rfl⟩) | (go_at_call 33; refine (l11Id_any _ _).mono ?_; rintro e w' ⟨rfl, rfl⟩) | (go_at_call 34; refine (l2Day_any _ _).mono ?_; rintro e w' ⟨rfl, rfl⟩) | (go_at_call 55; refine (l1In_any _ _ _ _).mono ?_; rintro e w' ⟨rfl, rfl⟩))
          case c0 => rw [flat_len encLn_len, HZ.out]
          case c1 => exact HFL.out
          case c2 => exact flat_one encLn_one zs
          case c3 => unfold maxLen; omega
          case c4 => omega
          case c5 => exact hVs
          intro v w3 hown' hgrow _
          have HB3 := hide (bl_grown HBV.out HE.out (Nat.le_refl _) hgrow)
          have ho2 : w3.ownsRow w.heap.size 48 5 v n (zs.flatMap encLn) := by first | exact hown' | (rw [Nat.zero_add, List.nil_append] at hown'; exact hown')
          clear hown' hgrow c0 c1 c2 c3 c4 hbr
          rcases own_form encLn_len ho2 HZ.out with ⟨_, hn0, _⟩ | ⟨g, cap, cs, rfl, hg, hBk, hcs, hnc, hcm, ht⟩
          · omega
          have HRD0 := own_rd' encLn_len ho2 HZ.out
          obtain ⟨b', off', he, hb1', hat⟩ := rdLn HRD0 (by rw [HZ.out]; omega)
          cases he
          obtain ⟨y, hy, hyc⟩ := hat k (by rw [HZ.out]; omega)
          obtain rfl : y = x' := by rw [HX.out] at hy; injection hy with hy; exact hy.symm
          obtain ⟨hbr, c0, c1, c2, c3, c4⟩ := hyc w3 (Below.refl _ _)
          simp only [Nat.zero_add] at c0 c1 c2 c3 c4
          have f0 : w3.frozen? ⟨g, k * 5, none⟩ = false := hBk.frozen _
          have f1 : w3.frozen? ⟨g, k * 5 + 1, none⟩ = false := hBk.frozen _
          have f2 : w3.frozen? ⟨g, k * 5 + 2, none⟩ = false := hBk.frozen _
          have f3 : w3.frozen? ⟨g, k * 5 + 3, none⟩ = false := hBk.frozen _
          have f4 : w3.frozen? ⟨g, k * 5 + 4, none⟩ = false := hBk.frozen _
          clear hy hyc hat HRD0
          have HCS := hide (And.intro hBk (And.intro hcs (And.intro hg (And.intro ht hcm))))
          clear hBk hcs ht ho2 hg
          go_wp2_with fail
          obtain ⟨hBk, hcs, hg, ht, hcm⟩ := HCS.out
          obtain ⟨w4, hw4⟩ : ∃ w4, w4 = ((((w3.setCell ⟨g, k * 5, none⟩ (.int .i64 y.s)).setCell ⟨g, k * 5 + 1, none⟩ (.int .i64 y.r)).setCell ⟨g, k * 5 + 2, none⟩ (.int .i64 y.o)).setCell ⟨g, k * 5 + 3, none⟩ (.int .i64 (y.d + m))).setCell ⟨g, k * 5 + 4, none⟩ (.int .i64 y.b) := ⟨_, rfl⟩
          obtain ⟨w5, hw5⟩ : ∃ w5, w5 = w4.alloc (.cells #[.int .i64 y.s, .int .i64 y.r, .int .i64 y.o, .int .i64 (y.d + m), .int .i64 y.b] 48) := ⟨_, rfl⟩
          have hb4 : Below w.heap.size w w4 := by rw [hw4]; exact ((((HB3.out.setCell hg _).setCell hg _).setCell hg _).setCell hg _).setCell hg _
          have HB5 : Hid (Below w.heap.size w w5) := hide (by rw [hw5]; exact hb4.alloc hb4.size _)
          have HLEN : Hid ((zs.set k (proX y m)).length = n) := hide (by rw [List.length_set]; exact HZ.out)
          have HO5 : Hid (w5.ownsRow w.heap.size 48 5 (.slice (some ⟨g, 0, none⟩) n cap) n ((zs.set k (proX y m)).flatMap encLn)) := hide (by
            have hbb : Blk w5 g 48 (setL cs (k * 5) (encLn (proX y m))) := by rw [hw5, hw4]; exact (((((hBk.set_ _ _).set_ _ _).set_ _ _).set_ _ _).set_ _ _).alloc _
            refine World.ownsRow_of_blk hbb hg (by rw [setL_size]; exact hcs) hnc hcm (by rw [flat_len encLn_len, HLEN.out]) ?_
            have := flat_setk encLn_len zs k (proX y m) hk cs (by rw [flat_len encLn_len, HZ.out, hcs]; exact Nat.mul_le_mul_right _ hnc) (by rw [HZ.out]; exact ht)
            rw [HZ.out] at this; exact this)
          rw [← hw4, ← hw5]
          clear hw5 hw4 hb4 f0 f1 f2 f3 f4 c0 c1 c2 c3 c4 hBk hcs hg ht hcm hbr hb1'
          have HRD := hide (own_rd' encLn_len HO5.out HLEN.out)
          refine (l11Good_any (some ⟨g, 0, none⟩) n cap (zs.set k (proX y m)) _ HLEN.out hn HRD.out).mono ?_
          rintro e w6 ⟨rfl, hb⟩
          have HB6 := hide (bl_step HB5.out hb)
          have HO6 := hide (own_step HO5.out hb)
          clear hb
          rw [← HE9.out]
          cases hq : okPro zs s d m with
          | false =>
            have HC := hide (HN.out hq)
            go_wp2
            go_ret2
            exact ⟨_, ret_vb hq.symm, by rw [HC.out]; exact World.ownsRow_made _ #[] 0 HB6.out.size (by simp [maxLen]) rfl, HB6.out.alloc HB6.out.size _⟩
          | true =>
            have HC : Hid (proV zs s d m = zs.set k (proX y m)) := hide (by unfold proV; rw [hq, proL_at HII.out HX.out]; rfl)
            go_wp2
            go_ret2
            exact ⟨_, ret_vb hq.symm, by rw [HC.out, HLEN.out]; exact HO6.out, HB6.out⟩

end Go.Proofs.Ytomfmphbnngdnaa
