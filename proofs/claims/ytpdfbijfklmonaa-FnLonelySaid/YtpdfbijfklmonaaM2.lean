/- AreCovers: the reference. -/
import Derived.Test.YtpdfbijfklmonaaM1
namespace Go.Proofs.Ytpdfbijfklmonaa
open Go.RowKit
set_option linter.unusedVariables false
set_option linter.unusedSimpArgs false

theorem six (x : Cv) : x.w < -20 ∨ (¬ x.w < -20 ∧ x.e ≤ x.w) ∨ (¬ x.w < -20 ∧ ¬ x.e ≤ x.w ∧ 20 < x.e) ∨ (¬ x.w < -20 ∧ ¬ x.e ≤ x.w ∧ ¬ 20 < x.e ∧ x.s < -20) ∨
    (¬ x.w < -20 ∧ ¬ x.e ≤ x.w ∧ ¬ 20 < x.e ∧ ¬ x.s < -20 ∧ x.n ≤ x.s) ∨ (¬ x.w < -20 ∧ ¬ x.e ≤ x.w ∧ ¬ 20 < x.e ∧ ¬ x.s < -20 ∧ ¬ x.n ≤ x.s ∧ 20 < x.n) ∨ (¬ x.w < -20 ∧ ¬ x.e ≤ x.w ∧ ¬ 20 < x.e ∧ ¬ x.s < -20 ∧ ¬ x.n ≤ x.s ∧ ¬ 20 < x.n) := by omega
theorem okCv_no {x : Cv} (h : x.w < -20 ∨ x.e ≤ x.w ∨ 20 < x.e ∨ x.s < -20 ∨ x.n ≤ x.s ∨ 20 < x.n) : okCv x = false := by
  rw [Bool.eq_false_iff]; intro h'; have := okCv_bd h'; omega
theorem okCv_n1 {x : Cv} (h : inB x.i 1 99 = false) : okCv x = false := by unfold okCv; rw [h]; simp
theorem okCv_n2 {x : Cv} (h : inB x.p 1 1000 = false) : okCv x = false := by unfold okCv; rw [h]; simp
theorem okCv_yes {x : Cv} (h1 : inB x.i 1 99 = true) (h2 : inB x.p 1 1000 = true) (h : -20 ≤ x.w ∧ x.w < x.e ∧ x.e ≤ 20 ∧ -20 ≤ x.s ∧ x.s < x.n ∧ x.n ≤ 20) : okCv x = true := by
  unfold okCv
  have a1 : inB x.w (-20) 20 = true := inB_iff.2 (by omega)
  have a2 : inB x.s (-20) 20 = true := inB_iff.2 (by omega)
  have a3 : inB x.e (-20) 20 = true := inB_iff.2 (by omega)
  have a4 : inB x.n (-20) 20 = true := inB_iff.2 (by omega)
  have a5 : decide (x.w < x.e) = true := by simp; omega
  have a6 : decide (x.s < x.n) = true := by simp; omega
  simp only [h1, h2, a1, a2, a3, a4, a5, a6]; rfl

set_option maxRecDepth 100000 in
set_option maxHeartbeats 4000000 in
theorem l12Good_any (ao : Option Addr) (n c : Nat) (zs : List Cv) (w : World) (hz : zs.length = n) (hn : n ≤ 1048576) (hr : Rd encCv 6 w.heap.size w ao zs) :
    Calls Try.prog 75 #[.slice ao n c] w fun e w' => e = .returned (.bool (coversB zs)) ∧ Below w.heap.size w w' := by
  have HZ := hide hz
  have HR := hide hr
  clear hz hr
  go_enter Try.func75, Try.ntmps75
  go_wp2
  go_loopg [3] n (fun gk i wr => ∃ k : Nat, k ≤ n ∧ n - k ≤ gk ∧ i = .int .i64 k ∧ Aside (Below w.heap.size w wr) ∧ Aside (∀ j, j < k → stepCv zs j = true))
  case atStart => exact ⟨0, Nat.zero_le _, by omega, rfl, Below.refl _ _, fun j hj => absurd hj (Nat.not_lt_zero _)⟩
  case round =>
    obtain ⟨k, hk, hg, rfl, BW, A⟩ := hrel
    by_cases hlt : k < n
    · have hlti : (k : Int) < (n : Int) := by omega
      obtain ⟨b, off, rfl, hb1, hat⟩ := rdCv HR.out (by rw [HZ.out]; omega)
      obtain ⟨x, hx, hxc⟩ := hat k (by rw [HZ.out]; exact hlt)
      have HX := hide (getB hx)
      obtain ⟨hbr, c0, c1, c2, c3, c4, c5⟩ := hxc wr BW.out
      have HAT := hide hat
      clear hx hxc hat
      go_wp2_with fail
      rcases first2 (inB x.i 1 99) (inB x.p 1 1000) with h1 | ⟨h1, h2⟩ | ⟨h1, h2⟩
      · have HF := hide (covers_false HZ.out hlt (stepCv_bad0 HX.out (okCv_n1 h1)))
        go_quiet ((go_at_call 82; exact quiet_left (l1In_any _ _ _ _)))
        go_wp2
        go_ret
        exact ⟨ret_bool HF.out.symm, below_drewN (BW.out.alloc BW.out.size _) _⟩
      · have HF := hide (covers_false HZ.out hlt (stepCv_bad0 HX.out (okCv_n2 h2)))
        go_quiet ((go_at_call 82; exact quiet_left (l1In_any _ _ _ _)))
        go_wp2
        go_ret
        exact ⟨ret_bool HF.out.symm, below_drewN (BW.out.alloc BW.out.size _) _⟩
      · by_cases hk0 : k = 0
        · have k1 : decide (0 < k) = false := by simp [hk0]
          have HK := hide hk0
          clear hk0
          rcases six x with s1 | ⟨s1, s2⟩ | ⟨s1, s2, s3⟩ | ⟨s1, s2, s3, s4⟩ | ⟨s1, s2, s3, s4, s5⟩ | ⟨s1, s2, s3, s4, s5, s6⟩ | ⟨s1, s2, s3, s4, s5, s6⟩
          iterate 6
            · have HF := hide (covers_false HZ.out hlt (stepCv_bad0 HX.out (okCv_no (by omega))))
              go_quiet ((go_at_call 82; exact quiet_left (l1In_any _ _ _ _)))
              go_wp2
              go_ret
              exact ⟨ret_bool HF.out.symm, below_drewN (BW.out.alloc BW.out.size _) _⟩
          have HQ := hide (okCv_yes h1 h2 (by omega))
          go_quiet ((go_at_call 82; exact quiet_left (l1In_any _ _ _ _)))
          go_wp2
          go_roundg (n - (k + 1))
          case measure => omega
          case rel => exact ⟨k + 1, by omega, by omega, by go_num, below_drewN (BW.out.alloc BW.out.size _) _, upto_succ A.out (stepCv_ok0 HX.out HQ.out HK.out)⟩
        · obtain ⟨y, hy, hyc⟩ := HAT.out (k - 1) (by rw [HZ.out]; omega)
          obtain ⟨_, p0, _⟩ := hyc wr BW.out
          clear hyc
          have k1 : 0 < k := by omega
          have k2 : (1 : Int) ≤ (k : Int) := by omega
          have k3 : (0 : Int) ≤ (k : Int) - 1 := by omega
          have k4 : (k : Int) - 1 < (n : Int) := by omega
          have k5 : IntKind.i64.wrap ((k : Int) - 1) = (k : Int) - 1 := IntWalk.i64_in _ (by omega)
          have k6 : ((k : Int) - 1).toNat = k - 1 := by omega
          have HY := hide (getB hy)
          clear hy
          by_cases hs : x.i ≤ y.i
          · have HF := hide (covers_false HZ.out hlt (stepCv_bad HX.out HY.out k1 hs))
            go_quiet ((go_at_call 82; exact quiet_left (l1In_any _ _ _ _)))
            go_wp2
            go_ret
            exact ⟨ret_bool HF.out.symm, below_drewN (BW.out.alloc BW.out.size _) _⟩
          · have hs2 : y.i < x.i := by omega
            rcases six x with s1 | ⟨s1, s2⟩ | ⟨s1, s2, s3⟩ | ⟨s1, s2, s3, s4⟩ | ⟨s1, s2, s3, s4, s5⟩ | ⟨s1, s2, s3, s4, s5, s6⟩ | ⟨s1, s2, s3, s4, s5, s6⟩
            iterate 6
              · have HF := hide (covers_false HZ.out hlt (stepCv_bad0 HX.out (okCv_no (by omega))))
                go_quiet ((go_at_call 82; exact quiet_left (l1In_any _ _ _ _)))
                go_wp2
                go_ret
                exact ⟨ret_bool HF.out.symm, below_drewN (BW.out.alloc BW.out.size _) _⟩
            have HQ := hide (okCv_yes h1 h2 (by omega))
            go_quiet ((go_at_call 82; exact quiet_left (l1In_any _ _ _ _)))
            go_wp2
            go_roundg (n - (k + 1))
            case measure => omega
            case rel => exact ⟨k + 1, by omega, by omega, by go_num, below_drewN (BW.out.alloc BW.out.size _) _, upto_succ A.out (stepCv_ok1 HX.out HY.out HQ.out hs2)⟩
    · have hge : ¬ (k : Int) < (n : Int) := by omega
      go_wp2
      go_ret
      exact ⟨ret_bool (by rw [covers_end HZ.out A.out (by omega), Bool.eq_iff_iff]; simp; omega), BW.out⟩

theorem sAreCovers_any (ao : Option Addr) (n c : Nat) (zs : List Cv) (w : World) (hz : zs.length = n) (hn : n ≤ 1048576) (hr : Rd encCv 6 w.heap.size w ao zs) :
    Calls Try.prog 41 #[.slice ao n c] w fun e w' => e = .returned (.bool (coversB zs)) ∧ Below w.heap.size w w' := by
  have H := hide (l12Good_any ao n c zs w hz hn hr)
  clear hz hr
  go_enter Try.func41, Try.ntmps41
  go_wp2_with fail
  refine H.out.mono ?_
  rintro e w' ⟨rfl, hb⟩
  go_wp2
  go_ret
  exact ⟨rfl, hb⟩

end Go.Proofs.Ytpdfbijfklmonaa
