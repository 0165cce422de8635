/- AreLawful: the reference answers lawful, too. -/
import Derived.Test.YtpghdjehagamlaaR6
namespace Go.Proofs.Ytpghdjehagamlaa
open Go.RowKit

set_option maxRecDepth 100000 in
set_option maxHeartbeats 1000000 in
theorem l14Good0_any (ro : Option Addr) (m d : Nat) (rz : List Rt) (ao : Option Addr) (n c : Nat) (zs : List Cp) (w : World) (hrz : rz.length = m) (hm : m ≤ 1048576) (hrr : Rd encRt 4 w.heap.size w ro rz) (hz : zs.length = n) (hn : n ≤ 1048576) (hr : Rd encCp 4 w.heap.size w ao zs) :
    Calls Try.prog 51 #[.slice ro m d, .slice ao n c] w fun e w' => e = .returned (.bool (lawful rz zs)) ∧ Below w.heap.size w w' := by
  have HZ := hide hz
  have HR := hide hr
  have HRZ := hide hrz
  have HRR := hide hrr
  clear hz hr hrz hrr
  have HA := hide (l14Rights_any ro m d rz w HRZ.out hm HRR.out)
  cases h0 : areR rz with
  | false =>
    have HO := hide (lawful_rights (cz := zs) h0)
    go_enter Try.func51, Try.ntmps51
    go_wp2_with fail
    refine HA.out.mono ?_
    rintro e w1 ⟨rfl, hb⟩
    have HB := hide hb
    clear hb
    go_wp2
    go_ret
    exact ⟨ret_bool HO.out.symm, HB.out⟩
  | true =>
  have H0 := hide h0
  by_cases hl : n ≤ 15
  rotate_left
  · have HO := hide (lawful_len (rz := rz) (cz := zs) (by rw [HZ.out]; exact hl))
    have hl2 : (15 : Int) < (n : Int) := by omega
    go_enter Try.func51, Try.ntmps51
    go_wp2_with fail
    refine HA.out.mono ?_
    rintro e w1 ⟨rfl, hb⟩
    have HB := hide hb
    clear hb
    go_wp2
    go_ret
    exact ⟨ret_bool HO.out.symm, HB.out⟩
  have hl2 : ¬ (15 : Int) < (n : Int) := by omega
  go_enter Try.func51, Try.ntmps51
  go_wp2_with fail
  refine HA.out.mono ?_
  rintro e w1 ⟨rfl, hb⟩
  have HB := hide hb
  clear hb h0
  rw [H0.out]
  go_wp2
  go_loopg [5] n (fun gk i wr => ∃ k : Nat, k ≤ n ∧ n - k ≤ gk ∧ i = .int .i64 k ∧ Aside (Below w.heap.size w wr) ∧ Aside (∀ j, j < k → stepC zs j = true))
  case atStart => exact ⟨0, Nat.zero_le _, by omega, rfl, HB.out, fun j hj => absurd hj (Nat.not_lt_zero _)⟩
  case round =>
    obtain ⟨k, hk, hg, rfl, BW, A⟩ := hrel
    by_cases hlt : k < n
    · have hlti : (k : Int) < (n : Int) := by omega
      obtain ⟨b, off, rfl, hb1, hat⟩ := rdCp HR.out (by rw [HZ.out]; omega)
      obtain ⟨x, hx, hxc⟩ := hat k (by rw [HZ.out]; exact hlt)
      have HX := hide (getB hx)
      obtain ⟨hbr, c0, c1, c2, c3⟩ := hxc wr BW.out
      have HAT := hide hat
      have HXC := hide hxc
      clear hx hxc hat
      go_wp2_with fail
      rcases first4 (inB x.s 1 999) (inB x.r 1 999) (inB x.d 0 4000) (inB x.p 1 100) with h1 | ⟨h1, h2⟩ | ⟨h1, h2, h3⟩ | ⟨h1, h2, h3, h4⟩ | ⟨h1, h2, h3, h4⟩
      iterate 4
        · have HF : Hid (lawful rz zs = false) := hide (lawful_step (by rw [HZ.out]; exact hlt) (stepC_bad0 HX.out (by simp [*])))
          go_quiet ((first | (go_at_call 71; exact quiet_left (l14Id_any _ _)) | (go_at_call 73; exact quiet_left (l2Day_any _ _)) | (go_at_call 78; exact quiet_left (l1In_any _ _ _ _))))
          go_wp2
          go_ret
          exact ⟨ret_bool HF.out.symm, below_drewN (BW.out.alloc BW.out.size _) _⟩
      · by_cases hk0 : k = 0
        · have k1 : decide (0 < k) = false := by simp [hk0]
          have HOK := hide (stepC_ok0 HX.out h1 h2 h3 h4 hk0)
          clear hk0
          go_quiet ((first | (go_at_call 71; exact quiet_left (l14Id_any _ _)) | (go_at_call 73; exact quiet_left (l2Day_any _ _)) | (go_at_call 78; exact quiet_left (l1In_any _ _ _ _))))
          go_wp2
          go_roundg (n - (k + 1))
          case measure => omega
          case rel => exact ⟨k + 1, by omega, by omega, by go_num, below_drewN (BW.out.alloc BW.out.size _) _, upto_succ A.out HOK.out⟩
        · obtain ⟨y, hy, hyc⟩ := HAT.out (k - 1) (by rw [HZ.out]; omega)
          obtain ⟨_, p0, p1, p2, p3⟩ := hyc wr BW.out
          clear hyc
          have k1 : 0 < k := by omega
          have k2 : (1 : Int) ≤ (k : Int) := by omega
          have k3 : (0 : Int) ≤ (k : Int) - 1 := by omega
          have k4 : (k : Int) - 1 < (n : Int) := by omega
          have k5 : IntKind.i64.wrap ((k : Int) - 1) = (k : Int) - 1 := IntWalk.i64_in _ (by omega)
          have k6 : ((k : Int) - 1).toNat = k - 1 := by omega
          have HY := hide (getB hy)
          clear hy
          by_cases hs : x.d < y.d
          · have HF : Hid (lawful rz zs = false) := hide (lawful_step (by rw [HZ.out]; exact hlt) (stepC_bad HX.out HY.out k1 hs))
            go_quiet ((first | (go_at_call 71; exact quiet_left (l14Id_any _ _)) | (go_at_call 73; exact quiet_left (l2Day_any _ _)) | (go_at_call 78; exact quiet_left (l1In_any _ _ _ _))))
            go_wp2
            go_ret
            exact ⟨ret_bool HF.out.symm, below_drewN (BW.out.alloc BW.out.size _) _⟩
          · have HOK := hide (stepC_ok1 HX.out HY.out h1 h2 h3 h4 (by omega))
            go_quiet ((first | (go_at_call 71; exact quiet_left (l14Id_any _ _)) | (go_at_call 73; exact quiet_left (l2Day_any _ _)) | (go_at_call 78; exact quiet_left (l1In_any _ _ _ _))))
            go_wp2
            go_roundg (n - (k + 1))
            case measure => omega
            case rel => exact ⟨k + 1, by omega, by omega, by go_num, below_drewN (BW.out.alloc BW.out.size _) _, upto_succ A.out HOK.out⟩
    · have hge : ¬ (k : Int) < (n : Int) := by omega
      have HA := hide (fun j (hj : j < zs.length) => A.out j (by rw [HZ.out] at hj; omega))
      have HBW := hide BW.out
      clear A BW hk hg hlt
      go_wp2
      go_loopg [7] n (fun gk i wr => ∃ k : Nat, k ≤ n ∧ n - k ≤ gk ∧ i = .int .i64 k ∧ Aside (Below w.heap.size w wr) ∧ Aside (∀ j, j < k → leftOk rz zs zs[j]! = true))
      case atStart => exact ⟨0, Nat.zero_le _, by omega, rfl, HBW.out, fun j hj => absurd hj (Nat.not_lt_zero _)⟩
      case round =>
        obtain ⟨k, hk, hg, rfl, BW, A⟩ := hrel
        by_cases hlt : k < n
        · have hlti : (k : Int) < (n : Int) := by omega
          obtain ⟨b, off, rfl, hb1, hat⟩ := rdCp HR.out (by rw [HZ.out]; omega)
          obtain ⟨x, hx, hxc⟩ := hat k (by rw [HZ.out]; exact hlt)
          have HX := hide (left_eq (rz := rz) (getB hx))
          obtain ⟨hbr, c0, c1, c2, c3⟩ := hxc wr BW.out
          clear hx hxc hat
          have HWN := hide (BW.out.alloc BW.out.size (.cells #[.int .i64 x.s, .int .i64 x.r, .int .i64 x.d, .int .i64 x.p] 34))
          go_wp2_with fail
          refine (l14Left_any _ _ _ rz _ _ _ zs _ _ _ _ HRZ.out hm (rd_step HRR.out HWN.out) HZ.out hn (rd_step HR.out HWN.out)).mono ?_
          rintro e w2 ⟨rfl, hb⟩
          have HB2 := hide (bl_step HWN.out hb)
          clear hb HWN
          generalize hv : leftV rz zs x.s x.r x.d = v
          have HV := hide hv
          clear hv
          by_cases hneg : v < 0
          · go_wp2
            go_ret
            exact ⟨ret_bool (lawful_left (by rw [HZ.out]; exact hlt) (by rw [HX.out, HV.out]; simp; omega)).symm, HB2.out⟩
          · go_wp2
            go_roundg (n - (k + 1))
            case measure => omega
            case rel => exact ⟨k + 1, by omega, by omega, by go_num, HB2.out, upto_succ A.out (by rw [HX.out, HV.out]; simp; omega)⟩
        · have hge : ¬ (k : Int) < (n : Int) := by omega
          go_wp2
          go_ret
          exact ⟨ret_bool (lawful_trueS H0.out (by rw [HZ.out]; exact hl) HA.out (fun j hj => A.out j (by rw [HZ.out] at hj; omega))).symm, BW.out⟩

theorem AreLawful_any (ro : Option Addr) (m d : Nat) (rz : List Rt) (ao : Option Addr) (n c : Nat) (zs : List Cp) (w : World) (hrz : rz.length = m) (hm : m ≤ 1048576) (hrr : Rd encRt 4 w.heap.size w ro rz) (hz : zs.length = n) (hn : n ≤ 1048576) (hr : Rd encCp 4 w.heap.size w ao zs) :
    Calls Try.prog 31 #[.slice ro m d, .slice ao n c] w fun e w' => e = .returned (.bool (lawful rz zs)) ∧ Below w.heap.size w w' := AreLawful0_any ro m d rz ao n c zs w hrz hm hrr hz hn hr
theorem sAreLawful_any (ro : Option Addr) (m d : Nat) (rz : List Rt) (ao : Option Addr) (n c : Nat) (zs : List Cp) (w : World) (hrz : rz.length = m) (hm : m ≤ 1048576) (hrr : Rd encRt 4 w.heap.size w ro rz) (hz : zs.length = n) (hn : n ≤ 1048576) (hr : Rd encCp 4 w.heap.size w ao zs) :
    Calls Try.prog 32 #[.slice ro m d, .slice ao n c] w fun e w' => e = .returned (.bool (lawful rz zs)) ∧ Below w.heap.size w w' := by
  have H := hide (l14Good0_any ro m d rz ao n c zs w hrz hm hrr hz hn hr)
  clear hrz hrr hz hr
  go_enter Try.func32, Try.ntmps32
  go_wp2_with fail
  refine H.out.mono ?_
  rintro e w' ⟨rfl, hb⟩
  go_wp2
  go_ret
  exact ⟨rfl, hb⟩

end Go.Proofs.Ytpghdjehagamlaa
