/- PartLeft, PaidBy, EarnedBy and their references. -/
import Derived.Test.YtpghdjehagamlaaR8
namespace Go.Proofs.Ytpghdjehagamlaa
open Go.RowKit

def okPL (rz : List Rt) (zs : List Cp) (s rd dy : Int) : Bool := lawful rz zs && inB s 1 999 && inB rd 1 999 && inB dy 0 4000
def partV (rz : List Rt) (zs : List Cp) (s rd dy : Int) : Int := if okPL rz zs s rd dy then leftV rz zs s rd dy else 0
def okOne (rz : List Rt) (zs : List Cp) (s : Int) : Bool := lawful rz zs && inB s 1 999
def earnedV (rz : List Rt) (zs : List Cp) (s : Int) : Int := if okOne rz zs s then earnV rz zs s else 0
def paidV (rz : List Rt) (zs : List Cp) (r : Int) : Int := if okOne rz zs r then sumI (costV rz) (isRd r) zs else 0

set_option maxRecDepth 100000 in
theorem PartLeft_any (ro : Option Addr) (m d : Nat) (rz : List Rt) (ao : Option Addr) (n c : Nat) (zs : List Cp) (s : Int) (rd : Int) (dy : Int) (w : World) (hrz : rz.length = m) (hm : m ≤ 1048576) (hrr : Rd encRt 4 w.heap.size w ro rz) (hz : zs.length = n) (hn : n ≤ 1048576) (hr : Rd encCp 4 w.heap.size w ao zs) :
    Calls Try.prog 22 #[.slice ro m d, .slice ao n c, .int .i64 s, .int .i64 rd, .int .i64 dy] w fun e w' => e = .returned (.tuple #[.int .i64 (partV rz zs s rd dy), .bool (okPL rz zs s rd dy)]) ∧ Below w.heap.size w w' := by
  have HZ := hide hz
  have HR := hide hr
  have HRZ := hide hrz
  have HRR := hide hrr
  clear hz hr hrz hrr
  have HA := hide (AreLawful_any ro m d rz ao n c zs w HRZ.out hm HRR.out HZ.out hn HR.out)
  rcases first4 (lawful rz zs) (inB s 1 999) (inB rd 1 999) (inB dy 0 4000) with h1 | ⟨h1, h2⟩ | ⟨h1, h2, h3⟩ | ⟨h1, h2, h3, h4⟩ | ⟨h1, h2, h3, h4⟩
  iterate 4
    · have HO : Hid (okPL rz zs s rd dy = false) := hide (by simp [okPL, *])
      go_enter Try.func22, Try.ntmps22
      go_wp2_with fail
      refine HA.out.mono ?_
      rintro e w1 ⟨rfl, hb⟩
      have HB := hide hb
      clear hb
      go_wp2_with (first | (go_at_call 64; refine (isId_any _ _).mono ?_; rintro e w' ⟨rfl, rfl⟩) | (go_at_call 65; refine (isDay_any _ _).mono ?_; rintro e w' ⟨rfl, rfl⟩))
      go_ret2
      exact ⟨ret_ib (by unfold partV; rw [HO.out]; rfl) HO.out.symm, HB.out⟩
  · have HO : Hid (okPL rz zs s rd dy = true) := hide (by simp [okPL, *])
    go_enter Try.func22, Try.ntmps22
    go_wp2_with fail
    refine HA.out.mono ?_
    rintro e w1 ⟨rfl, hb⟩
    have HRR1 := hide (rd_step HRR.out hb)
    have HR1 := hide (rd_step HR.out hb)
    have HB := hide hb
    clear hb HA
    go_wp2_with (first | (go_at_call 64; refine (isId_any _ _).mono ?_; rintro e w' ⟨rfl, rfl⟩) | (go_at_call 65; refine (isDay_any _ _).mono ?_; rintro e w' ⟨rfl, rfl⟩))
    refine (partLeft_any _ _ _ rz _ _ _ zs _ _ _ _ HRZ.out hm HRR1.out HZ.out hn HR1.out).mono ?_
    rintro e w2 ⟨rfl, hb2⟩
    have HB2 := hide (bl_step HB.out hb2)
    clear hb2
    go_wp2
    go_ret2
    exact ⟨ret_ib (by unfold partV; rw [HO.out]; rfl) HO.out.symm, HB2.out⟩

set_option maxRecDepth 100000 in
theorem EarnedBy_any (ro : Option Addr) (m d : Nat) (rz : List Rt) (ao : Option Addr) (n c : Nat) (zs : List Cp) (s : Int) (w : World) (hrz : rz.length = m) (hm : m ≤ 1048576) (hrr : Rd encRt 4 w.heap.size w ro rz) (hz : zs.length = n) (hn : n ≤ 1048576) (hr : Rd encCp 4 w.heap.size w ao zs) :
    Calls Try.prog 39 #[.slice ro m d, .slice ao n c, .int .i64 s] w fun e w' => e = .returned (.tuple #[.int .i64 (earnedV rz zs s), .bool (okOne rz zs s)]) ∧ Below w.heap.size w w' := by
  have HZ := hide hz
  have HR := hide hr
  have HRZ := hide hrz
  have HRR := hide hrr
  clear hz hr hrz hrr
  have HA := hide (AreLawful_any ro m d rz ao n c zs w HRZ.out hm HRR.out HZ.out hn HR.out)
  rcases first2 (lawful rz zs) (inB s 1 999) with h1 | ⟨h1, h2⟩ | ⟨h1, h2⟩
  iterate 2
    · have HO : Hid (okOne rz zs s = false) := hide (by simp [okOne, *])
      go_enter Try.func39, Try.ntmps39
      go_wp2_with fail
      refine HA.out.mono ?_
      rintro e w1 ⟨rfl, hb⟩
      have HB := hide hb
      clear hb
      go_wp2_with (go_at_call 64; refine (isId_any _ _).mono ?_; rintro e w' ⟨rfl, rfl⟩)
      go_ret2
      exact ⟨ret_ib (by unfold earnedV; rw [HO.out]; rfl) HO.out.symm, HB.out⟩
  · have HO : Hid (okOne rz zs s = true) := hide (by simp [okOne, *])
    go_enter Try.func39, Try.ntmps39
    go_wp2_with fail
    refine HA.out.mono ?_
    rintro e w1 ⟨rfl, hb⟩
    have HRR1 := hide (rd_step HRR.out hb)
    have HR1 := hide (rd_step HR.out hb)
    have HB := hide hb
    clear hb HA
    go_wp2_with (go_at_call 64; refine (isId_any _ _).mono ?_; rintro e w' ⟨rfl, rfl⟩)
    refine (earnedBy_any _ _ _ rz _ _ _ zs _ _ HRZ.out hm HRR1.out HZ.out hn HR1.out).mono ?_
    rintro e w2 ⟨rfl, hb2⟩
    have HB2 := hide (bl_step HB.out hb2)
    clear hb2
    go_wp2
    go_ret2
    exact ⟨ret_ib (by unfold earnedV; rw [HO.out]; rfl) HO.out.symm, HB2.out⟩

set_option maxRecDepth 100000 in
theorem sPartLeft_any (ro : Option Addr) (m d : Nat) (rz : List Rt) (ao : Option Addr) (n c : Nat) (zs : List Cp) (s : Int) (rd : Int) (dy : Int) (w : World) (hrz : rz.length = m) (hm : m ≤ 1048576) (hrr : Rd encRt 4 w.heap.size w ro rz) (hz : zs.length = n) (hn : n ≤ 1048576) (hr : Rd encCp 4 w.heap.size w ao zs) :
    Calls Try.prog 28 #[.slice ro m d, .slice ao n c, .int .i64 s, .int .i64 rd, .int .i64 dy] w fun e w' => e = .returned (.tuple #[.int .i64 (partV rz zs s rd dy), .bool (okPL rz zs s rd dy)]) ∧ Below w.heap.size w w' := by
  have HZ := hide hz
  have HR := hide hr
  have HRZ := hide hrz
  have HRR := hide hrr
  clear hz hr hrz hrr
  have HA := hide (l14Good0_any ro m d rz ao n c zs w HRZ.out hm HRR.out HZ.out hn HR.out)
  rcases first4 (lawful rz zs) (inB s 1 999) (inB rd 1 999) (inB dy 0 4000) with h1 | ⟨h1, h2⟩ | ⟨h1, h2, h3⟩ | ⟨h1, h2, h3, h4⟩ | ⟨h1, h2, h3, h4⟩
  iterate 4
    · have HO : Hid (okPL rz zs s rd dy = false) := hide (by simp [okPL, *])
      go_enter Try.func28, Try.ntmps28
      go_wp2_with fail
      refine HA.out.mono ?_
      rintro e w1 ⟨rfl, hb⟩
      have HB := hide hb
      clear hb
      go_wp2_with (first | (go_at_call 71; refine (l14Id_any _ _).mono ?_; rintro e w' ⟨rfl, rfl⟩) | (go_at_call 73; refine (l2Day_any _ _).mono ?_; rintro e w' ⟨rfl, rfl⟩))
      go_ret2
      exact ⟨ret_ib (by unfold partV; rw [HO.out]; rfl) HO.out.symm, HB.out⟩
  · have HO : Hid (okPL rz zs s rd dy = true) := hide (by simp [okPL, *])
    go_enter Try.func28, Try.ntmps28
    go_wp2_with fail
    refine HA.out.mono ?_
    rintro e w1 ⟨rfl, hb⟩
    have HRR1 := hide (rd_step HRR.out hb)
    have HR1 := hide (rd_step HR.out hb)
    have HB := hide hb
    clear hb HA
    go_wp2_with (first | (go_at_call 71; refine (l14Id_any _ _).mono ?_; rintro e w' ⟨rfl, rfl⟩) | (go_at_call 73; refine (l2Day_any _ _).mono ?_; rintro e w' ⟨rfl, rfl⟩))
    refine (l14Left_any _ _ _ rz _ _ _ zs _ _ _ _ HRZ.out hm HRR1.out HZ.out hn HR1.out).mono ?_
    rintro e w2 ⟨rfl, hb2⟩
    have HB2 := hide (bl_step HB.out hb2)
    clear hb2
    go_wp2
    go_ret2
    exact ⟨ret_ib (by unfold partV; rw [HO.out]; rfl) HO.out.symm, HB2.out⟩

set_option maxRecDepth 100000 in
theorem PaidBy_any (ro : Option Addr) (m d : Nat) (rz : List Rt) (ao : Option Addr) (n c : Nat) (zs : List Cp) (s : Int) (w : World) (hrz : rz.length = m) (hm : m ≤ 1048576) (hrr : Rd encRt 4 w.heap.size w ro rz) (hz : zs.length = n) (hn : n ≤ 1048576) (hr : Rd encCp 4 w.heap.size w ao zs) :
    Calls Try.prog 38 #[.slice ro m d, .slice ao n c, .int .i64 s] w fun e w' => e = .returned (.tuple #[.int .i64 (paidV rz zs s), .bool (okOne rz zs s)]) ∧ Below w.heap.size w w' := by
  have eg : ∀ args w, (callFunc 87 args).run Try.prog w = .ok (.enter 87 args) w := enters_at Try.func87 (by kernel_rfl) rfl
  have HZ := hide hz
  have HRZ := hide hrz
  obtain ⟨W, hW⟩ : ∃ W, W = w.alloc (.cells #[.int .i64 s] 3) := ⟨_, rfl⟩
  have HR : Hid (Rd encCp 4 W.heap.size W ao zs) := hide (by rw [hW]; exact (hr.alloc _).mono (by simp))
  have HRR : Hid (Rd encRt 4 W.heap.size W ro rz) := hide (by rw [hW]; exact (hrr.alloc _).mono (by simp))
  have g0 : w.heap.size < W.heap.size := by rw [hW]; simp
  have e0 : W.cell? ⟨w.heap.size, 0, none⟩ = some (.int .i64 s) := by rw [hW]; simp
  have HBW : Hid (Below w.heap.size w W) := hide (by rw [hW]; exact (Below.refl _ _).alloc (Nat.le_refl _) _)
  have HW := hide hW
  clear hz hrz hr hrr hW
  have HA := hide (AreLawful_any ro m d rz ao n c zs W HRZ.out hm HRR.out HZ.out hn HR.out)
  rcases first2 (lawful rz zs) (inB s 1 999) with h1 | ⟨h1, h2⟩ | ⟨h1, h2⟩
  iterate 2
    · have HO : Hid (okOne rz zs s = false) := hide (by simp [okOne, *])
      go_enter Try.func38, Try.ntmps38
      go_wp2_with fail
      rw [← HW.out]
      refine HA.out.mono ?_
      rintro e w1 ⟨rfl, hb⟩
      have q0 : w1.cell? ⟨w.heap.size, 0, none⟩ = some (.int .i64 s) := (hb.cell (p := ⟨w.heap.size, 0, none⟩) g0).trans e0
      have HB := hide hb
      clear hb e0
      go_wp2_with (go_at_call 64; refine (isId_any _ _).mono ?_; rintro e w' ⟨rfl, rfl⟩)
      go_ret2
      exact ⟨ret_ib (by unfold paidV; rw [HO.out]; rfl) HO.out.symm, HBW.out.trans (Below.mono HB.out HBW.out.size)⟩
  · have HO : Hid (okOne rz zs s = true) := hide (by simp [okOne, *])
    go_enter Try.func38, Try.ntmps38
    go_wp2_with fail
    rw [← HW.out]
    refine HA.out.mono ?_
    rintro e w1 ⟨rfl, hb⟩
    have q0 : w1.cell? ⟨w.heap.size, 0, none⟩ = some (.int .i64 s) := (hb.cell (p := ⟨w.heap.size, 0, none⟩) g0).trans e0
    have HRR1 := hide (rd_step HRR.out hb)
    have HR1 := hide (rd_step HR.out hb)
    have HK := hide (keepRd s w.heap.size w1 (Nat.lt_of_lt_of_le g0 hb.size) q0)
    have HB := hide hb
    clear hb HA e0
    go_wp2_with (go_at_call 64; refine (isId_any _ _).mono ?_; rintro e w' ⟨rfl, rfl⟩)
    refine (costOf_any 87 #[.pointer (some ⟨w.heap.size, 0, none⟩)] (isRd s) eg _ _ _ rz _ _ _ zs _ HRZ.out hm HRR1.out HZ.out hn HR1.out HK.out).mono ?_
    rintro e w2 ⟨rfl, hb2⟩
    have HB2 := hide (bl_step HB.out hb2)
    clear hb2 eg
    go_wp2
    go_ret2
    exact ⟨ret_ib (by unfold paidV; rw [HO.out]; rfl) HO.out.symm, HBW.out.trans (Below.mono HB2.out HBW.out.size)⟩

set_option maxRecDepth 100000 in
theorem sPaidBy_any (ro : Option Addr) (m d : Nat) (rz : List Rt) (ao : Option Addr) (n c : Nat) (zs : List Cp) (s : Int) (w : World) (hrz : rz.length = m) (hm : m ≤ 1048576) (hrr : Rd encRt 4 w.heap.size w ro rz) (hz : zs.length = n) (hn : n ≤ 1048576) (hr : Rd encCp 4 w.heap.size w ao zs) :
    Calls Try.prog 50 #[.slice ro m d, .slice ao n c, .int .i64 s] w fun e w' => e = .returned (.tuple #[.int .i64 (paidV rz zs s), .bool (okOne rz zs s)]) ∧ Below w.heap.size w w' := by
  have HZ := hide hz
  have HR := hide hr
  have HRZ := hide hrz
  have HRR := hide hrr
  clear hz hr hrz hrr
  have HA := hide (l14Good0_any ro m d rz ao n c zs w HRZ.out hm HRR.out HZ.out hn HR.out)
  rcases first2 (lawful rz zs) (inB s 1 999) with h1 | ⟨h1, h2⟩ | ⟨h1, h2⟩
  iterate 2
    · have HO : Hid (okOne rz zs s = false) := hide (by simp [okOne, *])
      go_enter Try.func50, Try.ntmps50
      go_wp2_with fail
      refine HA.out.mono ?_
      rintro e w1 ⟨rfl, hb⟩
      have HB := hide hb
      clear hb
      go_wp2_with (go_at_call 71; refine (l14Id_any _ _).mono ?_; rintro e w' ⟨rfl, rfl⟩)
      go_ret2
      exact ⟨ret_ib (by unfold paidV; rw [HO.out]; rfl) HO.out.symm, HB.out⟩
  have HO : Hid (okOne rz zs s = true) := hide (by simp [okOne, *])
  go_enter Try.func50, Try.ntmps50
  go_wp2_with fail
  refine HA.out.mono ?_
  rintro e w1 ⟨rfl, hb⟩
  rw [h1]
  have HB := hide hb
  clear hb HA h1
  go_wp2_with (go_at_call 71; refine (l14Id_any _ _).mono ?_; rintro e w' ⟨rfl, rfl⟩)
  go_loopg [8, 9] n (fun gk t i wr => ∃ k : Nat, k ≤ n ∧ n - k ≤ gk ∧ i = .int .i64 k ∧ t = .int .i64 (sumI (costV rz) (isRd s) (zs.take k)) ∧ Aside (Below w.heap.size w wr))
  case atStart => exact ⟨0, Nat.zero_le _, by omega, rfl, by rw [sum_zero], HB.out⟩
  case round =>
    obtain ⟨k, hk, hg, rfl, rfl, BW⟩ := hrel
    by_cases hlt : k < n
    · have hltz : (k : Int) < (n : Int) := by omega
      obtain ⟨b, off, rfl, hb1, hat⟩ := rdCp HR.out (by rw [HZ.out]; omega)
      obtain ⟨x, hx, hxc⟩ := hat k (by rw [HZ.out]; exact hlt)
      have HX := hide hx
      obtain ⟨hbr, c0, c1, c2, c3⟩ := hxc wr BW.out
      clear hx hxc hat
      generalize ht : sumI (costV rz) (isRd s) (zs.take k) = t
      have HT := hide ht
      clear ht
      cases hq : (x.r == s) with
      | true =>
        have HQ : Hid (isRd s x = true) := hide hq
        go_wp2_with fail
        refine (l14Cost_any _ _ _ rz x _ HRZ.out hm (rd_step HRR.out BW.out)).mono ?_
        rintro e w3 ⟨rfl, hb⟩
        have HB3 := hide (bl_step BW.out hb)
        clear hb
        generalize hv : costV rz x = v
        have HV := hide hv
        clear hv
        go_wp2
        go_roundg (n - (k + 1))
        case measure => omega
        case rel => exact ⟨k + 1, by omega, by omega, by go_num, by rw [sum_yes HX.out HQ.out, HT.out, HV.out], HB3.out⟩
      | false =>
        have HQ : Hid (isRd s x = false) := hide hq
        go_wp2
        go_roundg (n - (k + 1))
        case measure => omega
        case rel => exact ⟨k + 1, by omega, by omega, by go_num, by rw [sum_no HX.out HQ.out, HT.out], BW.out⟩
    · have hltz : ¬ (k : Int) < (n : Int) := by omega
      go_wp2
      go_ret2
      exact ⟨ret_ib (by unfold paidV; rw [HO.out, sum_all (by rw [HZ.out]; omega)]; rfl) HO.out.symm, BW.out⟩

end Go.Proofs.Ytpghdjehagamlaa
