/- ExtendRight on rights of whatever address. -/
import Derived.Test.YtpghdjehagamlaaRC
import Derived.Test.YtpghdjehagamlaaRD
namespace Go.Proofs.Ytpghdjehagamlaa
open Go.RowKit
set_option linter.unusedVariables false
set_option linter.unusedSimpArgs false

set_option maxRecDepth 100000 in
set_option maxHeartbeats 1000000 in
theorem ExtendRightN_any (ro : Option Addr) (m d : Nat) (rz : List Rt) (ao : Option Addr) (n c : Nat) (zs : List Cp) (s y : Int) (w : World) (hrz : rz.length = m) (hm : m ≤ 1048576) (hrr : Rd encRt 4 w.heap.size w ro rz) (hz : zs.length = n) (hn : n ≤ 1048576) (hr : Rd encCp 4 w.heap.size w ao zs) (hneg : rtI rz s = -1) :
    Calls Try.prog 45 #[.slice ro m d, .slice ao n c, .int .i64 s, .int .i64 y] w fun e w' => ∃ v, e = .returned (.tuple #[v, .bool (okExt rz zs s y)]) ∧ w'.ownsRow w.heap.size 72 4 v (extV rz zs s y).length ((extV rz zs s y).flatMap encRt) ∧ Below w.heap.size w w' := by
  have HZ := hide hz
  have HR := hide hr
  have HRZ := hide hrz
  have HRR := hide hrr
  clear hz hr hrz hrr
  have HL := hide (rightOf_any ro m d rz s w HRZ.out hm HRR.out)
  have HN : Hid (okExt rz zs s y = false → extV rz zs s y = []) := hide (fun h => by unfold extV; rw [h]; rfl)
  have hinf := infoRt
  obtain ⟨i0, hi, hz0, hz1, hz2⟩ := info_parts hinf
  clear hinf
  have HI0 := hide (And.intro hi (And.intro hz0 (And.intro hz1 hz2)))
  clear hi hz0 hz1 hz2
  have hi := hneg
  have HO : Hid (okExt rz zs s y = false) := hide (by unfold okExt; rw [hi]; simp)
  have HC := hide (HN.out HO.out)
  have HI := hide hi
  clear hi hneg
  cases h1 : lawful rz zs
  all_goals
    go_enter Try.func45, Try.ntmps45
    go_wp2_with fail
    refine HL.out.mono ?_
    rintro e w1 ⟨rfl, hb⟩
    rw [show idxB (isS s) rz = rtI rz s from rfl, HI.out]
    have HB := hide hb
    clear hb
    go_wp2_with fail
    refine (AreLawful_any (ro) m d rz ao n c zs _ HRZ.out hm (rd_step HRR.out HB.out) HZ.out hn (rd_step HR.out HB.out)).mono ?_
    rintro e w2 ⟨rfl, hb⟩
    rw [h1]
    have HB2 := hide (bl_step HB.out hb)
    clear hb
    go_wp2
    go_ret2
    exact ⟨_, ret_vb HO.out.symm, by rw [HC.out]; exact World.ownsRow_nil _ _ _ _, HB2.out⟩
theorem ExtendRightO_any (ro : Option Addr) (m d : Nat) (rz : List Rt) (ao : Option Addr) (n c : Nat) (zs : List Cp) (s y : Int) (w : World) (hrz : rz.length = m) (hm : m ≤ 1048576) (hrr : Rd encRt 4 w.heap.size w ro rz) (hz : zs.length = n) (hn : n ≤ 1048576) (hr : Rd encCp 4 w.heap.size w ao zs) :
    Calls Try.prog 45 #[.slice ro m d, .slice ao n c, .int .i64 s, .int .i64 y] w fun e w' => ∃ v, e = .returned (.tuple #[v, .bool (okExt rz zs s y)]) ∧ w'.ownsRow w.heap.size 72 4 v (extV rz zs s y).length ((extV rz zs s y).flatMap encRt) ∧ Below w.heap.size w w' := by
  cases ro with
  | some a => exact ExtendRight_any a m d rz ao n c zs s y w hrz hm hrr hz hn hr
  | none =>
    have h0 : rz = [] := by
      rcases hrr with h | ⟨b, off, h, _⟩
      · exact h
      · cases h
    exact ExtendRightN_any none m d rz ao n c zs s y w hrz hm hrr hz hn hr (by rw [h0]; rfl)

set_option maxRecDepth 100000 in
set_option maxHeartbeats 1000000 in
theorem sExtendRightN_any (ro : Option Addr) (m d : Nat) (rz : List Rt) (ao : Option Addr) (n c : Nat) (zs : List Cp) (s y : Int) (w : World) (hrz : rz.length = m) (hm : m ≤ 1048576) (hrr : Rd encRt 4 w.heap.size w ro rz) (hz : zs.length = n) (hn : n ≤ 1048576) (hr : Rd encCp 4 w.heap.size w ao zs) (hneg : rtI rz s = -1) :
    Calls Try.prog 46 #[.slice ro m d, .slice ao n c, .int .i64 s, .int .i64 y] w fun e w' => ∃ v, e = .returned (.tuple #[v, .bool (okExt rz zs s y)]) ∧ w'.ownsRow w.heap.size 72 4 v (extV rz zs s y).length ((extV rz zs s y).flatMap encRt) ∧ Below w.heap.size w w' := by
  have HZ := hide hz
  have HR := hide hr
  have HRZ := hide hrz
  have HRR := hide hrr
  clear hz hr hrz hrr
  have HL := hide (l14Find_any ro m d rz s w HRZ.out hm HRR.out)
  have HN : Hid (okExt rz zs s y = false → extV rz zs s y = []) := hide (fun h => by unfold extV; rw [h]; rfl)
  have hinf := infoRt
  obtain ⟨i0, hi, hz0, hz1, hz2⟩ := info_parts hinf
  clear hinf
  have HI0 := hide (And.intro hi (And.intro hz0 (And.intro hz1 hz2)))
  clear hi hz0 hz1 hz2
  have hi := hneg
  have HO : Hid (okExt rz zs s y = false) := hide (by unfold okExt; rw [hi]; simp)
  have HC := hide (HN.out HO.out)
  have HI := hide hi
  clear hi hneg
  cases h1 : lawful rz zs
  all_goals
    go_enter Try.func46, Try.ntmps46
    go_wp2_with fail
    refine HL.out.mono ?_
    rintro e w1 ⟨rfl, rfl⟩
    rw [show idxB (isS s) rz = rtI rz s from rfl, HI.out]
    go_wp2_with fail
    refine (l14Good0_any (ro) m d rz ao n c zs w HRZ.out hm HRR.out HZ.out hn HR.out).mono ?_
    rintro e w2 ⟨rfl, hb⟩
    rw [h1]
    have HB2 := hide hb
    clear hb
    go_wp2_with (go_at_call 73; refine (l2Day_any _ _).mono ?_; rintro e w' ⟨rfl, rfl⟩)
    go_ret2
    exact ⟨_, ret_vb HO.out.symm, by rw [HC.out]; exact World.ownsRow_made _ #[] 0 HB2.out.size (by simp [maxLen]) rfl, HB2.out.alloc HB2.out.size _⟩
theorem sExtendRightO_any (ro : Option Addr) (m d : Nat) (rz : List Rt) (ao : Option Addr) (n c : Nat) (zs : List Cp) (s y : Int) (w : World) (hrz : rz.length = m) (hm : m ≤ 1048576) (hrr : Rd encRt 4 w.heap.size w ro rz) (hz : zs.length = n) (hn : n ≤ 1048576) (hr : Rd encCp 4 w.heap.size w ao zs) :
    Calls Try.prog 46 #[.slice ro m d, .slice ao n c, .int .i64 s, .int .i64 y] w fun e w' => ∃ v, e = .returned (.tuple #[v, .bool (okExt rz zs s y)]) ∧ w'.ownsRow w.heap.size 72 4 v (extV rz zs s y).length ((extV rz zs s y).flatMap encRt) ∧ Below w.heap.size w w' := by
  cases ro with
  | some a => exact sExtendRight_any a m d rz ao n c zs s y w hrz hm hrr hz hn hr
  | none =>
    have h0 : rz = [] := by
      rcases hrr with h | ⟨b, off, h, _⟩
      · exact h
      · cases h
    exact sExtendRightN_any none m d rz ao n c zs s y w hrz hm hrr hz hn hr (by rw [h0]; rfl)

end Go.Proofs.Ytpghdjehagamlaa
