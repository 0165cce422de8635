/- BestOrder: the reference. -/
import Derived.Test.YtdgalehipgdhiaaG3
import Derived.Test.YtdgalehipgdhiaaA11g
namespace Go.Proofs.Ytdgalehipgdhiaa
open Go.RowKit
set_option linter.unusedVariables false
set_option linter.unusedSimpArgs false

set_option maxRecDepth 100000 in
set_option maxHeartbeats 1000000 in
theorem sBestOrderC_any (ao : Option Addr) (n c : Nat) (zs : List Pg) (hcap : n ≤ c) (w : World) (hz : zs.length = n) (hn : n ≤ 1048576) (hr : Rd encPg 4 w.heap.size w ao zs) :
    Calls Try.prog 17 #[.slice ao n c] w fun e w' => ∃ v, e = .returned (.tuple #[v, .int .i64 (lstV zs), .bool (okBO zs)]) ∧ w'.ownsRow w.heap.size 3 1 v (ordV zs).length ((ordV zs).flatMap encI) ∧ Below w.heap.size w w' := by
  have HZ := hide hz
  have HR := hide hr
  have HA := hide (l13GoodC_any ao n c zs hcap w hz hn hr)
  clear hz hr
  rcases first2 (atlasB zs) (decide (n ≤ 6)) with h1 | ⟨h1, h2⟩ | ⟨h1, h2⟩
  · have HO : Hid (okBO zs = false) := hide (by unfold okBO; rw [h1]; rfl)
    have HC : Hid (ordV zs = []) := hide (by unfold ordV; rw [HO.out]; rfl)
    have HL : Hid (lstV zs = 0) := hide (by unfold lstV; rw [HO.out]; rfl)
    have H1 := hide h1
    clear h1
    go_enter Try.func17, Try.ntmps17
    go_wp2_with fail
    refine HA.out.mono ?_
    rintro e w1 ⟨rfl, hb⟩
    rw [H1.out]
    have HB := hide hb
    clear hb HA
    go_wp2
    go_ret3
    exact ⟨_, ret_vib HL.out.symm HO.out.symm, by rw [HC.out]; exact World.ownsRow_made _ #[] 0 HB.out.size (by simp [maxLen]) rfl, HB.out.alloc HB.out.size _⟩
  · have HO : Hid (okBO zs = false) := hide (by unfold okBO; rw [HZ.out, h2]; simp)
    have HC : Hid (ordV zs = []) := hide (by unfold ordV; rw [HO.out]; rfl)
    have HL : Hid (lstV zs = 0) := hide (by unfold lstV; rw [HO.out]; rfl)
    have h6 : (6 : Int) < (n : Int) := by have := of_decide_eq_false h2; omega
    have H1 := hide h1
    clear h1 h2
    go_enter Try.func17, Try.ntmps17
    go_wp2_with fail
    refine HA.out.mono ?_
    rintro e w1 ⟨rfl, hb⟩
    rw [H1.out]
    have HB := hide hb
    clear hb HA
    go_wp2
    go_ret3
    exact ⟨_, ret_vib HL.out.symm HO.out.symm, by rw [HC.out]; exact World.ownsRow_made _ #[] 0 HB.out.size (by simp [maxLen]) rfl, HB.out.alloc HB.out.size _⟩
  · have h6n : n ≤ 6 := of_decide_eq_true h2
    have HO : Hid (okBO zs = true) := hide (by unfold okBO; rw [HZ.out, h1, h2]; rfl)
    have HC : Hid (ordV zs = numO (seekV zs).1) := hide (by unfold ordV; rw [HO.out]; rfl)
    have HL : Hid (lstV zs = (seekV zs).2) := hide (by unfold lstV; rw [HO.out]; rfl)
    have h6 : ¬ (6 : Int) < (n : Int) := by omega
    have HSV : Hid (seekO zs zs.length n [] 0 7 = seekV zs) := hide (by unfold seekV; rw [HZ.out])
    have H1 := hide h1
    clear h1 h2
    go_enter Try.func17, Try.ntmps17
    go_wp2_with fail
    refine HA.out.mono ?_
    rintro e w1 ⟨rfl, hb⟩
    rw [H1.out]
    obtain ⟨w2, hw2⟩ : ∃ w2, w2 = w1.alloc (.cells #[] 3) := ⟨_, rfl⟩
    obtain ⟨g, hg⟩ : ∃ g, g = w1.heap.size := ⟨_, rfl⟩
    have HB2 : Hid (Below w.heap.size w w2) := hide (by rw [hw2]; exact hb.alloc hb.size _)
    have HC2 := hide (l13Best_any ao n c zs HZ.out h6n H1.out n [] ⟨g, 0, none⟩ 0 0 0 7 w2 (rd_step HR.out HB2.out) ⟨by simp, by simp⟩ (by simp) rfl (.inl (by simp [numO])) (Int.le_refl _) (by omega))
    rw [HSV.out] at HC2
    have HW := hide hw2
    have HG := hide hg
    clear hb HA hw2 hg
    go_wp2_with fail
    rw [← HG.out, ← HW.out]
    refine HC2.out.mono ?_
    rintro e w3 ⟨v, rfl, ho, hb⟩
    have HB3 := hide (bl_step HB2.out hb)
    have HLO : Hid ((ordV zs).length = (seekV zs).1.length) := hide (by rw [HC.out, numO_len])
    have HO3 : Hid (w3.ownsRow w.heap.size 3 1 v (ordV zs).length ((ordV zs).flatMap encI)) := hide (by rw [HLO.out, HC.out]; exact own_baseG ho HB2.out.size)
    clear ho hb HC2
    go_wp2
    go_ret3
    exact ⟨_, ret_vib HL.out.symm HO.out.symm, HO3.out, HB3.out⟩
theorem sBestOrder_any (ao : Option Addr) (n : Nat) (zs : List Pg) (w : World) (hz : zs.length = n) (hn : n ≤ 1048576) (hr : Rd encPg 4 w.heap.size w ao zs) :
    Calls Try.prog 17 #[.slice ao n n] w fun e w' => ∃ v, e = .returned (.tuple #[v, .int .i64 (lstV zs), .bool (okBO zs)]) ∧ w'.ownsRow w.heap.size 3 1 v (ordV zs).length ((ordV zs).flatMap encI) ∧ Below w.heap.size w w' := sBestOrderC_any ao n n zs (Nat.le_refl n) w hz hn hr

end Go.Proofs.Ytdgalehipgdhiaa
