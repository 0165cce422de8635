/- OpenLoans: the reference. -/
import Derived.Test.YtojahihkoaabdaaN19S
import Derived.Test.YtojahihkoaabdaaN3
namespace Go.Proofs.Ytojahihkoaabdaa
open Go.RowKit
set_option linter.unusedVariables false
set_option linter.unusedSimpArgs false

set_option maxRecDepth 100000 in
set_option maxHeartbeats 2000000 in
theorem sOpenLoans_any (ao : Option Addr) (n c : Nat) (zs : List Ln) (rd d : Int) (w : World) (hz : zs.length = n) (hn : n ≤ 1048576) (hr : Rd encLn 5 w.heap.size w ao zs) :
    Calls Try.prog 10 #[.slice ao n c, .int .i64 rd, .int .i64 d] w fun e w' => ∃ v, e = .returned (.tuple #[v, .bool (okOpen zs rd d)]) ∧ w'.ownsRow w.heap.size 3 1 v (openV zs rd d).length ((openV zs rd d).flatMap encI) ∧ Below w.heap.size w w' := by
  obtain ⟨W, hW⟩ : ∃ W, W = w.alloc (.cells #[] 3) := ⟨_, rfl⟩
  have HBW : Hid (Below w.heap.size w W) := hide (by rw [hW]; exact (Below.refl _ _).alloc (Nat.le_refl _) _)
  have HE : Hid (W.ownsRow w.heap.size 3 1 (.slice (some ⟨w.heap.size, 0, none⟩) 0 0) 0 []) := hide (by rw [hW]; exact World.ownsRow_made w #[] 0 (Nat.le_refl _) (by simp [maxLen]) rfl)
  have HZ := hide hz
  have HR := hide (rd_step hr HBW.out)
  have HA := hide (l11Good_any ao n c zs W hz hn HR.out)
  have HW := hide hW
  clear hz hr hW
  rcases first3 (loansB zs) (inB rd 1 999) (inB d 0 4000) with h1 | ⟨h1, h2⟩ | ⟨h1, h2, h3⟩ | ⟨h1, h2, h3⟩
  iterate 3
    · have HO : Hid (okOpen zs rd d = false) := hide (by simp [okOpen, *])
      have HC : Hid (openV zs rd d = []) := hide (by unfold openV; rw [HO.out]; rfl)
      go_enter Try.func10, Try.ntmps10
      go_wp2_with fail
      rw [← HW.out]
      refine HA.out.mono ?_
      rintro e w1 ⟨rfl, hb⟩
      have HB := hide (bl_step HBW.out hb)
      have HE1 := hide (own_step HE.out hb)
      clear hb
      go_wp2_with (first | (go_at_call 22; refine (l11Id_any _ _).mono ?_; rintro e w' ⟨rfl, rfl⟩) | (go_at_call 23; refine (l2Day_any _ _).mono ?_; rintro e w' ⟨rfl, rfl⟩))
      go_ret2
      exact ⟨_, ret_vbL HO.out.symm, by rw [HC.out]; exact HE1.out, HB.out⟩
  have HO : Hid (okOpen zs rd d = true) := hide (by simp [okOpen, *])
  have HC : Hid (openV zs rd d = putsK zs rd d n) := hide (by unfold openV; rw [HO.out, putsK_end h1 (by rw [HZ.out]; exact Nat.le_refl _)]; rfl)
  have HH1 := hide h1
  have hn15 : n ≤ 15 := by rw [← HZ.out]; unfold loansB at h1; simp only [Bool.and_eq_true, decide_eq_true_eq] at h1; exact h1.2
  go_enter Try.func10, Try.ntmps10
  go_wp2_with fail
  rw [← HW.out]
  refine HA.out.mono ?_
  rintro e w1 ⟨rfl, hb⟩
  rw [h1]
  have HB := hide (bl_step HBW.out hb)
  have HE1 := hide (own_step HE.out hb)
  have HR := hide (rd_step HR.out hb)
  clear hb HA
  go_wp2_with (first | (go_at_call 22; refine (l11Id_any _ _).mono ?_; rintro e w' ⟨rfl, rfl⟩) | (go_at_call 23; refine (l2Day_any _ _).mono ?_; rintro e w' ⟨rfl, rfl⟩))
  go_loopg [8, 9] n (fun gk v i wr => ∃ k g cap L : Nat, k ≤ n ∧ n - k ≤ gk ∧ i = .int .i64 k ∧ v = .slice (some ⟨g, 0, none⟩) L cap ∧ L = (putsK zs rd d k).length ∧ L ≤ cap ∧ cap ≤ maxLen ∧ Aside (wr.ownsRow w.heap.size 3 1 (.slice (some ⟨g, 0, none⟩) L cap) L ((putsK zs rd d k).flatMap encI)) ∧ Aside (Below w1.heap.size w1 wr))
  case atStart => exact ⟨0, _, 0, 0, Nat.zero_le _, by omega, rfl, rfl, by rw [putsK_zero]; rfl, Nat.le_refl _, by simp [maxLen], by rw [putsK_zero]; exact HE1.out, Below.refl _ _⟩
  case round =>
    obtain ⟨k, g, cap, L, hk, hg, rfl, rfl, hL, hLc, hcm, OW, BW⟩ := hrel
    by_cases hlt : k < n
    · have hltz : (k : Int) < (n : Int) := by omega
      have hk0 : (0 : Int) ≤ (k : Int) := by omega
      obtain ⟨b, off, rfl, hb1, hat⟩ := rdLn HR.out (by rw [HZ.out]; omega)
      obtain ⟨x, hx, hxc⟩ := hat k (by rw [HZ.out]; exact hlt)
      have HX := hide hx
      have HOE : Hid (openS x d = openB x d) := hide (open_eq (loans_at HH1.out hx) d)
      have HXC := hide hxc
      obtain ⟨hbr, c0, c1, c2, c3, c4⟩ := hxc wr BW.out
      have HL := hide hL
      have hLb := putsK_len zs rd d k
      rw [← hL] at hLb
      clear hx hxc hat hL
      cases hr : (x.r == rd) with
      | false =>
        have HQ : Hid (keepO rd d x = false) := hide (by unfold keepO; rw [hr]; rfl)
        go_wp2
        go_roundg (n - (k + 1))
        case measure => omega
        case rel => exact ⟨k + 1, g, cap, L, by omega, by omega, by go_num, rfl, by rw [putsK_no HX.out HQ.out]; exact HL.out, hLc, hcm, by rw [putsK_no HX.out HQ.out]; exact OW.out, BW.out⟩
      | true =>
        go_wp2_with fail
        refine (l11IsOpen_any x d _).mono ?_
        rintro e w2 ⟨rfl, hb⟩
        rw [HOE.out]
        have OW2 : Aside (w2.ownsRow w.heap.size 3 1 (.slice (some ⟨g, 0, none⟩) L cap) L ((putsK zs rd d k).flatMap encI)) := own_step OW.out hb
        have BW2 : Aside (Below w1.heap.size w1 w2) := bl_step BW.out hb
        obtain ⟨_, f0, _⟩ := HXC.out w2 BW2.out
        have hsz : w.heap.size ≤ w2.heap.size := Nat.le_trans HB.out.size BW2.out.size
        clear hb OW BW c0 c1 c2 c3 c4
        cases hq : openB x d with
        | false =>
          have HQ : Hid (keepO rd d x = false) := hide (by unfold keepO; rw [hr, hq]; rfl)
          go_wp2
          go_roundg (n - (k + 1))
          case measure => omega
          case rel => exact ⟨k + 1, g, cap, L, by omega, by omega, by go_num, rfl, by rw [putsK_no HX.out HQ.out]; exact HL.out, hLc, hcm, by rw [putsK_no HX.out HQ.out]; exact OW2.out, BW2.out⟩
        | true =>
          have HQ : Hid (keepO rd d x = true) := hide (by unfold keepO; rw [hr, hq]; rfl)
          go_wp2_with fail
          refine (l1Put_any w.heap.size g L cap (putsK zs rd d k) x.s w2 HL.out.symm (by omega) hLc hcm OW2.out hsz).mono ?_
          rintro e w3 ⟨⟨g', cap'⟩, rfl, h4, h5, ho, hb⟩
          rw [← putsK_yes HX.out HQ.out] at h4 ho ⊢
          have HO3 := hide ho
          have HB3 := hide (bl_step BW2.out hb)
          clear ho hb
          generalize hL2 : (putsK zs rd d (k + 1)).length = L2 at h4 HO3
          have HL2 := hide hL2
          clear hL2
          dsimp only at h4 h5 HO3 ⊢
          go_wp2
          go_roundg (n - (k + 1))
          case measure => omega
          case rel => exact ⟨k + 1, g', cap', L2, by omega, by omega, by go_num, rfl, HL2.out.symm, h4, h5, HO3.out, HB3.out⟩
    · have hltz : ¬ (k : Int) < (n : Int) := by omega
      obtain rfl : k = n := by omega
      have HL := hide hL
      clear hL
      go_wp2
      go_ret2
      exact ⟨_, ret_vbL HO.out.symm, by rw [HC.out, ← HL.out]; exact OW.out, bl_step HB.out BW.out⟩

end Go.Proofs.Ytojahihkoaabdaa
