/- FavoriteSheet: the reference. -/
import Derived.Test.YtojahihkoaabdaaN16
import Derived.Test.YtojahihkoaabdaaN3
import Derived.StillTailTactics
namespace Go.Proofs.Ytojahihkoaabdaa
open Go.RowKit
set_option linter.unusedVariables false
set_option linter.unusedSimpArgs false

set_option maxRecDepth 100000 in
set_option maxHeartbeats 2000000 in
theorem sFavoriteSheet_any (ao : Option Addr) (n c : Nat) (zs : List Ln) (w : World) (hz : zs.length = n) (hn : n ≤ 1048576) (hr : Rd encLn 5 w.heap.size w ao zs) :
    Calls Try.prog 6 #[.slice ao n c] w fun e w' => e = .returned (.tuple #[.int .i64 (favV zs), .bool (okFav zs)]) ∧ Below w.heap.size w w' := by
  have HZ := hide hz
  have HR := hide hr
  have HA := hide (l11Good_any ao n c zs w hz hn HR.out)
  clear hz hr
  have key : loansB zs = false ∨ (loansB zs = true ∧ n = 0) ∨ (loansB zs = true ∧ 0 < n) := by
    cases loansB zs
    · simp
    · simp; omega
  rcases key with h1 | ⟨h1, h2⟩ | ⟨h1, h2⟩
  · have HO : Hid (okFav zs = false) := hide (by simp [okFav, *])
    go_enter Try.func6, Try.ntmps6
    go_wp2_with fail
    refine HA.out.mono ?_
    rintro e w1 ⟨rfl, hb⟩
    rw [h1]
    have HB := hide hb
    clear hb
    go_wp2
    go_ret2
    exact ⟨ret_ib (by unfold favV; rw [HO.out]; rfl) HO.out.symm, HB.out⟩
  · have HO : Hid (okFav zs = false) := hide (by have := HZ.out; simp [okFav, *])
    subst h2
    go_enter Try.func6, Try.ntmps6
    go_wp2_with fail
    refine HA.out.mono ?_
    rintro e w1 ⟨rfl, hb⟩
    rw [h1]
    have HB := hide hb
    clear hb
    go_wp2
    go_ret2
    exact ⟨ret_ib (by unfold favV; rw [HO.out]; rfl) HO.out.symm, HB.out⟩
  have hn15 : n ≤ 15 := by rw [← HZ.out]; unfold loansB at h1; simp only [Bool.and_eq_true, decide_eq_true_eq] at h1; exact h1.2
  have HO : Hid (okFav zs = true) := hide (by have := HZ.out; simp [okFav, *]; omega)
  have HV : Hid (favV zs = (favK (shL zs) n).1) := hide (by unfold favV; rw [HO.out, HZ.out]; rfl)
  have hn0 : ¬ (n : Int) = 0 := by omega
  have hn0b : ((n : Int) == 0) = false := by simp; omega
  go_enter Try.func6, Try.ntmps6
  go_wp2_with fail
  refine HA.out.mono ?_
  rintro e w1 ⟨rfl, hb⟩
  rw [h1]
  have HB := hide hb
  have HR := hide (rd_step HR.out hb)
  clear hb HA
  go_wp2
  go_loopg [4, 5, 6] n (fun gk b m i wr => ∃ k : Nat, k ≤ n ∧ n - k ≤ gk ∧ i = .int .i64 k ∧ b = .int .i64 (favK (shL zs) k).1 ∧ m = .int .i64 ((favK (shL zs) k).2 : Nat) ∧ Aside (Below w1.heap.size w1 wr))
  case atStart => exact ⟨0, Nat.zero_le _, by omega, rfl, rfl, rfl, Below.refl _ _⟩
  case round =>
    obtain ⟨k, hk, hgk, rfl, rfl, rfl, BW⟩ := hrel
    by_cases hlt : k < n
    · have hltz : (k : Int) < (n : Int) := by omega
      have hk0 : (0 : Int) ≤ (k : Int) := by omega
      obtain ⟨b, off, rfl, hb1, hat⟩ := rdLn HR.out (by rw [HZ.out]; omega)
      obtain ⟨x, hx, hxc⟩ := hat k (by rw [HZ.out]; exact hlt)
      have HXS := hide (favK_succ (sh_at hx))
      have HXC := hide hxc
      have HAT := hide hat
      clear hx hxc hat
      obtain ⟨v0, hv0⟩ : ∃ v0, v0 = wr := ⟨_, rfl⟩
      subst hv0
      go_wp2
      go_loopg [7, 8] n (fun g2 q i wr2 => ∃ j : Nat, j ≤ n ∧ n - j ≤ g2 ∧ i = .int .i64 j ∧ q = .int .i64 (cntK zs x.s j : Nat) ∧ Aside (Below w1.heap.size w1 wr2))
      case atStart => exact ⟨0, Nat.zero_le _, by omega, rfl, by simp [cntK], BW⟩
      case round =>
        clear BW
        obtain ⟨j, hj, hgj, rfl, rfl, BW⟩ := hrel
        have bq := cnt_le zs x.s j
        by_cases hlj : j < n
        · have hljz : (j : Int) < (n : Int) := by omega
          have hj0 : (0 : Int) ≤ (j : Int) := by omega
          obtain ⟨y, hy, hyc⟩ := HAT.out j (by rw [HZ.out]; exact hlj)
          have HY := hide hy
          obtain ⟨_, c0, _⟩ := HXC.out wr BW.out
          obtain ⟨hbr, d0, _⟩ := hyc wr BW.out
          clear hy hyc
          by_cases he : y.s = x.s
          · have HQ := hide (cnt_yes HY.out he)
            generalize hC : cntK zs x.s j = C at bq HQ
            have HC := hide hC
            clear hC
            have hd : (y.s == x.s) = true := by simp [he]
            have hd2 : decide (y.s = x.s) = true := by simp [he]
            rw [he] at d0
            have kw : IntKind.i64.wrap ((C : Int) + 1) = ((C + 1 : Nat) : Int) := by rw [IntWalk.i64_in _ (by omega)]; omega
            clear he hd hd2
            go_wp2_with fail
            go_quiet (fail)
            go_wp2
            go_roundg (n - (j + 1))
            case measure => omega
            case rel => exact ⟨j + 1, by omega, by omega, by go_num, (by rw [HQ.out] <;> first | rfl | simp | (congr 1)), below_drewN BW.out _⟩
          · have HQ := hide (cnt_no HY.out he)
            generalize hC : cntK zs x.s j = C at bq HQ
            have HC := hide hC
            clear hC
            have hd : (y.s == x.s) = false := by simp [he]
            have hd2 : decide (y.s = x.s) = false := by simp [he]
            go_wp2_with fail
            go_quiet (fail)
            go_wp2
            go_roundg (n - (j + 1))
            case measure => omega
            case rel => exact ⟨j + 1, by omega, by omega, by go_num, by rw [HQ.out], below_drewN BW.out _⟩
        · have hljz : ¬ (j : Int) < (n : Int) := by omega
          obtain ⟨_, c0, _⟩ := HXC.out wr BW.out
          have HCA := hide (cnt_all (zs := zs) (s := x.s) (k := j) (by rw [HZ.out]; omega))
          generalize hB : favK (shL zs) k = B at HXS
          have HBB := hide hB
          clear hB
          obtain ⟨b0, m0⟩ := B
          dsimp only
          generalize hC : cntK zs x.s j = C at bq HCA
          clear hC
          have HNX : Hid (favK (shL zs) (k + 1) = if m0 < C ∨ (C = m0 ∧ x.s < b0) then (x.s, C) else (b0, m0)) := hide (by rw [HXS.out]; unfold favStep; rw [← HCA.out])
          have cs : (m0 < C) ∨ (¬ m0 < C ∧ C = m0 ∧ x.s < b0) ∨ (¬ m0 < C ∧ C = m0 ∧ ¬ x.s < b0) ∨ (¬ m0 < C ∧ C ≠ m0) := by omega
          rcases cs with h | ⟨h, h5, h6⟩ | ⟨h, h5, h6⟩ | ⟨h, h5⟩
          · have HN : Hid (favK (shL zs) (k + 1) = (x.s, C)) := hide (by rw [HNX.out, if_pos (Or.inl h)])
            have hz1 : (m0 : Int) < (C : Int) := by omega
            clear h
            go_wp2
            go_roundg (n - (k + 1))
            case measure => omega
            case rel => exact ⟨k + 1, by omega, by omega, by go_num, by rw [HN.out], by rw [HN.out], BW.out⟩
          · have HN : Hid (favK (shL zs) (k + 1) = (x.s, C)) := hide (by rw [HNX.out, if_pos (Or.inr ⟨h5, h6⟩)])
            have hz1 : ¬ (m0 : Int) < (C : Int) := by omega
            have hz2 : (C : Int) = (m0 : Int) := by omega
            subst h5
            clear h
            go_wp2
            go_roundg (n - (k + 1))
            case measure => omega
            case rel => exact ⟨k + 1, by omega, by omega, by go_num, by rw [HN.out], by rw [HN.out], BW.out⟩
          · have HN : Hid (favK (shL zs) (k + 1) = (b0, m0)) := hide (by rw [HNX.out, if_neg (by omega)])
            have hz1 : ¬ (m0 : Int) < (C : Int) := by omega
            have hz2 : (C : Int) = (m0 : Int) := by omega
            subst h5
            clear h
            go_wp2
            go_roundg (n - (k + 1))
            case measure => omega
            case rel => exact ⟨k + 1, by omega, by omega, by go_num, by rw [HN.out], by rw [HN.out], BW.out⟩
          · have HN : Hid (favK (shL zs) (k + 1) = (b0, m0)) := hide (by rw [HNX.out, if_neg (by omega)])
            have hz1 : ¬ (m0 : Int) < (C : Int) := by omega
            have hz2 : ¬ (C : Int) = (m0 : Int) := by omega
            have hz3 : (((C : Int)) == (m0 : Int)) = false := by simp; omega
            clear h
            go_wp2
            go_roundg (n - (k + 1))
            case measure => omega
            case rel => exact ⟨k + 1, by omega, by omega, by go_num, by rw [HN.out], by rw [HN.out], BW.out⟩
    · have hltz : ¬ (k : Int) < (n : Int) := by omega
      obtain rfl : k = n := by omega
      go_wp2
      go_ret2
      exact ⟨ret_ib HV.out.symm HO.out.symm, bl_step HB.out BW.out⟩

end Go.Proofs.Ytojahihkoaabdaa
