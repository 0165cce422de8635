/- LendSheet: the program. -/
import Derived.Test.YtomfmphbnngdnaaN7
import Derived.Test.YtomfmphbnngdnaaN2
namespace Go.Proofs.Ytomfmphbnngdnaa
open Go.RowKit
set_option linter.unusedVariables false
set_option linter.unusedSimpArgs false

set_option maxRecDepth 100000 in
set_option maxHeartbeats 1000000 in
theorem LendSheet_any (ao : Addr) (n : Nat) (zs : List Ln) (s r d k : Int) (w : World) (hz : zs.length = n) (hn : n ≤ 1048576) (hr : Rd encLn 5 w.heap.size w (some ao) zs) :
    Calls Try.prog 18 #[.slice (some ao) n n, .int .i64 s, .int .i64 r, .int .i64 d, .int .i64 k] w fun e w' => ∃ v, e = .returned (.tuple #[v, .bool (okLend zs s r d k)]) ∧ w'.ownsRow w.heap.size 48 5 v (lendV zs s r d k).length ((lendV zs s r d k).flatMap encLn) ∧ Below w.heap.size w w' := by
  have HZ := hide hz
  have HR := hide hr
  have HA := hide (AreLoans_any (some ao) n n zs (Nat.le_refl _) w hz hn hr)
  have hinf := infoLn
  obtain ⟨i0, hi, hz0, hz1, hz2⟩ := info_parts hinf
  clear hinf
  have HI := hide (And.intro hi (And.intro hz0 (And.intro hz1 hz2)))
  clear hi hz0 hz1 hz2 hz hr
  rcases first2 (loansB zs) (inB k 1 60) with h1 | ⟨h1, h2⟩ | ⟨h1, h2⟩
  iterate 2
    · have HO : Hid (okLend zs s r d k = false) := hide (by simp [okLend, *])
      have HC : Hid (lendV zs s r d k = []) := hide (by unfold lendV; rw [HO.out]; rfl)
      go_enter Try.func18, Try.ntmps18
      go_wp2_with fail
      refine HA.out.mono ?_
      rintro e w1 ⟨rfl, hb⟩
      have HB := hide hb
      clear hb
      go_wp2_with (first | (go_at_call 38; refine (isId_any _ _).mono ?_; rintro e w' ⟨rfl, rfl⟩) | (go_at_call 39; refine (isDay_any _ _).mono ?_; rintro e w' ⟨rfl, rfl⟩) | (go_at_call 43; refine (within_any _ _ _ _).mono ?_; rintro e w' ⟨rfl, rfl⟩))
      go_ret2
      exact ⟨_, ret_vb HO.out.symm, by rw [HC.out]; exact World.ownsRow_nil _ _ _ _, HB.out⟩
  · have HH1 := hide h1
    have HH2 := hide h2
    have h15 := loans_15 h1
    rw [HZ.out] at h15
    go_enter Try.func18, Try.ntmps18
    go_wp2_with fail
    refine HA.out.mono ?_
    rintro e w1 ⟨rfl, hb⟩
    have HB := hide hb
    clear hb HA
    go_wp2_with (first | (go_at_call 38; refine (isId_any _ _).mono ?_; rintro e w' ⟨rfl, rfl⟩) | (go_at_call 39; refine (isDay_any _ _).mono ?_; rintro e w' ⟨rfl, rfl⟩) | (go_at_call 43; refine (within_any _ _ _ _).mono ?_; rintro e w' ⟨rfl, rfl⟩))
    refine (CloneLoan_any ao n n zs _ HZ.out hn (rd_step HR.out HB.out)).mono ?_
    rintro e w2 ⟨v, rfl, ho, hb⟩
    have HB2 := hide (bl_step HB.out hb)
    have HO2 := hide (own_base ho HB.out.size)
    clear ho hb
    have hsz := HB2.out.size
    obtain ⟨hi, hz0, hz1, hz2⟩ := HI.out
    go_wp2_with (at_builtin; refine wpList_append_own _ rfl _ _ 26 rfl w.heap.size 48 i0 (.agg #[.int .i64 0, .int .i64 0, .int .i64 0, .int .i64 0, .int .i64 0]) 5 40 Try.underlying26 hi hz0 hz1 hz2 rfl (by decide) _ n _ rfl (HO2.out.alloc _) ⟨w2.heap.size, 0, none⟩ 1 1 [.int .i64 s, .int .i64 r, .int .i64 d, .int .i64 (wrap64 (d + k)), .int .i64 (-1)] rfl rfl ?c1 ?c2 ?c3 ?c4 ?c5 ?_)
    case c1 => exact news_at #[.int .i64 s, .int .i64 r, .int .i64 d, .int .i64 (wrap64 (d + k)), .int .i64 (-1)]
    case c2 => intro u hu; simp at hu; rcases hu with rfl | rfl | rfl | rfl | rfl <;> rfl
    case c3 => unfold maxLen; omega
    case c4 => omega
    case c5 => simp; omega
    intro v' w3 hown' hgrow _
    have HB3 := hide (bl_grown (HB2.out.alloc hsz _) (HO2.out.alloc _) (Nat.le_refl _) hgrow)
    have hown2 : w3.ownsRow w.heap.size 48 5 v' (n + 1) ((zs ++ [lendX s r d k]).flatMap encLn) := by rw [flat_snoc]; exact hown'
    have HLEN : Hid ((zs ++ [lendX s r d k]).length = n + 1) := hide (by simp [HZ.out])
    obtain ⟨ao2, c2, rfl, hc1, hc2, hrd⟩ := own_rd encLn_len hown2 HLEN.out
    have HRD := hide hrd
    have HC1 := hide hc1
    have HO3 := hide hown2
    clear hown' hown2 hgrow hrd hi hz0 hz1 hz2 hc1 hc2
    go_wp2_with fail
    refine (AreLoans_any ao2 (n + 1) c2 (zs ++ [lendX s r d k]) HC1.out _ HLEN.out (by omega) HRD.out).mono ?_
    rintro e w4 ⟨rfl, hb⟩
    have HB4 := hide (bl_step HB3.out hb)
    have HO4 := hide (own_step HO3.out hb)
    clear hb
    cases hq : loansB (zs ++ [lendX s r d k]) with
    | false =>
      have HO : Hid (okLend zs s r d k = false) := hide (by simp [okLend, hq])
      have HC : Hid (lendV zs s r d k = []) := hide (by unfold lendV; rw [HO.out]; rfl)
      clear hq
      go_wp2
      go_ret2
      exact ⟨_, ret_vb HO.out.symm, by rw [HC.out]; exact World.ownsRow_nil _ _ _ _, HB4.out⟩
    | true =>
      have HO : Hid (okLend zs s r d k = true) := hide (by simp [okLend, hq, HH1.out, HH2.out])
      have HC : Hid (lendV zs s r d k = zs ++ [lendX s r d k]) := hide (by unfold lendV; rw [HO.out]; rfl)
      clear hq
      go_wp2
      go_ret2
      exact ⟨_, ret_vb HO.out.symm, by rw [HC.out, HLEN.out]; exact HO4.out, HB4.out⟩

end Go.Proofs.Ytomfmphbnngdnaa
