/- IsAtlas: the reference. -/
import Derived.Test.YtdgalehipgdhiaaDoorA1
namespace Go.Proofs.YtdgalehipgdhiaaDoor
open Go.RowKit
set_option linter.unusedVariables false
set_option linter.unusedSimpArgs false

theorem place_1 {r c : Int} (h2 : inB r 0 99 = false) : placeB r c = false := by unfold placeB; rw [h2]; rfl
theorem place_2 {r c : Int} (h3 : inB c 0 99 = false) : placeB r c = false := by unfold placeB; rw [h3]; simp
theorem place_3 {r c : Int} (h2 : inB r 0 99 = true) (h3 : inB c 0 99 = true) : placeB r c = true := by unfold placeB; rw [h2, h3]; rfl
set_option maxRecDepth 100000 in
set_option maxHeartbeats 400000 in
theorem l13Good_any (ao : Option Addr) (n : Nat) (zs : List Pg) (w : World) (hz : zs.length = n) (hn : n ≤ 1048576) (hr : Rd encPg 4 w.heap.size w ao zs) :
    Calls Tryd.prog 34 #[.slice ao n n] w fun e w' => e = .returned (.bool (atlasB zs)) ∧ Below w.heap.size w w' := by
  have HZ := hide hz
  have HR := hide hr
  clear hz hr
  go_enter Tryd.func34, Tryd.ntmps34
  go_wp2
  go_loopg [3] n (fun gk i wr => ∃ k : Nat, k ≤ n ∧ n - k ≤ gk ∧ i = .int .i64 k ∧ Aside (Below w.heap.size w wr) ∧ Aside (∀ j, j < k → stepPg zs j = true))
  case atStart => exact ⟨0, Nat.zero_le _, by omega, rfl, Below.refl _ _, fun j hj => absurd hj (Nat.not_lt_zero _)⟩
  case round =>
    obtain ⟨k, hk, hg, rfl, BW, A⟩ := hrel
    by_cases hlt : k < n
    · have hlti : (k : Int) < (n : Int) := by omega
      by_cases h12 : k ≤ 12
      · have h12i : (k : Int) ≤ 12 := by omega
        obtain ⟨b, off, rfl, hb1, hat⟩ := rdPg HR.out (by rw [HZ.out]; omega)
        obtain ⟨x, hx, hxc⟩ := hat k (by rw [HZ.out]; exact hlt)
        have HX := hide (getB hx)
        have HT := hide (idx_take hx)
        obtain ⟨hbr, c0, c1, c2, c3⟩ := hxc wr BW.out
        have k5 : IntKind.i64.wrap ((k : Int) + 1) = (k : Int) + 1 := IntWalk.i64_in _ (by omega)
        clear hx hxc hat
        have hkn : k ≤ 1048576 := by omega
        have HTL : Hid ((zs.take k).length = k) := hide (by rw [List.length_take, HZ.out]; omega)
        go_wp2_with fail
        obtain ⟨W, hW⟩ : ∃ W, W = wr.alloc (.cells #[.int .i64 x.n, .int .i64 x.r, .int .i64 x.c, .int .i64 x.l] 58) := ⟨_, rfl⟩
        have HBW : Hid (Below w.heap.size w W) := hide (by rw [hW]; exact BW.out.alloc BW.out.size _)
        have e0 : W.cell? ⟨wr.heap.size, 0, none⟩ = some (.int .i64 x.n) := by rw [hW]; simp
        have e1 : W.cell? ⟨wr.heap.size, 1, none⟩ = some (.int .i64 x.r) := by rw [hW]; simp
        have e2 : W.cell? ⟨wr.heap.size, 2, none⟩ = some (.int .i64 x.c) := by rw [hW]; simp
        have e3 : W.cell? ⟨wr.heap.size, 3, none⟩ = some (.int .i64 x.l) := by rw [hW]; simp
        rw [← hW]
        clear hW c0 c1 c2 c3
        have HRT : Hid (Rd encPg 4 W.heap.size W (some ⟨b, off, none⟩) (zs.take k)) := hide ((rd_step HR.out HBW.out).take k)
        by_cases hn1 : x.n = (k : Int) + 1
        · rw [hn1] at e0
          have HN := hide hn1
          clear hn1
          rcases first3 (inB x.r 0 99) (inB x.c 0 99) (inB x.l 0 40) with h2 | ⟨h2, h3⟩ | ⟨h2, h3, h4⟩ | ⟨h2, h3, h4⟩
          iterate 3
            · have HF : Hid (atlasB zs = false) := hide (atlas_false HZ.out hlt HX.out (by unfold okPg; simp only [HN.out, *]; simp))
              first | have hp := place_1 (c := x.c) h2 | have hp := place_2 (r := x.r) h3 | have hp := place_3 h2 h3
              go_quiet ((first | (go_at_call 32; exact quiet_left (l13Place_any _ _ _)) | (go_at_call 33; exact quiet_left (l1In_any _ _ _ _)) | (go_at_call 53; exact quiet_left (l13At_any _ k n (zs.take k) _ _ _ HTL.out hkn (rd_step HRT.out (below_drewN (Below.refl _ _) _))))))
              go_wp2
              go_ret
              exact ⟨ret_bool HF.out.symm, below_drewN HBW.out _⟩
          · have hp := place_3 h2 h3
            rcases HT.out with ⟨hi, hj⟩ | ⟨hi, hj⟩
            · have HF : Hid (atlasB zs = false) := hide (atlas_false HZ.out hlt HX.out (by unfold okPg; simp [hj]))
              have d1 : decide (0 ≤ idxB (isP x.r x.c) (zs.take k)) = true := by simp [hi]
              clear hj
              go_quiet ((first | (go_at_call 32; exact quiet_left (l13Place_any _ _ _)) | (go_at_call 33; exact quiet_left (l1In_any _ _ _ _)) | (go_at_call 53; exact quiet_left (l13At_any _ k n (zs.take k) _ _ _ HTL.out hkn (rd_step HRT.out (below_drewN (Below.refl _ _) _))))))
              go_wp2
              go_ret
              exact ⟨ret_bool HF.out.symm, below_drewN HBW.out _⟩
            · have HOK : Hid (okPg zs k x = true) := hide (by unfold okPg; simp only [h2, h3, h4, HN.out, hj]; simp)
              have d1 : decide (0 ≤ idxB (isP x.r x.c) (zs.take k)) = false := by simp [hi]
              clear hj
              go_quiet ((first | (go_at_call 32; exact quiet_left (l13Place_any _ _ _)) | (go_at_call 33; exact quiet_left (l1In_any _ _ _ _)) | (go_at_call 53; exact quiet_left (l13At_any _ k n (zs.take k) _ _ _ HTL.out hkn (rd_step HRT.out (below_drewN (Below.refl _ _) _))))))
              go_wp2
              go_roundg (n - (k + 1))
              case measure => omega
              case rel => exact ⟨k + 1, by omega, by omega, by go_num, below_drewN HBW.out _, upto_succ A.out (step_ok HX.out HOK.out)⟩
        · have HF : Hid (atlasB zs = false) := hide (atlas_false HZ.out hlt HX.out (by unfold okPg; simp [hn1]))
          have d1 : decide (x.n = (k : Int) + 1) = false := by simp [hn1]
          have d2 : (x.n == (k : Int) + 1) = false := by simp [hn1]
          have d3 : (x.n != (k : Int) + 1) = true := by simp [hn1]
          go_quiet ((first | (go_at_call 32; exact quiet_left (l13Place_any _ _ _)) | (go_at_call 33; exact quiet_left (l1In_any _ _ _ _)) | (go_at_call 53; exact quiet_left (l13At_any _ k n (zs.take k) _ _ _ HTL.out hkn (rd_step HRT.out (below_drewN (Below.refl _ _) _))))))
          go_wp2
          go_ret
          exact ⟨ret_bool HF.out.symm, below_drewN HBW.out _⟩
      · have h12i : ¬ (k : Int) ≤ 12 := by omega
        have hn12 : ¬ (n : Int) ≤ 12 := by omega
        have HF := hide (atlas_long HZ.out (show 12 < n by omega))
        go_wp2
        go_ret
        exact ⟨ret_bool HF.out.symm, BW.out⟩
    · have hge : ¬ (k : Int) < (n : Int) := by omega
      go_wp2
      go_ret
      exact ⟨ret_bool (by rw [atlas_end HZ.out A.out (by omega), Bool.eq_iff_iff]; simp; omega), BW.out⟩

theorem sIsAtlas_any (ao : Option Addr) (n : Nat) (zs : List Pg) (w : World) (hz : zs.length = n) (hn : n ≤ 1048576) (hr : Rd encPg 4 w.heap.size w ao zs) :
    Calls Tryd.prog 23 #[.slice ao n n] w fun e w' => e = .returned (.bool (atlasB zs)) ∧ Below w.heap.size w w' := by
  have H := hide (l13Good_any ao n zs w hz hn hr)
  clear hz hr
  go_enter Tryd.func23, Tryd.ntmps23
  go_wp2_with fail
  refine H.out.mono ?_
  rintro e w' ⟨rfl, hb⟩
  go_wp2
  go_ret
  exact ⟨rfl, hb⟩

end Go.Proofs.YtdgalehipgdhiaaDoor
