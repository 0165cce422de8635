/- IsAtlas: the program. -/
import Derived.Test.YtdgalehipgdhiaaDoorA1
namespace Go.Proofs.YtdgalehipgdhiaaDoor
open Go.RowKit
set_option linter.unusedVariables false
set_option linter.unusedSimpArgs false

set_option maxRecDepth 100000 in
set_option maxHeartbeats 1000000 in
theorem IsAtlas_any (ao : Option Addr) (n c : Nat) (zs : List Pg) (w : World) (hz : zs.length = n) (hn : n ≤ 1048576) (hr : Rd encPg 4 w.heap.size w ao zs) :
    Calls Tryd.prog 22 #[.slice ao n c] w fun e w' => e = .returned (.bool (atlasB zs)) ∧ Below w.heap.size w w' := by
  have HZ := hide hz
  have HR := hide hr
  clear hz hr
  go_enter Tryd.func22, Tryd.ntmps22
  go_wp2
  go_loopg [7] n (fun gk i wr => ∃ k : Nat, k ≤ n ∧ n - k ≤ gk ∧ i = .int .i64 k ∧ Aside (Below w.heap.size w wr) ∧ Aside (∀ j, j < k → stepPg zs j = true))
  case atStart => exact ⟨0, Nat.zero_le _, by omega, rfl, Below.refl _ _, fun j hj => absurd hj (Nat.not_lt_zero _)⟩
  case round =>
    obtain ⟨k, hk, hg, rfl, BW, A⟩ := hrel
    by_cases hlt : k < n
    · have hlti : (k : Int) < (n : Int) := by omega
      obtain ⟨b, off, rfl, hb1, hat⟩ := rdPg HR.out (by rw [HZ.out]; omega)
      obtain ⟨x, hx, hxc⟩ := hat k (by rw [HZ.out]; exact hlt)
      have HX := hide (getB hx)
      have HT := hide (idx_take hx)
      obtain ⟨hbr, c0, c1, c2, c3⟩ := hxc wr BW.out
      have k5 : IntKind.i64.wrap ((k : Int) + 1) = (k : Int) + 1 := IntWalk.i64_in _ (by omega)
      clear hx hxc hat
      by_cases hn1 : x.n = (k : Int) + 1
      · rcases first3 (inB x.r 0 99) (inB x.c 0 99) (inB x.l 0 40) with h2 | ⟨h2, h3⟩ | ⟨h2, h3, h4⟩ | ⟨h2, h3, h4⟩
        iterate 3
          · have HF : Hid (atlasB zs = false) := hide (atlas_false HZ.out hlt HX.out (by unfold okPg; simp only [*]; simp))
            go_wp2_with (first | (go_at_call 29; refine (isGrid_any _ _).mono ?_; rintro e w' ⟨rfl, rfl⟩) | (go_at_call 30; refine (within_any _ _ _ _).mono ?_; rintro e w' ⟨rfl, rfl⟩))
            go_ret
            exact ⟨ret_bool HF.out.symm, BW.out.alloc BW.out.size _⟩
        · by_cases hi : idxB (isP x.r x.c) zs = (k : Int)
          · have HOK : Hid (okPg zs k x = true) := hide (by unfold okPg; simp only [h2, h3, h4, hn1, hi]; simp)
            have HI := hide hi
            clear hi
            go_wp2_with (first | (go_at_call 29; refine (isGrid_any _ _).mono ?_; rintro e w' ⟨rfl, rfl⟩) | (go_at_call 30; refine (within_any _ _ _ _).mono ?_; rintro e w' ⟨rfl, rfl⟩))
            refine (pageOn_any _ n c zs _ _ _ HZ.out hn (rd_step HR.out (BW.out.alloc BW.out.size _))).mono ?_
            rintro e w2 ⟨rfl, hb⟩
            rw [HI.out]
            have HB2 := hide (bl_step (BW.out.alloc BW.out.size _) hb)
            clear hb
            go_wp2
            go_roundg (n - (k + 1))
            case measure => omega
            case rel => exact ⟨k + 1, by omega, by omega, by go_num, HB2.out, upto_succ A.out (step_ok HX.out HOK.out)⟩
          · have HF : Hid (atlasB zs = false) := hide (atlas_false HZ.out hlt HX.out (by unfold okPg; simp [hi]))
            go_wp2_with (first | (go_at_call 29; refine (isGrid_any _ _).mono ?_; rintro e w' ⟨rfl, rfl⟩) | (go_at_call 30; refine (within_any _ _ _ _).mono ?_; rintro e w' ⟨rfl, rfl⟩))
            refine (pageOn_any _ n c zs _ _ _ HZ.out hn (rd_step HR.out (BW.out.alloc BW.out.size _))).mono ?_
            rintro e w2 ⟨rfl, hb⟩
            have HB2 := hide (bl_step (BW.out.alloc BW.out.size _) hb)
            clear hb
            go_wp2
            go_ret
            exact ⟨ret_bool HF.out.symm, HB2.out⟩
      · have HF : Hid (atlasB zs = false) := hide (atlas_false HZ.out hlt HX.out (by unfold okPg; simp [hn1]))
        go_wp2_with (first | (go_at_call 29; refine (isGrid_any _ _).mono ?_; rintro e w' ⟨rfl, rfl⟩) | (go_at_call 30; refine (within_any _ _ _ _).mono ?_; rintro e w' ⟨rfl, rfl⟩))
        go_ret
        exact ⟨ret_bool HF.out.symm, BW.out.alloc BW.out.size _⟩
    · have hge : ¬ (k : Int) < (n : Int) := by omega
      go_wp2
      go_ret
      exact ⟨ret_bool (by rw [atlas_end HZ.out A.out (by omega), Bool.eq_iff_iff]; simp; omega), BW.out⟩

end Go.Proofs.YtdgalehipgdhiaaDoor
