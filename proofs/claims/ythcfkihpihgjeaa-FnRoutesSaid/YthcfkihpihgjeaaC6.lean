/- Routes drawn. -/
import Derived.Test.YthcfkihpihgjeaaC5
import Derived.Test.YthcfkihpihgjeaaC3
import Derived.Test.YthcfkihpihgjeaaT9
namespace Go.Proofs.Ythcfkihpihgjeaa
open Go.RowKit
set_option linter.unusedVariables false
set_option linter.unusedSimpArgs false

set_option maxRecDepth 100000 in
set_option maxHeartbeats 2000000 in
theorem draw_route_any (B g m : Nat) (w : World) (hc : Cur B w g m) (hm : m ≤ 100000) :
    Calls Try.prog 73 #[.pointer (some ⟨g, 0, none⟩)] w fun e w' => ∃ v, ∃ zs : List Lg, e = .returned v ∧ zs.length ≤ 13 ∧ w'.ownsRow w.heap.size 65 3 v zs.length (zs.flatMap encLg) ∧ Cur B w' g (m + 300) ∧ w.grownBy w' (some g) := by
  have HC := hide hc
  have hg0 := hc.lt
  have hB0 := hc.base
  clear hc
  obtain ⟨i0, hi, hz0, hz1, hz2⟩ := info_parts infoLg
  have HI := hide (And.intro hi (And.intro hz0 (And.intro hz1 hz2)))
  clear hi hz0 hz1 hz2
  go_enter Try.func73, Try.ntmps73
  go_wp2_with fail
  refine (pick_any B g m 6 _ (HC.out.alloc _) (by omega) (by omega) (by omega)).mono ?_
  rintro e w1 ⟨a, rfl, a0, a1, hc, hg⟩
  have HC := hide hc
  have HO := hide (own_gr (World.ownsRow_made (e := 65) (size := 3) w #[] 0 (Nat.le_refl _) (by simp [maxLen]) (by simp)) hg hg0)
  have HG := hide (gr_trans (gr_alloc (gr_refl w (some g)) _) hg)
  clear hc hg
  obtain ⟨K, rfl⟩ : ∃ K : Nat, a = (K : Int) := ⟨a.toNat, by omega⟩
  have hK : K ≤ 5 := by omega
  clear a0 a1
  go_wp2_with fail
  go_loopg [3, 4] K (fun gk v i wr => ∃ k : Nat, k ≤ K ∧ k ≤ gk ∧ i = .int .i64 k ∧ Aside (Cur B wr g (m + 2 + 30 * (K - k))) ∧ Aside (w.grownBy wr (some g)) ∧ Aside (∃ zs : List Lg, zs.length ≤ K - k ∧ wr.ownsRow w.heap.size 65 3 v zs.length (zs.flatMap encLg)))
  case atStart => exact ⟨K, Nat.le_refl _, Nat.le_refl _, rfl, HC.out.mono (by omega), HG.out, ⟨[], by simp, HO.out⟩⟩
  case round =>
    obtain ⟨k, hk, hgk, rfl, CW, GW, OW⟩ := hrel
    obtain ⟨zs, hzl, ho⟩ := OW.out
    obtain ⟨L, hL⟩ : ∃ L, L = zs.length := ⟨_, rfl⟩
    rw [← hL] at ho hzl
    obtain ⟨ao, cc, rfl, hcc, hcm, _⟩ := own_rd encLg_len ho hL.symm
    have HO := hide ho
    have HLL := hide hL
    clear OW ho hL HC HG
    have hgw := GW.out.size
    by_cases hk0 : 0 < k
    · have hk1 : (0 : Int) < (k : Int) := by omega
      go_wp2_with fail
      refine (draw_leg_any B g _ _ CW.out (by omega)).mono ?_
      rintro e w2 ⟨x, rfl, hc, hg⟩
      have HC := hide hc
      have HG := hide (gr_trans GW.out hg)
      have HO2 := hide (own_gr HO.out hg hg0)
      have hgw2 := hg.size
      clear hc hg
      by_cases hl1 : 0 < L
      · have hl2 : (0 : Int) < (L : Int) := by omega
        go_wp2_with fail
        refine (one_any B g _ 3 _ (HC.out.alloc _) (by omega) (by omega) (by omega)).mono ?_
        rintro e w3 ⟨b, rfl, hc, hg⟩
        have HX := hide (Blk.gr (Blk.new w2 65 _) hg (by have := HC.out.lt; omega))
        have HG := hide (gr_trans (gr_alloc HG.out _) hg)
        have HO3 := hide (own_gr (HO2.out.alloc _) hg hg0)
        have HLT := hide (own_ltN HO2.out (Nat.le_refl _))
        have hgw3 := hg.size
        simp only [World.size_alloc] at hgw3
        have HC := hide hc
        clear hc hg
        have x0 := HX.out.cell 0
        have x1 := HX.out.cell 1
        have x2 := HX.out.cell 2
        have y0 := HX.out.frozen 0
        simp only [List.getElem?_toArray, List.getElem?_cons_zero, List.getElem?_cons_succ] at x0 x1 x2
        cases b with
        | false =>
          obtain ⟨hi, hz0, hz1, hz2⟩ := HI.out
          go_wp2_with (at_builtin; refine wpList_append_own _ rfl _ _ 22 rfl w.heap.size 65 i0 (.agg #[.int .i64 0, .int .i64 0, .int .i64 0]) 3 24 Try.underlying22 hi hz0 hz1 hz2 rfl (by decide) _ L _ rfl (HO3.out.alloc _) ⟨w3.heap.size, 0, none⟩ 1 1 (encLg (Lg.mk x.w x.u x.c)) rfl rfl ?c1 ?c2 ?c3 ?c4 ?c5 ?_)
          case c1 => exact news_atN #[.int .i64 x.w, .int .i64 x.u, .int .i64 x.c] (by simp)
          case c2 => exact encLg_one _
          case c3 => unfold maxLen; omega
          case c4 => omega
          case c5 => simp; omega
          intro v' w4 hown' hgrow _
          have HC := hide (cur_app (HC.out.alloc _) (HO3.out.alloc _) hgrow hg0)
          have HG := hide (gr_app (gr_alloc HG.out _) (HO3.out.alloc _) hgrow (Nat.le_refl _))
          have HO4 := hide hown'
          clear hown' hgrow hi hz0 hz1 hz2
          go_wp2
          go_roundg (k - 1)
          case measure => omega
          case rel => exact ⟨k - 1, by omega, by omega, by congr 1; omega, HC.out.mono (by omega), HG.out, ⟨zs ++ [Lg.mk x.w x.u x.c], by rw [List.length_append, ← HLL.out]; simp; omega, by rw [flat_snoc, List.length_append, ← HLL.out]; exact HO4.out⟩⟩

        | true =>
          have hrd := own_rd' encLg_len HO3.out HLL.out.symm
          obtain ⟨b1, off1, rfl, hbl, hat⟩ := rdLg hrd (by rw [← HLL.out]; exact hl1)
          obtain ⟨q, hq, hqc⟩ := hat (L - 1) (by rw [← HLL.out]; omega)
          obtain ⟨_, q0, _, _⟩ := hqc w3 (Below.refl _ _)
          clear hat hqc hrd
          have k5 : IntKind.i64.wrap ((L : Int) - 1) = (L : Int) - 1 := IntWalk.i64_in _ (by omega)
          have k6 : ((L : Int) - 1).toNat = L - 1 := by omega
          have k7 : (0 : Int) ≤ (L : Int) - 1 := by omega
          have k8 : (L : Int) - 1 < (L : Int) := by omega
          obtain ⟨hi, hz0, hz1, hz2⟩ := HI.out
          go_wp2_with (at_builtin; refine wpList_append_own _ rfl _ _ 22 rfl w.heap.size 65 i0 (.agg #[.int .i64 0, .int .i64 0, .int .i64 0]) 3 24 Try.underlying22 hi hz0 hz1 hz2 rfl (by decide) _ L _ rfl ((own_set HO3.out HLT.out _).alloc _) ⟨w3.heap.size, 0, none⟩ 1 1 (encLg (Lg.mk q.w x.u x.c)) rfl rfl ?c1 ?c2 ?c3 ?c4 ?c5 ?_)
          case c1 => exact news_atN #[.int .i64 q.w, .int .i64 x.u, .int .i64 x.c] (by simp)
          case c2 => exact encLg_one _
          case c3 => unfold maxLen; omega
          case c4 => omega
          case c5 => simp; omega
          intro v' w4 hown' hgrow _
          have HC := hide (cur_app ((HC.out.set ⟨by dsimp only; omega, by dsimp only; omega⟩ _).alloc _) ((own_set HO3.out HLT.out _).alloc _) hgrow hg0)
          have HG := hide (gr_app (gr_alloc (gr_far HG.out (by dsimp only; omega) _) _) ((own_set HO3.out HLT.out _).alloc _) hgrow (Nat.le_refl _))
          have HO4 := hide hown'
          clear hown' hgrow hi hz0 hz1 hz2
          go_wp2
          go_roundg (k - 1)
          case measure => omega
          case rel => exact ⟨k - 1, by omega, by omega, by congr 1; omega, HC.out.mono (by omega), HG.out, ⟨zs ++ [Lg.mk q.w x.u x.c], by rw [List.length_append, ← HLL.out]; simp; omega, by rw [flat_snoc, List.length_append, ← HLL.out]; exact HO4.out⟩⟩

      · have hl2 : ¬ (0 : Int) < (L : Int) := by omega
        obtain rfl : L = 0 := by omega
        clear hl1 hl2
        obtain ⟨hi, hz0, hz1, hz2⟩ := HI.out
        go_wp2_with (at_builtin; refine wpList_append_own _ rfl _ _ 22 rfl w.heap.size 65 i0 (.agg #[.int .i64 0, .int .i64 0, .int .i64 0]) 3 24 Try.underlying22 hi hz0 hz1 hz2 rfl (by decide) _ 0 _ rfl ((HO2.out.alloc _).alloc _) ⟨w2.heap.size + 1, 0, none⟩ 1 1 (encLg (Lg.mk x.w x.u x.c)) rfl rfl ?c1 ?c2 ?c3 ?c4 ?c5 ?_)
        case c1 => exact news_atN #[.int .i64 x.w, .int .i64 x.u, .int .i64 x.c] (by simp)
        case c2 => exact encLg_one _
        case c3 => unfold maxLen; omega
        case c4 => omega
        case c5 => simp; omega
        intro v' w4 hown' hgrow _
        have HC := hide (cur_app ((HC.out.alloc _).alloc _) ((HO2.out.alloc _).alloc _) hgrow hg0)
        have HG := hide (gr_app (gr_alloc (gr_alloc HG.out _) _) ((HO2.out.alloc _).alloc _) hgrow (Nat.le_refl _))
        have HO4 := hide hown'
        clear hown' hgrow hi hz0 hz1 hz2
        go_wp2
        go_roundg (k - 1)
        case measure => omega
        case rel => exact ⟨k - 1, by omega, by omega, by congr 1; omega, HC.out.mono (by omega), HG.out, ⟨zs ++ [Lg.mk x.w x.u x.c], by rw [List.length_append, ← HLL.out]; simp; omega, by rw [flat_snoc, List.length_append, ← HLL.out]; exact HO4.out⟩⟩

    · have hk1 : ¬ (0 : Int) < (k : Int) := by omega
      go_wp2_with fail
      refine (one_any B g _ 32 _ CW.out (by omega) (by omega) (by omega)).mono ?_
      rintro e w2 ⟨b, rfl, hc, hg⟩
      have HC := hide hc
      have HG := hide (gr_trans GW.out hg)
      have HO2 := hide (own_gr HO.out hg hg0)
      clear hc hg
      cases b with
      | false =>
        go_wp2
        go_ret
        exact ⟨_, zs, rfl, by rw [← HLL.out]; omega, by rw [← HLL.out]; exact HO2.out, HC.out.mono (by omega), HG.out⟩
      | true =>
        go_wp2_with fail
        go_loopg [3] 13 (fun gk v wr => ∃ ys : List Lg, ys.length ≤ 13 ∧ 13 - ys.length ≤ gk ∧ Aside (Cur B wr g (m + 200 + 2 * ys.length)) ∧ Aside (w.grownBy wr (some g)) ∧ Aside (wr.ownsRow w.heap.size 65 3 v ys.length (ys.flatMap encLg)))
        case atStart => exact ⟨zs, by rw [← HLL.out]; omega, by omega, HC.out.mono (by omega), HG.out, by rw [← HLL.out]; exact HO2.out⟩
        case round =>
          obtain ⟨ys, hyl, hgk2, CW, GW, OW⟩ := hrel
          clear HLL HO HO2 HC HG
          have ho := OW.out
          obtain ⟨L, hL⟩ : ∃ L, L = ys.length := ⟨_, rfl⟩
          have CW2 := hide CW.out
          rw [← hL] at ho hyl hgk2 CW2
          obtain ⟨ao, cc, rfl, hcc, hcm, _⟩ := own_rd encLg_len ho hL.symm
          have HO := hide ho
          have HLL := hide hL
          clear OW ho hL CW
          have hgw := GW.out.size
          go_wp2_with fail
          refine (pick_any B g _ 2 _ CW2.out (by omega) (by omega) (by omega)).mono ?_
          rintro e w3 ⟨p, rfl, p0, p1, hc, hg⟩
          have HC := hide hc
          have HG := hide (gr_trans GW.out hg)
          have HO2 := hide (own_gr HO.out hg hg0)
          have hgw3 := hg.size
          clear hc hg
          by_cases hlt : (L : Int) < 12 + p
          · obtain ⟨hi, hz0, hz1, hz2⟩ := HI.out
            go_wp2_with (at_builtin; refine wpList_append_own _ rfl _ _ 22 rfl w.heap.size 65 i0 (.agg #[.int .i64 0, .int .i64 0, .int .i64 0]) 3 24 Try.underlying22 hi hz0 hz1 hz2 rfl (by decide) _ L _ rfl (HO2.out.alloc _) ⟨w3.heap.size, 0, none⟩ 1 1 (encLg (Lg.mk (L % 8) 2 0)) rfl rfl ?c1 ?c2 ?c3 ?c4 ?c5 ?_)
            case c1 => exact news_atN #[.int .i64 (L % 8), .int .i64 2, .int .i64 0] (by simp)
            case c2 => exact encLg_one _
            case c3 => unfold maxLen; omega
            case c4 => omega
            case c5 => simp; omega
            intro v' w4 hown' hgrow _
            have HC := hide (cur_app (HC.out.alloc _) (HO2.out.alloc _) hgrow hg0)
            have HG := hide (gr_app (gr_alloc HG.out _) (HO2.out.alloc _) hgrow (Nat.le_refl _))
            have HO4 := hide hown'
            clear hown' hgrow hi hz0 hz1 hz2
            go_wp2
            go_roundg (13 - (L + 1))
            case measure => omega
            case rel => refine ⟨ys ++ [Lg.mk (L % 8) 2 0], by simp only [List.length_append, List.length_cons, List.length_nil, ← HLL.out]; omega, by simp only [List.length_append, List.length_cons, List.length_nil, ← HLL.out]; omega, HC.out.mono (by simp only [List.length_append, List.length_cons, List.length_nil, ← HLL.out]; omega), HG.out, by rw [flat_snoc, List.length_append, ← HLL.out]; exact HO4.out⟩

          · go_wp2
            go_ret
            exact ⟨_, ys, rfl, by rw [← HLL.out]; omega, by rw [← HLL.out]; exact HO2.out, HC.out.mono (by omega), HG.out⟩

end Go.Proofs.Ythcfkihpihgjeaa
