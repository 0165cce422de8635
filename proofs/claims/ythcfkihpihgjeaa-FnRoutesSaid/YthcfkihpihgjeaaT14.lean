/- WayBack: the reference. -/
import Derived.Test.YthcfkihpihgjeaaT13a
import Derived.Deep.RegionHeldLaw
import Derived.Deep.AppendLies
namespace Go.Proofs.Ythcfkihpihgjeaa
open Go.RowKit
set_option linter.unusedVariables false
set_option linter.unusedSimpArgs false

set_option maxRecDepth 100000 in
set_option maxHeartbeats 1000000 in
theorem sWayBack_any (ao : Option Addr) (n c : Nat) (zs : List Lg) (w : World) (hz : zs.length = n) (hn : n ≤ 1048576) (hr : Rd encLg 3 w.heap.size w ao zs) :
    Calls Try.prog 28 #[.slice ao n c] w fun e w' => ∃ v, e = .returned (.tuple #[v, .bool (routeB zs)]) ∧ w'.ownsRow w.heap.size 65 3 v (wbV zs).length ((wbV zs).flatMap encLg) ∧ Below w.heap.size w w' := by
  obtain ⟨W, hW⟩ : ∃ W, W = w.alloc (.cells #[] 65) := ⟨_, rfl⟩
  have HBW : Hid (Below w.heap.size w W) := hide (by rw [hW]; exact (Below.refl _ _).alloc (Nat.le_refl _) _)
  have HE : Hid (W.ownsRow w.heap.size 65 3 (.slice (some ⟨w.heap.size, 0, none⟩) 0 0) 0 []) := hide (by rw [hW]; exact World.ownsRow_made w #[] 0 (Nat.le_refl _) (by simp [maxLen]) rfl)
  have HW := hide hW
  have HZ := hide hz
  have HR := hide hr
  have HA := hide (l15Good_any ao n c zs W hz hn (rd_step hr HBW.out))
  have hinf := infoLg
  obtain ⟨i0, hi, hz0, hz1, hz2⟩ := info_parts hinf
  clear hinf
  have HI := hide (And.intro hi (And.intro hz0 (And.intro hz1 hz2)))
  clear hi hz0 hz1 hz2
  clear hW hz hr
  cases h1 : routeB zs with
  | false =>
    have HC : Hid (wbV zs = []) := hide (by unfold wbV; rw [h1]; rfl)
    go_enter Try.func28, Try.ntmps28
    go_wp2_with fail
    rw [← HW.out]
    refine HA.out.mono ?_
    rintro e w1 ⟨rfl, hb⟩
    rw [h1]
    have HB := hide (bl_step HBW.out hb)
    have HOW := hide (own_step HE.out hb)
    clear hb
    go_wp2
    go_ret2
    exact ⟨_, rfl, by rw [HC.out]; exact HOW.out, HB.out⟩
  | true =>
    have HH1 := hide h1
    have h12 := route_12 h1
    rw [HZ.out] at h12
    have HC : Hid (wbV zs = wbL zs) := hide (by unfold wbV; rw [h1]; rfl)
    clear h1
    have k0 : IntKind.i64.wrap ((n : Int) - 1) = (n : Int) - 1 := IntWalk.i64_in _ (by omega)
    go_enter Try.func28, Try.ntmps28
    go_wp2_with fail
    rw [← HW.out]
    refine HA.out.mono ?_
    rintro e w1 ⟨rfl, hb⟩
    rw [HH1.out]
    have HB := hide (bl_step HBW.out hb)
    have HOW := hide (own_step HE.out hb)
    clear hb HA
    go_wp2
    go_loopg [4, 5] n (fun gk v i wr => ∃ k : Nat, k ≤ n ∧ n - k ≤ gk ∧ i = .int .i64 ((n : Int) - 1 - k) ∧ Aside (wr.ownsRow w.heap.size 65 3 v k (((zs.reverse.take k).map bkX).flatMap encLg)) ∧ Aside (Below w.heap.size w wr))
    case atStart => exact ⟨0, Nat.zero_le _, by omega, by simp, HOW.out, HB.out⟩
    case round =>
      obtain ⟨k, hk, hg, rfl, OW, BW⟩ := hrel
      by_cases hlt : k < n
      · obtain ⟨j, hj⟩ : ∃ j : Nat, j = n - 1 - k := ⟨_, rfl⟩
        have hji : (n : Int) - 1 - k = (j : Int) := by omega
        have hjn : (j : Int) < (n : Int) := by omega
        have hj0 : (0 : Int) ≤ (j : Int) := by omega
        have HJI := hide hji
        rw [hji]
        clear hji k0
        obtain ⟨b', off, rfl, hb1, hat⟩ := rdLg HR.out (by rw [HZ.out]; omega)
        obtain ⟨x, hx, hxc⟩ := hat j (by rw [HZ.out]; omega)
        have HX : Hid (zs.reverse[k]? = some x) := hide (by rw [List.getElem?_reverse (by rw [HZ.out]; exact hlt), HZ.out, ← hj]; exact hx)
        have bx := route_bd HH1.out hx
        obtain ⟨hbr, c0, c1, c2⟩ := hxc wr BW.out
        clear hx hxc hat hj
        have k1 : IntKind.i64.wrap (x.w + 4) = x.w + 4 := IntWalk.i64_in _ (by omega)
        have k2 : IntKind.i64.wrap (-x.c) = -x.c := IntWalk.i64_in _ (by omega)
        have k3 : IntKind.i64.wrap ((j : Int) - 1) = (j : Int) - 1 := IntWalk.i64_in _ (by omega)
        have t1 : (x.w + 4).tmod 8 = (x.w + 4) % 8 := Int.tmod_eq_emod_of_nonneg (by omega)
        have HB2 := hide (Below.drew BW.out)
        have hsw := BW.out.size
        have hag : _ ≠ some b' := fun h => absurd (own_lt OW.out b' h).1 (by omega)
        obtain ⟨hi, hz0, hz1, hz2⟩ := HI.out
        go_wp2_with fail
        go_region_held_law (fun w' => w'.cell? ⟨b', off + j * 3, none⟩ = some (.int .i64 x.w) ∧ w'.cell? ⟨b', off + j * 3 + 1, none⟩ = some (.int .i64 x.u) ∧ w'.cell? ⟨b', off + j * 3 + 2, none⟩ = some (.int .i64 x.c))
          (first
            | go_keep
            | (go_split_ands
               refine ⟨?_, ?_, ?_⟩
               · (rw [hgrow.cell_far _ (by simp; omega) (Ne.symm hag)]; assumption)
               · (rw [hgrow.cell_far _ (by simp; omega) (Ne.symm hag)]; assumption)
               · (rw [hgrow.cell_far _ (by simp; omega) (Ne.symm hag)]; assumption)))
          ((refine step_append_lies _ (by rfl) _ _ _ (by rfl) w.heap.size 65 i0 _ 3 24 Try.underlying22 hi hz0 hz1 hz2 rfl (by omega) _ k _ (by rfl) ((OW.out.alloc _).drew)
              ⟨wr.heap.size, 0, none⟩ 1 1 [.int .i64 ((x.w + 4) % 8), .int .i64 x.u, .int .i64 (-x.c)] (by rfl) (by rfl) (World.news_of_block (cs := #[.int .i64 ((x.w + 4) % 8), .int .i64 x.u, .int .i64 (-x.c)]) (t := 65) (fr := (0, 0)) (heap_alloc_new wr _)) (by simp [Value.oneCell'])
              (by omega) (by unfold maxLen; omega) (by omega) (by simp; omega) (wr.heap.size + 1) (by simp) ?_; intro gg cap w3 hown' hgrow hat hlt2))
        have HB3 := hide (bl_grown (HB2.out.alloc HB2.out.size _) ((OW.out.alloc _).drew) (Nat.le_refl _) hgrow)
        have HO3 : Hid (w3.ownsRow w.heap.size 65 3 (.slice (some ⟨gg, 0, none⟩) (k + 1) cap) (k + 1) (((zs.reverse.take (k + 1)).map bkX).flatMap encLg)) := hide (by rw [bk_succ HX.out, flat_snoc]; exact hown')
        clear hown' hgrow hi hz0 hz1 hz2 hat hlt2
        go_wp2
        go_roundg (n - (k + 1))
        case measure => omega
        case rel => exact ⟨k + 1, by omega, by omega, by have := HJI.out; congr 1; omega, HO3.out, HB3.out⟩
      · obtain rfl : k = n := by omega
        have hm : (k : Int) - 1 - k = -1 := by omega
        rw [hm]
        clear hm k0
        have HT : Hid ((zs.reverse.take k).map bkX = wbL zs) := hide (by rw [List.take_of_length_le (by rw [List.length_reverse, HZ.out]; exact Nat.le_refl _), wb_rev])
        rw [HT.out] at OW
        have HL2 : Hid ((wbL zs).length = k) := hide (by unfold wbL; rw [List.length_reverse, List.length_map]; exact HZ.out)
        go_wp2
        go_ret2
        exact ⟨_, rfl, by rw [HC.out, HL2.out]; exact OW.out, BW.out⟩

end Go.Proofs.Ythcfkihpihgjeaa
