/- PlacesOn: the reference, a slice with spare room. -/
import Derived.Test.YthcfkihpihgjeaaT20
import Derived.Test.YthcfkihpihgjeaaT19
import Derived.Test.YthcfkihpihgjeaaT6
namespace Go.Proofs.Ythcfkihpihgjeaa
open Go.RowKit
set_option linter.unusedVariables false
set_option linter.unusedSimpArgs false

set_option maxRecDepth 100000 in
set_option maxHeartbeats 1000000 in
theorem sPlacesOnC_any (ao : Option Addr) (n c : Nat) (zs : List Lg) (w : World) (hz : zs.length = n) (hn : n ≤ 1048576) (hr : Rd encLg 3 w.heap.size w ao zs) (hnc : n ≤ c) :
    Calls Try.prog 38 #[.slice ao n c] w fun e w' => ∃ v, e = .returned (.tuple #[v, .bool (routeB zs)]) ∧ w'.ownsRow w.heap.size 60 2 v (plcV zs).length ((plcV zs).flatMap encP) ∧ Below w.heap.size w w' := by
  obtain ⟨W, hW⟩ : ∃ W, W = w.alloc (.cells #[] 60) := ⟨_, rfl⟩
  have HBW : Hid (Below w.heap.size w W) := hide (by rw [hW]; exact (Below.refl _ _).alloc (Nat.le_refl _) _)
  have HE : Hid (W.ownsRow w.heap.size 60 2 (.slice (some ⟨w.heap.size, 0, none⟩) 0 0) 0 []) := hide (by rw [hW]; exact World.ownsRow_made w #[] 0 (Nat.le_refl _) (by simp [maxLen]) rfl)
  have HW := hide hW
  have HZ := hide hz
  have HR := hide hr
  have HA := hide (l15Good_any ao n c zs W hz hn (rd_step hr HBW.out))
  obtain ⟨i0, hi, hz0, hz1, hz2⟩ := info_parts infoP
  have HI := hide (And.intro hi (And.intro hz0 (And.intro hz1 hz2)))
  clear hi hz0 hz1 hz2 hW hz hr
  cases h1 : routeB zs with
  | false =>
    have HC := hide (plc_no h1)
    go_enter Try.func38, Try.ntmps38
    go_wp2_with fail
    rw [← HW.out]
    refine HA.out.mono ?_
    rintro e w1 ⟨rfl, hb⟩
    rw [h1]
    have HB := hide (bl_step HBW.out hb)
    have HOW := hide (own_step HE.out hb)
    clear hb
    go_wp2
    go_ret2
    exact ⟨_, rfl, by rw [HC.out]; exact HOW.out, HB.out⟩
  | true =>
    have HH1 := hide h1
    have h12 := route_12 h1
    rw [HZ.out] at h12
    have HC := hide (plc_yes HZ.out h1)
    clear h1
    go_enter Try.func38, Try.ntmps38
    go_wp2_with fail
    rw [← HW.out]
    refine HA.out.mono ?_
    rintro e w1 ⟨rfl, hb⟩
    rw [HH1.out]
    have HB := hide (bl_step HBW.out hb)
    have HOW := hide (own_step HE.out hb)
    clear hb HA
    go_wp2
    go_loopg [4, 5] n (fun gk v i wr => ∃ k : Nat, k ≤ n ∧ n - k ≤ gk ∧ i = .int .i64 k ∧ Aside (wr.ownsRow w.heap.size 60 2 v k ((psL zs k).flatMap encP)) ∧ Aside (Below w.heap.size w wr))
    case atStart => exact ⟨0, Nat.zero_le _, by omega, rfl, HOW.out, HB.out⟩
    case round =>
      obtain ⟨k, hk, hg, rfl, OW, BW⟩ := hrel
      by_cases hlt : k < n
      · have hltz : (k : Int) < (n : Int) := by omega
        have k5 : IntKind.i64.wrap ((k : Int) + 1) = ((k + 1 : Nat) : Int) := by rw [show (k : Int) + 1 = ((k + 1 : Nat) : Int) by omega]; exact IntWalk.i64_in _ (by omega)
        have k6 : ((k + 1 : Nat) : Int) ≤ (n : Int) := by omega
        have k7 : k + 1 ≤ n := by omega
        have k9 : ((k + 1 : Nat) : Int) ≤ (c : Int) := by omega
        have k8 : (0 : Int) ≤ ((k + 1 : Nat) : Int) := by omega
        have HTL : Hid ((zs.take (k + 1)).length = k + 1) := hide (by rw [List.length_take, HZ.out]; omega)
        have HRT := hide ((rd_step HR.out BW.out).takeG (k + 1))
        obtain ⟨k1, hk1⟩ : ∃ k1 : Nat, k1 = k + 1 := ⟨_, rfl⟩
        rw [← hk1] at k5 k6 k7 k8 k9 HTL HRT
        have HK1 := hide hk1
        clear hk1
        go_wp2_with fail
        refine (l15End_any ao k1 c (zs.take k1) _ HTL.out (by omega) HRT.out (route_take HH1.out k1)).mono ?_
        rintro e w2 ⟨rfl, hb⟩
        have HB2 := hide (bl_step BW.out hb)
        have HO2 := hide (own_step OW.out hb)
        clear hb
        generalize hE : sumI fE yes (zs.take k1) = E
        generalize hN : sumI fN yes (zs.take k1) = N
        have HEE := hide hE
        have HNN := hide hN
        clear hE hN
        have hsw := HB2.out.size
        obtain ⟨hi, hz0, hz1, hz2⟩ := HI.out
        go_wp2_with (at_builtin; refine wpList_append_own _ rfl _ _ 56 rfl w.heap.size 60 i0 (.agg #[.int .i64 0, .int .i64 0]) 2 16 Try.underlying56 hi hz0 hz1 hz2 rfl (by decide) _ k _ rfl (HO2.out.alloc _) ⟨w2.heap.size, 0, none⟩ 1 1 [.int .i64 E, .int .i64 N] rfl rfl ?c1 ?c2 ?c3 ?c4 ?c5 ?_)
        case c1 => exact news_at #[.int .i64 E, .int .i64 N]
        case c2 => intro u hu; simp at hu; rcases hu with rfl | rfl <;> rfl
        case c3 => unfold maxLen; omega
        case c4 => omega
        case c5 => simp; omega
        intro v' w3 hown' hgrow _
        have HB3 := hide (bl_grown (HB2.out.alloc HB2.out.size _) (HO2.out.alloc _) (Nat.le_refl _) hgrow)
        have HO3 : Hid (w3.ownsRow w.heap.size 60 2 v' (k + 1) ((psL zs (k + 1)).flatMap encP)) := hide (by rw [psL_succ, flat_snoc, ← HK1.out, HEE.out, HNN.out, HK1.out]; exact hown')
        clear hown' hgrow hi hz0 hz1 hz2 k5
        have k5 : IntKind.i64.wrap ((k : Int) + 1) = (k : Int) + 1 := IntWalk.i64_in _ (by omega)
        go_wp2
        go_roundg (n - (k + 1))
        case measure => omega
        case rel => exact ⟨k + 1, by omega, by omega, by go_num, HO3.out, HB3.out⟩
      · have hltz : ¬ (k : Int) < (n : Int) := by omega
        obtain rfl : k = n := by omega
        go_wp2
        go_ret2
        exact ⟨_, rfl, by rw [HC.out, psL_len]; exact OW.out, BW.out⟩

end Go.Proofs.Ythcfkihpihgjeaa
