/- WayBack: the program. -/
import Derived.Test.YthcfkihpihgjeaaT13a
import Derived.Test.YthcfkihpihgjeaaT12
namespace Go.Proofs.Ythcfkihpihgjeaa
open Go.RowKit
set_option linter.unusedVariables false
set_option linter.unusedSimpArgs false

set_option maxRecDepth 100000 in
set_option maxHeartbeats 1000000 in
theorem WayBack_any (ao : Option Addr) (n c : Nat) (zs : List Lg) (w : World) (hz : zs.length = n) (hn : n ≤ 1048576) (hr : Rd encLg 3 w.heap.size w ao zs) :
    Calls Try.prog 27 #[.slice ao n c] w fun e w' => ∃ v, e = .returned (.tuple #[v, .bool (routeB zs)]) ∧ w'.ownsRow w.heap.size 65 3 v (wbV zs).length ((wbV zs).flatMap encLg) ∧ Below w.heap.size w w' := by
  have HZ := hide hz
  have HR := hide hr
  have HA := hide (IsRoute_any ao n c zs w hz hn hr)
  have hinf := infoLg
  obtain ⟨i0, hi, hz0, hz1, hz2⟩ := info_parts hinf
  clear hinf
  have HI := hide (And.intro hi (And.intro hz0 (And.intro hz1 hz2)))
  clear hi hz0 hz1 hz2
  clear hz hr
  cases h1 : routeB zs with
  | false =>
    have HC : Hid (wbV zs = []) := hide (by unfold wbV; rw [h1]; rfl)
    go_enter Try.func27, Try.ntmps27
    go_wp2_with fail
    refine HA.out.mono ?_
    rintro e w1 ⟨rfl, hb⟩
    rw [h1]
    have HB := hide hb
    clear hb
    go_wp2
    go_ret2
    exact ⟨_, rfl, by rw [HC.out]; exact World.ownsRow_nil _ _ _ _, HB.out⟩
  | true =>
    have HH1 := hide h1
    have h12 := route_12 h1
    rw [HZ.out] at h12
    have HC : Hid (wbV zs = wbL zs) := hide (by unfold wbV; rw [h1]; rfl)
    clear h1
    go_enter Try.func27, Try.ntmps27
    go_wp2_with fail
    refine HA.out.mono ?_
    rintro e w1 ⟨rfl, hb⟩
    rw [HH1.out]
    have HB := hide hb
    clear hb HA
    go_wp2
    go_loopg [4, 12] n (fun gk v i wr => ∃ k : Nat, k ≤ n ∧ n - k ≤ gk ∧ i = .int .i64 k ∧ Aside (wr.ownsRow w.heap.size 65 3 v k (((zs.take k).map bkX).flatMap encLg)) ∧ Aside (Below w.heap.size w wr))
    case atStart => exact ⟨0, Nat.zero_le _, by omega, rfl, World.ownsRow_nil _ _ _ _, HB.out⟩
    case round =>
      obtain ⟨k, hk, hg, rfl, OW, BW⟩ := hrel
      by_cases hlt : k < n
      · have hltz : (k : Int) < (n : Int) := by omega
        obtain ⟨b', off, rfl, hb1, hat⟩ := rdLg HR.out (by rw [HZ.out]; omega)
        obtain ⟨x, hx, hxc⟩ := hat k (by rw [HZ.out]; exact hlt)
        have HX := hide hx
        have bx := route_bd HH1.out hx
        obtain ⟨hbr, c0, c1, c2⟩ := hxc wr BW.out
        clear hx hxc hat
        have k1 : IntKind.i64.wrap (x.w + 4) = x.w + 4 := IntWalk.i64_in _ (by omega)
        have k2 : IntKind.i64.wrap (-x.c) = -x.c := IntWalk.i64_in _ (by omega)
        have t1 : (x.w + 4).tmod 8 = (x.w + 4) % 8 := Int.tmod_eq_emod_of_nonneg (by omega)
        have HB2 := hide (BW.out.alloc BW.out.size (.cells #[.int .i64 x.w, .int .i64 x.u, .int .i64 x.c] 65))
        have HO2 := hide (OW.out.alloc (.cells #[.int .i64 x.w, .int .i64 x.u, .int .i64 x.c] 65))
        have hsz : (wr.alloc (.cells #[.int .i64 x.w, .int .i64 x.u, .int .i64 x.c] 65)).heap.size = wr.heap.size + 1 := by simp
        have HSZ := hide hsz
        have hsw := BW.out.size
        clear hsz
        obtain ⟨hi, hz0, hz1, hz2⟩ := HI.out
        go_wp2_with (at_builtin; refine wpList_append_own _ rfl _ _ 22 rfl w.heap.size 65 i0 (.agg #[.int .i64 0, .int .i64 0, .int .i64 0]) 3 24 Try.underlying22 hi hz0 hz1 hz2 rfl (by decide) _ k _ rfl (HO2.out.alloc _) ⟨wr.heap.size + 1, 0, none⟩ 1 1 [.int .i64 ((x.w + 4) % 8), .int .i64 x.u, .int .i64 (-x.c)] rfl rfl ?c1 ?c2 ?c3 ?c4 ?c5 ?_)
        case c1 => have := news_at (w := wr.alloc (.cells #[.int .i64 x.w, .int .i64 x.u, .int .i64 x.c] 65)) (t := 65) #[.int .i64 ((x.w + 4) % 8), .int .i64 x.u, .int .i64 (-x.c)]; rw [HSZ.out] at this; exact this
        case c2 => intro u hu; simp at hu; rcases hu with rfl | rfl | rfl <;> rfl
        case c3 => unfold maxLen; omega
        case c4 => omega
        case c5 => simp; omega
        intro v' w3 hown' hgrow _
        have HB3 := hide (bl_grown (HB2.out.alloc HB2.out.size _) (HO2.out.alloc _) (Nat.le_refl _) hgrow)
        have HO3 : Hid (w3.ownsRow w.heap.size 65 3 v' (k + 1) (((zs.take (k + 1)).map bkX).flatMap encLg)) := hide (by rw [bk_succ HX.out, flat_snoc]; first | exact hown' | (rw [List.map_take]; exact hown'))
        clear hown' hgrow hi hz0 hz1 hz2
        go_wp2
        go_roundg (n - (k + 1))
        case measure => omega
        case rel => exact ⟨k + 1, by omega, by omega, by go_num, HO3.out, HB3.out⟩
      · have hltz : ¬ (k : Int) < (n : Int) := by omega
        obtain rfl : k = n := by omega
        have HLEN : Hid ((zs.map bkX).length = k) := hide (by rw [List.length_map]; exact HZ.out)
        have HT : Hid (zs.take k = zs) := hide (by rw [List.take_of_length_le (by rw [HZ.out]; exact Nat.le_refl _)])
        rw [HT.out] at OW
        have HLT := hide (own_lt OW.out)
        go_wp2_with fail
        refine (ReverseLeg_own _ k (zs.map bkX) _ OW.out HLEN.out hn).mono ?_
        rintro e w2 ⟨rfl, hg2, ho⟩
        have HB2 := hide (bl_own BW.out hg2 (fun j hj => (HLT.out j hj).1))
        have HO2 : Hid (w2.ownsRow w.heap.size 65 3 _ k ((wbL zs).flatMap encLg)) := hide ho
        have HL2 : Hid ((wbL zs).length = k) := hide (by unfold wbL; rw [List.length_reverse]; exact HLEN.out)
        clear hg2 ho
        go_wp2
        go_ret2
        exact ⟨_, rfl, by rw [HC.out, HL2.out]; exact HO2.out, HB2.out⟩

end Go.Proofs.Ythcfkihpihgjeaa
