/- Rights drawn. -/
import Derived.Test.YtpghdjehagamlaaC7
import Derived.Test.YtpghdjehagamlaaFRight
import Derived.Test.YtpghdjehagamlaaKit4
namespace Go.Proofs.Ytpghdjehagamlaa
open Go.RowKit
set_option linter.unusedVariables false
set_option linter.unusedSimpArgs false

theorem own_cell {α : Type} {enc : α → List Value} {k : Nat} (hk : ∀ x, (enc x).length = k) {w : World} {base n gg cap : Nat} {e : TypeId} {zs : List α} (ho : w.ownsRow base e k (.slice (some ⟨gg, 0, none⟩) n cap) n (zs.flatMap enc)) (hz : zs.length = n)
    (i j : Nat) (x x' : α) (u : Value) (hx : zs[i]? = some x) (he : enc x' = (enc x).set j u) (hj : j < k) : (w.setCell ⟨gg, i * k + j, none⟩ u).ownsRow base e k (.slice (some ⟨gg, 0, none⟩) n cap) n ((zs.set i x').flatMap enc) := by
  rcases own_form hk ho hz with ⟨h, _, _⟩ | ⟨g', cap', cs, hv, hb, hB, hs, hn, hm, ht⟩
  · cases h
  · injection hv with a1 a2 a3
    injection a1 with a1
    injection a1 with a1
    subst a1 a3
    exact own_set1 hk hB hb hs hn hm hz ht i j x x' u hx he hj

set_option maxRecDepth 100000 in
set_option maxHeartbeats 8000000 in
theorem draw_rights_any (B g m : Nat) (w : World) (hc : Cur B w g m) (hm : m ≤ 100000) :
    Calls Try.prog 58 #[.pointer (some ⟨g, 0, none⟩)] w fun e w' => ∃ v, ∃ zs : List Rt, e = .returned v ∧ zs.length ≤ 12 ∧ w'.ownsRow w.heap.size 72 4 v zs.length (zs.flatMap encRt) ∧ Cur B w' g (m + 300) ∧ w.grownBy w' (some g) := by
  have HC := hide hc
  have hg0 := hc.lt
  have hB0 := hc.base
  have HG := hide (gr_refl w (some g))
  have HO := hide (World.ownsRow_made (e := 72) (size := 4) w #[] 0 (Nat.le_refl _) (by simp [maxLen]) (by simp))
  clear hc
  obtain ⟨i0HI, hi, hz0, hz1, hz2⟩ := info_parts infoRt
  have HI := hide (And.intro hi (And.intro hz0 (And.intro hz1 hz2)))
  clear hi hz0 hz1 hz2
  go_enter Try.func58, Try.ntmps58
  go_wp2_with fail
  refine (pick_any B g m 6 _ (HC.out.alloc _) (by omega) (by omega) (by omega)).mono ?_
  rintro e w1 ⟨a, rfl, a0, a1, hc, hg⟩
  have HO := hide (own_gr HO.out hg hg0)
  have HG := hide (gr_trans (gr_alloc HG.out _) hg)
  have hsz := hg.size
  simp only [World.size_alloc, World.size_setCell] at hsz
  have HC := hide hc
  clear hc hg
  have hsz1 := hsz
  clear hsz
  obtain ⟨K, rfl⟩ : ∃ K : Nat, a = (K : Int) := ⟨a.toNat, by omega⟩
  have hK : K ≤ 5 := by omega
  clear a0 a1
  go_wp2_with fail
  go_loopg [3, 4, 5] K (fun gk v di i wr => ∃ k : Nat, k ≤ K ∧ k ≤ gk ∧ i = .int .i64 (k : Int) ∧ (∃ id : Int, di = .int .i64 id ∧ 0 ≤ id ∧ id ≤ 2 * ((K : Int) - (k : Int))) ∧ Aside (Cur B wr g (m + 2 + 20 * (K - k))) ∧ Aside (w.grownBy wr (some g)) ∧ Aside (∃ zs : List Rt, zs.length ≤ K - k ∧ wr.ownsRow w.heap.size 72 4 v zs.length (zs.flatMap encRt)))
  case atStart => exact ⟨K, Nat.le_refl _, Nat.le_refl _, rfl, ⟨0, rfl, by omega, by omega⟩, HC.out.mono (by omega), HG.out, ⟨[], by simp, HO.out⟩⟩
  case round =>
    obtain ⟨k, hk, hgk, rfl, ⟨id, rfl, i0, i1⟩, CW, GW, OW⟩ := hrel
    obtain ⟨zs, hzl, ho⟩ := OW.out
    obtain ⟨L, hL⟩ : ∃ L, L = zs.length := ⟨_, rfl⟩
    rw [← hL] at ho hzl
    obtain ⟨vo, vc, rfl, hvc, _, _⟩ := own_rd encRt_len ho hL.symm
    have HLL := hide hL
    have hszr := GW.out.size
    clear HC HG HO
    have HC := hide CW.out
    have HG := hide GW.out
    have HO := hide ho
    clear OW ho hL CW GW
    by_cases hk0 : 0 < k
    · have hk1 : (0 : Int) < (k : Int) := by omega
      go_wp2_with fail
      refine (pick_any B g (m + 2 + 20 * (K - k)) 2 _ HC.out (by omega) (by omega) (by omega)).mono ?_
      rintro e w3 ⟨p, rfl, p0, p1, hc, hg⟩
      have HO := hide (own_gr HO.out hg hg0)
      have HG := hide (gr_trans HG.out hg)
      have hsz := hg.size
      have HC := hide hc
      clear hc hg
      have hsz3 := hsz
      clear hsz
      go_wp2_with fail
      refine (pick_any B g ((m + 2 + 20 * (K - k)) + 2) 120 _ HC.out (by omega) (by omega) (by omega)).mono ?_
      rintro e w4 ⟨q, rfl, q0, q1, hc, hg⟩
      have HO := hide (own_gr HO.out hg hg0)
      have HG := hide (gr_trans HG.out hg)
      have hsz := hg.size
      have HC := hide hc
      clear hc hg
      have hsz4 := hsz
      clear hsz
      have hqd : q / 119 = 0 ∨ q / 119 = 1 := by omega
      obtain ⟨qd, hqd2⟩ : ∃ qd, q / 119 = qd := ⟨_, rfl⟩
      rw [hqd2] at hqd
      go_wp2_with fail
      refine (among_any B g ((m + 2 + 20 * (K - k)) + 4) _ 4 4 [0, 100, 200, 4000] _ (HC.out.alloc _) (Opts.lit (H := w4.heap.size) [0, 100, 200, 4000] HC.out.lt rfl rfl) (by omega) (by omega) (by omega)).mono ?_
      rintro e w5 ⟨u1, rfl, _, hc, hg⟩
      have HO := hide (own_gr (HO.out.alloc _) hg hg0)
      have HG := hide (gr_trans (gr_alloc HG.out _) hg)
      have hsz := hg.size
      simp only [World.size_alloc, World.size_setCell] at hsz
      have HC := hide hc
      clear hc hg
      have hsz5 := hsz
      clear hsz
      go_wp2_with fail
      refine (among_any B g ((m + 2 + 20 * (K - k)) + 6) _ 5 5 [0, 10, 20, 50, 100] _ (HC.out.alloc _) (Opts.lit (H := w5.heap.size) [0, 10, 20, 50, 100] HC.out.lt rfl rfl) (by omega) (by omega) (by omega)).mono ?_
      rintro e w6 ⟨u2, rfl, _, hc, hg⟩
      have HO := hide (own_gr (HO.out.alloc _) hg hg0)
      have HG := hide (gr_trans (gr_alloc HG.out _) hg)
      have hsz := hg.size
      simp only [World.size_alloc, World.size_setCell] at hsz
      have HC := hide hc
      clear hc hg
      have hsz6 := hsz
      clear hsz
      go_wp2_with fail
      refine (among_any B g ((m + 2 + 20 * (K - k)) + 8) _ 4 4 [0, 5, 10, 1000] _ (HC.out.alloc _) (Opts.lit (H := w6.heap.size) [0, 5, 10, 1000] HC.out.lt rfl rfl) (by omega) (by omega) (by omega)).mono ?_
      rintro e w7 ⟨u3, rfl, _, hc, hg⟩
      have HO := hide (own_gr (HO.out.alloc _) hg hg0)
      have HG := hide (gr_trans (gr_alloc HG.out _) hg)
      have hsz := hg.size
      simp only [World.size_alloc, World.size_setCell] at hsz
      have HC := hide hc
      clear hc hg
      have hsz7 := hsz
      clear hsz
      have HQD := hide hqd2
      clear hqd2
      obtain ⟨hi, hz0, hz1, hz2⟩ := HI.out
      go_wp2_with (at_builtin; refine wpList_append_own _ rfl _ _ 31 rfl w.heap.size 72 i0HI (.agg #[.int .i64 0, .int .i64 0, .int .i64 0, .int .i64 0]) 4 32 Try.underlying31 hi hz0 hz1 hz2 rfl (by decide) _ L _ rfl (HO.out.alloc _) ⟨w7.heap.size, 0, none⟩ 1 1 [.int .i64 (id + 1 + p - qd), .int .i64 u1, .int .i64 u2, .int .i64 u3] rfl rfl ?c1 ?c2 ?c3 ?c4 ?c5 ?_)
      case c1 => exact news_atN #[.int .i64 (id + 1 + p - qd), .int .i64 u1, .int .i64 u2, .int .i64 u3] (by first | rfl | simp)
      case c2 => intro u hu; simp only [List.mem_cons, List.not_mem_nil, or_false] at hu; rcases hu with rfl | rfl | rfl | rfl <;> rfl
      case c3 => unfold maxLen; omega
      case c4 => omega
      case c5 => (try simp only [World.size_alloc, World.size_setCell]); omega
      intro v' w8 hown' hgrow _
      have HC := hide (cur_app (HC.out.alloc _) (HO.out.alloc _) hgrow hg0)
      have HG := hide (gr_app (gr_alloc HG.out _) (HO.out.alloc _) hgrow (by omega))
      have hsz := hgrow.size
      simp only [World.size_alloc, World.size_setCell] at hsz
      have HO := hide hown'
      clear hown' hgrow hi hz0 hz1 hz2
      have hsz8 := hsz
      clear hsz
      go_wp2
      go_roundg (k - 1)
      case measure => omega
      case rel => exact ⟨k - 1, by omega, by omega, by congr 1; omega, ⟨_, rfl, by omega, by omega⟩, HC.out.mono (by omega), HG.out, ⟨zs ++ [Rt.mk (id + 1 + p - qd) u1 u2 u3], by simp only [List.length_append, List.length_cons, List.length_nil, ← HLL.out]; omega, by rw [flat_snoc, List.length_append, ← HLL.out]; exact HO.out⟩⟩
    · have hk1 : ¬ (0 : Int) < (k : Int) := by omega
      have hL5 : L ≤ 5 := by omega
      by_cases hl1 : 0 < L
      · have hl2 : (0 : Int) < (L : Int) := by omega
        go_wp2_with fail
        refine (one_any B g (m + 2 + 20 * (K - k)) 14 _ HC.out (by omega) (by omega) (by omega)).mono ?_
        rintro e w3 ⟨bb, rfl, hc, hg⟩
        have HO := hide (own_gr HO.out hg hg0)
        have HG := hide (gr_trans HG.out hg)
        have hsz := hg.size
        have HC := hide hc
        clear hc hg
        have hsz3 := hsz
        clear hsz
        cases bb with
        | false =>
          go_wp2_with fail
          refine (one_any B g ((m + 2 + 20 * (K - k)) + 2) 24 _ HC.out (by omega) (by omega) (by omega)).mono ?_
          rintro e w4 ⟨bz, rfl, hc, hg⟩
          have HO := hide (own_gr HO.out hg hg0)
          have HG := hide (gr_trans HG.out hg)
          have hsz := hg.size
          have HC := hide hc
          clear hc hg
          have hsz4 := hsz
          clear hsz
          cases bz with
          | false =>
            go_wp2
            go_ret
            exact ⟨_, zs, rfl, by rw [← HLL.out]; omega, by rw [← HLL.out]; exact HO.out, HC.out.mono (by omega), HG.out⟩
          | true =>
            have HO := hide (World.ownsRow_made (e := 72) (size := 4) w4 #[] 0 (show w.heap.size ≤ _ by omega) (by simp [maxLen]) (by simp))
            go_wp2_with fail
            go_loopg [3, 8] 12 (fun gk v i wr => ∃ j : Nat, j ≤ 11 ∧ 12 - j ≤ gk ∧ i = .int .i64 (j : Int) ∧ Aside (Cur B wr g (m + 200 + 4 * j)) ∧ Aside (w.grownBy wr (some g)) ∧ Aside (∃ ys : List Rt, ys.length ≤ j ∧ wr.ownsRow w.heap.size 72 4 v ys.length (ys.flatMap encRt)))
            case atStart => exact ⟨0, by omega, by omega, rfl, (HC.out.alloc _).mono (by omega), (gr_alloc HG.out _), ⟨[], by simp, HO.out⟩⟩
            case round =>
              obtain ⟨j, hj, hgj, rfl, CW, GW, OW⟩ := hrel
              clear HLL
              obtain ⟨ys, hyl, ho⟩ := OW.out
              obtain ⟨L2, hL2⟩ : ∃ L2, L2 = ys.length := ⟨_, rfl⟩
              rw [← hL2] at ho hyl
              obtain ⟨yo, yc, rfl, hyc, _, _⟩ := own_rd encRt_len ho hL2.symm
              have HLL := hide hL2
              have hszr2 := GW.out.size
              clear HC HG HO
              have HC := hide CW.out
              have HG := hide GW.out
              have HO := hide ho
              clear OW ho hL2 CW GW
              go_wp2_with fail
              refine (pick_any B g (m + 200 + 4 * j) 2 _ HC.out (by omega) (by omega) (by omega)).mono ?_
              rintro e w41 ⟨p2, rfl, p20, p21, hc, hg⟩
              have HO := hide (own_gr HO.out hg hg0)
              have HG := hide (gr_trans HG.out hg)
              have hsz := hg.size
              have HC := hide hc
              clear hc hg
              have hsz41 := hsz
              clear hsz
              by_cases hlt2 : (j : Int) < 10 + p2
              · obtain ⟨hi, hz0, hz1, hz2⟩ := HI.out
                go_wp2_with (at_builtin; refine wpList_append_own _ rfl _ _ 31 rfl w.heap.size 72 i0HI (.agg #[.int .i64 0, .int .i64 0, .int .i64 0, .int .i64 0]) 4 32 Try.underlying31 hi hz0 hz1 hz2 rfl (by decide) _ L2 _ rfl (HO.out.alloc _) ⟨w41.heap.size, 0, none⟩ 1 1 [.int .i64 ((j : Int) + 1), .int .i64 100, .int .i64 (10 * (j : Int) % 100), .int .i64 (j : Int)] rfl rfl ?c1 ?c2 ?c3 ?c4 ?c5 ?_)
                case c1 => exact news_atN #[.int .i64 ((j : Int) + 1), .int .i64 100, .int .i64 (10 * (j : Int) % 100), .int .i64 (j : Int)] (by first | rfl | simp)
                case c2 => intro u hu; simp only [List.mem_cons, List.not_mem_nil, or_false] at hu; rcases hu with rfl | rfl | rfl | rfl <;> rfl
                case c3 => unfold maxLen; omega
                case c4 => omega
                case c5 => (try simp only [World.size_alloc, World.size_setCell]); omega
                intro v' w42 hown' hgrow _
                have HC := hide (cur_app (HC.out.alloc _) (HO.out.alloc _) hgrow hg0)
                have HG := hide (gr_app (gr_alloc HG.out _) (HO.out.alloc _) hgrow (by omega))
                have hsz := hgrow.size
                simp only [World.size_alloc, World.size_setCell] at hsz
                have HO := hide hown'
                clear hown' hgrow hi hz0 hz1 hz2
                have hsz42 := hsz
                clear hsz
                go_wp2
                go_roundg (12 - (j + 1))
                case measure => omega
                case rel => exact ⟨j + 1, by omega, by omega, by go_num, HC.out.mono (by omega), HG.out, ⟨ys ++ [Rt.mk ((j : Int) + 1) 100 (10 * (j : Int) % 100) (j : Int)], by simp only [List.length_append, List.length_cons, List.length_nil, ← HLL.out]; omega, by rw [flat_snoc, List.length_append, ← HLL.out]; exact HO.out⟩⟩
              · go_wp2
                go_ret
                exact ⟨_, ys, rfl, by rw [← HLL.out]; omega, by rw [← HLL.out]; exact HO.out, HC.out.mono (by omega), HG.out⟩
        | true =>
          obtain ⟨j0, hj0⟩ : ∃ j0, L = j0 + 1 := ⟨L - 1, by omega⟩
          have hjL : j0 < L := by omega
          rcases own_form encRt_len HO.out HLL.out.symm with ⟨_, h0, _⟩ | ⟨gg, cap, cs, hv, hgb, hBg, _, _, _, _⟩
          · omega
          injection hv with hv1 hv2 hv3
          subst hv1 hv3
          have hggs := hBg.lt
          obtain ⟨b, off, hvo, hbl, hat⟩ := rdRt (own_rd' encRt_len HO.out HLL.out.symm) (by rw [← HLL.out]; omega)
          injection hvo with hvo
          injection hvo with e1 e2 e3
          subst e1 e2
          obtain ⟨x, hx, hxc⟩ := hat j0 (by rw [← HLL.out]; exact hjL)
          have HXX := hide hx
          obtain ⟨_, c0, c1, c2, c3⟩ := hxc w3 (Below.refl _ _)
          simp only [Nat.zero_add] at c0 c1 c2 c3
          clear hx hxc hat hbl hBg hv2
          have k5 : IntKind.i64.wrap ((L : Int) - 1) = (L : Int) - 1 := IntWalk.i64_in _ (by omega)
          have k6 : ((L : Int) - 1).toNat = j0 := by omega
          have k7 : (0 : Int) ≤ (L : Int) - 1 := by omega
          have k8 : (L : Int) - 1 < (L : Int) := by omega
          have k9 : (L : Int) - 1 = (j0 : Int) := by omega
          clear hj0
          have HOl := hide (own_lt2 HO.out (N := w3.heap.size) (Nat.le_refl _))
          have HX0 := hide (Blk.new w3 72 #[.int .i64 x.s, .int .i64 x.e, .int .i64 x.h, .int .i64 x.f])
          go_wp2_with fail
          refine (pick_any B g ((m + 2 + 20 * (K - k)) + 2) 4 _ (HC.out.alloc (.cells #[.int .i64 x.s, .int .i64 x.e, .int .i64 x.h, .int .i64 x.f] 72)) (by omega) (by omega) (by omega)).mono ?_
          rintro e w4 ⟨y, rfl, y0, y1, hc, hg⟩
          have hXg : w3.heap.size ≠ g := by omega
          have hXw : w.heap.size ≤ w3.heap.size := by omega
          have HX := hide (Blk.gr HX0.out hg hXg)
          have HO := hide (own_gr (HO.out.alloc (.cells #[.int .i64 x.s, .int .i64 x.e, .int .i64 x.h, .int .i64 x.f] 72)) hg hg0)
          have HG := hide (gr_trans (gr_alloc HG.out (.cells #[.int .i64 x.s, .int .i64 x.e, .int .i64 x.h, .int .i64 x.f] 72)) hg)
          have hsz := hg.size
          simp only [World.size_alloc, World.size_setCell] at hsz
          have HC := hide hc
          clear hc hg HX0
          have hsz4 := hsz
          clear hsz
          have hy4 : y = 0 ∨ y = 1 ∨ y = 2 ∨ y = 3 := by omega
          clear y0 y1
          rcases hy4 with rfl | rfl | rfl | rfl
          · go_wp2_with fail
            refine (among_any B g ((m + 2 + 20 * (K - k)) + 4) _ 3 3 [0, 999, 1000] _ (HC.out.alloc _) (Opts.lit (H := w4.heap.size) [0, 999, 1000] HC.out.lt rfl rfl) (by omega) (by omega) (by omega)).mono ?_
            rintro e w5 ⟨nv, rfl, _, hc, hg⟩
            have HO := hide (own_gr (HO.out.alloc _) hg hg0)
            have HX := hide (Blk.gr (HX.out.alloc _) hg (by omega))
            have HG := hide (gr_trans (gr_alloc HG.out _) hg)
            have hsz := hg.size
            simp only [World.size_alloc, World.size_setCell] at hsz
            have HC := hide hc
            clear hc hg
            have hsz5 := hsz
            clear hsz
            have e0 := HX.out.cell 0
            have f0 := HX.out.frozen 0
            have e1 := HX.out.cell 1
            have f1 := HX.out.frozen 1
            have e2 := HX.out.cell 2
            have f2 := HX.out.frozen 2
            have e3 := HX.out.cell 3
            have f3 := HX.out.frozen 3
            simp only [List.getElem?_toArray, List.getElem?_cons_zero, List.getElem?_cons_succ] at e0 e1 e2 e3
            rcases own_form encRt_len HO.out HLL.out.symm with ⟨h0, _, _⟩ | ⟨g5, cap5, cs5, hv5, _, hB5, _, _, _, _⟩
            · cases h0
            injection hv5 with hv6 hv7 hv8
            injection hv6 with hv6
            injection hv6 with hv6
            subst hv6
            have hrr := own_rd' encRt_len HO.out HLL.out.symm
            obtain ⟨b5, off5, hvo5, _, hat5⟩ := rdRt hrr (by rw [← HLL.out]; omega)
            injection hvo5 with hvo5
            injection hvo5 with e51 e52 e53
            subst e51 e52
            obtain ⟨x5, hx5, hxc5⟩ := hat5 j0 (by rw [← HLL.out]; exact hjL)
            obtain rfl : x = x5 := by rw [HXX.out] at hx5; injection hx5
            obtain ⟨_, c0, c1, c2, c3⟩ := hxc5 w5 (Below.refl _ _)
            simp only [Nat.zero_add] at c0 c1 c2 c3
            have n0 := hB5.frozen (j0 * 4)
            have n1 := hB5.frozen (j0 * 4 + 1)
            have n2 := hB5.frozen (j0 * 4 + 2)
            have n3 := hB5.frozen (j0 * 4 + 3)
            clear hx5 hxc5 hat5 hB5 hrr hv7 hv8
            have hne1 : gg ≠ w3.heap.size := by omega
            have hne2 : w3.heap.size ≠ gg := by omega
            have HC5 := hide (Cur.set (p := ⟨gg, j0 * 4 + 3, none⟩) (Cur.set (p := ⟨gg, j0 * 4 + 2, none⟩) (Cur.set (p := ⟨gg, j0 * 4 + 1, none⟩) (Cur.set (p := ⟨gg, j0 * 4, none⟩) (Cur.set (p := ⟨w3.heap.size, 0, none⟩) HC.out ⟨by dsimp only; omega, by dsimp only; omega⟩ (.int .i64 nv)) ⟨by dsimp only; omega, by dsimp only; omega⟩ (.int .i64 nv)) ⟨by dsimp only; omega, by dsimp only; omega⟩ (.int .i64 x.e)) ⟨by dsimp only; omega, by dsimp only; omega⟩ (.int .i64 x.h)) ⟨by dsimp only; omega, by dsimp only; omega⟩ (.int .i64 x.f))
            have HG5 := hide (gr_far (p := ⟨gg, j0 * 4 + 3, none⟩) (gr_far (p := ⟨gg, j0 * 4 + 2, none⟩) (gr_far (p := ⟨gg, j0 * 4 + 1, none⟩) (gr_far (p := ⟨gg, j0 * 4, none⟩) (gr_far (p := ⟨w3.heap.size, 0, none⟩) HG.out (by dsimp only; omega) (.int .i64 nv)) (by dsimp only; omega) (.int .i64 nv)) (by dsimp only; omega) (.int .i64 x.e)) (by dsimp only; omega) (.int .i64 x.h)) (by dsimp only; omega) (.int .i64 x.f))
            obtain ⟨W5, hW5⟩ : ∃ W5 : World, W5 = ((((w5.setCell ⟨w3.heap.size, 0, none⟩ (.int .i64 nv)).setCell ⟨gg, j0 * 4, none⟩ (.int .i64 nv)).setCell ⟨gg, j0 * 4 + 1, none⟩ (.int .i64 x.e)).setCell ⟨gg, j0 * 4 + 2, none⟩ (.int .i64 x.h)).setCell ⟨gg, j0 * 4 + 3, none⟩ (.int .i64 x.f) := ⟨_, rfl⟩
            have HO5 := hide (show World.ownsRow (((((w5.setCell ⟨w3.heap.size, 0, none⟩ (.int .i64 nv)).setCell ⟨gg, j0 * 4, none⟩ (.int .i64 nv)).setCell ⟨gg, j0 * 4 + 1, none⟩ (.int .i64 x.e)).setCell ⟨gg, j0 * 4 + 2, none⟩ (.int .i64 x.h)).setCell ⟨gg, j0 * 4 + 3, none⟩ (.int .i64 x.f)) w.heap.size 72 4 (.slice (some ⟨gg, 0, none⟩) L vc) L (((((zs.set j0 (Rt.mk nv x.e x.h x.f)).set j0 (Rt.mk nv x.e x.h x.f)).set j0 (Rt.mk nv x.e x.h x.f)).set j0 (Rt.mk nv x.e x.h x.f)).flatMap encRt) from (own_cell encRt_len (own_cell encRt_len (own_cell encRt_len (own_cell encRt_len (own_set (p := ⟨w3.heap.size, 0, none⟩) HO.out (own_ne (by dsimp only; omega) HOl.out) (.int .i64 nv)) HLL.out.symm j0 0 x (Rt.mk nv x.e x.h x.f) (.int .i64 nv) (by exact HXX.out) rfl (by omega)) (by simp only [List.length_set]; exact HLL.out.symm) j0 1 (Rt.mk nv x.e x.h x.f) (Rt.mk nv x.e x.h x.f) (.int .i64 x.e) (by rw [List.getElem?_set_self (by simp only [List.length_set, ← HLL.out]; omega)]) rfl (by omega)) (by simp only [List.length_set]; exact HLL.out.symm) j0 2 (Rt.mk nv x.e x.h x.f) (Rt.mk nv x.e x.h x.f) (.int .i64 x.h) (by rw [List.getElem?_set_self (by simp only [List.length_set, ← HLL.out]; omega)]) rfl (by omega)) (by simp only [List.length_set]; exact HLL.out.symm) j0 3 (Rt.mk nv x.e x.h x.f) (Rt.mk nv x.e x.h x.f) (.int .i64 x.f) (by rw [List.getElem?_set_self (by simp only [List.length_set, ← HLL.out]; omega)]) rfl (by omega)))
            rw [← hW5] at HC5 HG5 HO5
            have hsW5 : W5.heap.size = w5.heap.size := by rw [hW5]; simp only [World.size_setCell]
            have hsW6 : w5.heap.size ≤ W5.heap.size := by omega
            have HS5 := hide hsW5
            clear hsW5
            go_wp2_with fail
            rw [← hW5]
            clear hW5 HC HG HO HX e0 e1 e2 e3 f0 f1 f2 f3 c0 c1 c2 c3 n0 n1 n2 n3 hne1 hne2
            have HC := HC5
            have HG := HG5
            have HO := HO5
            have HLL := hide (show L = ((((zs.set j0 (Rt.mk nv x.e x.h x.f)).set j0 (Rt.mk nv x.e x.h x.f)).set j0 (Rt.mk nv x.e x.h x.f)).set j0 (Rt.mk nv x.e x.h x.f)).length from by simp only [List.length_set]; exact HLL.out)
            clear HC5 HG5 HO5
            go_wp2_with fail
            refine (one_any B g ((m + 2 + 20 * (K - k)) + 6) 24 _ HC.out (by omega) (by omega) (by omega)).mono ?_
            rintro e w16 ⟨bz, rfl, hc, hg⟩
            have HO := hide (own_gr HO.out hg hg0)
            have HG := hide (gr_trans HG.out hg)
            have hsz := hg.size
            have HC := hide hc
            clear hc hg
            have hsz16 := hsz
            clear hsz
            cases bz with
            | false =>
              go_wp2
              go_ret
              exact ⟨_, ((((zs.set j0 (Rt.mk nv x.e x.h x.f)).set j0 (Rt.mk nv x.e x.h x.f)).set j0 (Rt.mk nv x.e x.h x.f)).set j0 (Rt.mk nv x.e x.h x.f)), rfl, by rw [← HLL.out]; omega, by rw [← HLL.out]; exact HO.out, HC.out.mono (by omega), HG.out⟩
            | true =>
              have HO := hide (World.ownsRow_made (e := 72) (size := 4) w16 #[] 0 (show w.heap.size ≤ _ by omega) (by simp [maxLen]) (by simp))
              go_wp2_with fail
              go_loopg [3, 8] 12 (fun gk v i wr => ∃ j : Nat, j ≤ 11 ∧ 12 - j ≤ gk ∧ i = .int .i64 (j : Int) ∧ Aside (Cur B wr g (m + 200 + 4 * j)) ∧ Aside (w.grownBy wr (some g)) ∧ Aside (∃ ys : List Rt, ys.length ≤ j ∧ wr.ownsRow w.heap.size 72 4 v ys.length (ys.flatMap encRt)))
              case atStart => exact ⟨0, by omega, by omega, rfl, (HC.out.alloc _).mono (by omega), (gr_alloc HG.out _), ⟨[], by simp, HO.out⟩⟩
              case round =>
                obtain ⟨j, hj, hgj, rfl, CW, GW, OW⟩ := hrel
                clear HLL
                obtain ⟨ys, hyl, ho⟩ := OW.out
                obtain ⟨L2, hL2⟩ : ∃ L2, L2 = ys.length := ⟨_, rfl⟩
                rw [← hL2] at ho hyl
                obtain ⟨yo, yc, rfl, hyc, _, _⟩ := own_rd encRt_len ho hL2.symm
                have HLL := hide hL2
                have hszr2 := GW.out.size
                clear HC HG HO
                have HC := hide CW.out
                have HG := hide GW.out
                have HO := hide ho
                clear OW ho hL2 CW GW
                go_wp2_with fail
                refine (pick_any B g (m + 200 + 4 * j) 2 _ HC.out (by omega) (by omega) (by omega)).mono ?_
                rintro e w41 ⟨p2, rfl, p20, p21, hc, hg⟩
                have HO := hide (own_gr HO.out hg hg0)
                have HG := hide (gr_trans HG.out hg)
                have hsz := hg.size
                have HC := hide hc
                clear hc hg
                have hsz41 := hsz
                clear hsz
                by_cases hlt2 : (j : Int) < 10 + p2
                · obtain ⟨hi, hz0, hz1, hz2⟩ := HI.out
                  go_wp2_with (at_builtin; refine wpList_append_own _ rfl _ _ 31 rfl w.heap.size 72 i0HI (.agg #[.int .i64 0, .int .i64 0, .int .i64 0, .int .i64 0]) 4 32 Try.underlying31 hi hz0 hz1 hz2 rfl (by decide) _ L2 _ rfl (HO.out.alloc _) ⟨w41.heap.size, 0, none⟩ 1 1 [.int .i64 ((j : Int) + 1), .int .i64 100, .int .i64 (10 * (j : Int) % 100), .int .i64 (j : Int)] rfl rfl ?c1 ?c2 ?c3 ?c4 ?c5 ?_)
                  case c1 => exact news_atN #[.int .i64 ((j : Int) + 1), .int .i64 100, .int .i64 (10 * (j : Int) % 100), .int .i64 (j : Int)] (by first | rfl | simp)
                  case c2 => intro u hu; simp only [List.mem_cons, List.not_mem_nil, or_false] at hu; rcases hu with rfl | rfl | rfl | rfl <;> rfl
                  case c3 => unfold maxLen; omega
                  case c4 => omega
                  case c5 => (try simp only [World.size_alloc, World.size_setCell]); omega
                  intro v' w42 hown' hgrow _
                  have HC := hide (cur_app (HC.out.alloc _) (HO.out.alloc _) hgrow hg0)
                  have HG := hide (gr_app (gr_alloc HG.out _) (HO.out.alloc _) hgrow (by omega))
                  have hsz := hgrow.size
                  simp only [World.size_alloc, World.size_setCell] at hsz
                  have HO := hide hown'
                  clear hown' hgrow hi hz0 hz1 hz2
                  have hsz42 := hsz
                  clear hsz
                  go_wp2
                  go_roundg (12 - (j + 1))
                  case measure => omega
                  case rel => exact ⟨j + 1, by omega, by omega, by go_num, HC.out.mono (by omega), HG.out, ⟨ys ++ [Rt.mk ((j : Int) + 1) 100 (10 * (j : Int) % 100) (j : Int)], by simp only [List.length_append, List.length_cons, List.length_nil, ← HLL.out]; omega, by rw [flat_snoc, List.length_append, ← HLL.out]; exact HO.out⟩⟩
                · go_wp2
                  go_ret
                  exact ⟨_, ys, rfl, by rw [← HLL.out]; omega, by rw [← HLL.out]; exact HO.out, HC.out.mono (by omega), HG.out⟩
          · go_wp2_with fail
            refine (among_any B g ((m + 2 + 20 * (K - k)) + 4) _ 2 2 [(-1), 4001] _ (HC.out.alloc _) (Opts.lit (H := w4.heap.size) [(-1), 4001] HC.out.lt rfl rfl) (by omega) (by omega) (by omega)).mono ?_
            rintro e w5 ⟨nv, rfl, _, hc, hg⟩
            have HO := hide (own_gr (HO.out.alloc _) hg hg0)
            have HX := hide (Blk.gr (HX.out.alloc _) hg (by omega))
            have HG := hide (gr_trans (gr_alloc HG.out _) hg)
            have hsz := hg.size
            simp only [World.size_alloc, World.size_setCell] at hsz
            have HC := hide hc
            clear hc hg
            have hsz5 := hsz
            clear hsz
            have e0 := HX.out.cell 0
            have f0 := HX.out.frozen 0
            have e1 := HX.out.cell 1
            have f1 := HX.out.frozen 1
            have e2 := HX.out.cell 2
            have f2 := HX.out.frozen 2
            have e3 := HX.out.cell 3
            have f3 := HX.out.frozen 3
            simp only [List.getElem?_toArray, List.getElem?_cons_zero, List.getElem?_cons_succ] at e0 e1 e2 e3
            rcases own_form encRt_len HO.out HLL.out.symm with ⟨h0, _, _⟩ | ⟨g5, cap5, cs5, hv5, _, hB5, _, _, _, _⟩
            · cases h0
            injection hv5 with hv6 hv7 hv8
            injection hv6 with hv6
            injection hv6 with hv6
            subst hv6
            have hrr := own_rd' encRt_len HO.out HLL.out.symm
            obtain ⟨b5, off5, hvo5, _, hat5⟩ := rdRt hrr (by rw [← HLL.out]; omega)
            injection hvo5 with hvo5
            injection hvo5 with e51 e52 e53
            subst e51 e52
            obtain ⟨x5, hx5, hxc5⟩ := hat5 j0 (by rw [← HLL.out]; exact hjL)
            obtain rfl : x = x5 := by rw [HXX.out] at hx5; injection hx5
            obtain ⟨_, c0, c1, c2, c3⟩ := hxc5 w5 (Below.refl _ _)
            simp only [Nat.zero_add] at c0 c1 c2 c3
            have n0 := hB5.frozen (j0 * 4)
            have n1 := hB5.frozen (j0 * 4 + 1)
            have n2 := hB5.frozen (j0 * 4 + 2)
            have n3 := hB5.frozen (j0 * 4 + 3)
            clear hx5 hxc5 hat5 hB5 hrr hv7 hv8
            have hne1 : gg ≠ w3.heap.size := by omega
            have hne2 : w3.heap.size ≠ gg := by omega
            have HC5 := hide (Cur.set (p := ⟨gg, j0 * 4 + 3, none⟩) (Cur.set (p := ⟨gg, j0 * 4 + 2, none⟩) (Cur.set (p := ⟨gg, j0 * 4 + 1, none⟩) (Cur.set (p := ⟨gg, j0 * 4, none⟩) (Cur.set (p := ⟨w3.heap.size, 1, none⟩) HC.out ⟨by dsimp only; omega, by dsimp only; omega⟩ (.int .i64 nv)) ⟨by dsimp only; omega, by dsimp only; omega⟩ (.int .i64 x.s)) ⟨by dsimp only; omega, by dsimp only; omega⟩ (.int .i64 nv)) ⟨by dsimp only; omega, by dsimp only; omega⟩ (.int .i64 x.h)) ⟨by dsimp only; omega, by dsimp only; omega⟩ (.int .i64 x.f))
            have HG5 := hide (gr_far (p := ⟨gg, j0 * 4 + 3, none⟩) (gr_far (p := ⟨gg, j0 * 4 + 2, none⟩) (gr_far (p := ⟨gg, j0 * 4 + 1, none⟩) (gr_far (p := ⟨gg, j0 * 4, none⟩) (gr_far (p := ⟨w3.heap.size, 1, none⟩) HG.out (by dsimp only; omega) (.int .i64 nv)) (by dsimp only; omega) (.int .i64 x.s)) (by dsimp only; omega) (.int .i64 nv)) (by dsimp only; omega) (.int .i64 x.h)) (by dsimp only; omega) (.int .i64 x.f))
            obtain ⟨W5, hW5⟩ : ∃ W5 : World, W5 = ((((w5.setCell ⟨w3.heap.size, 1, none⟩ (.int .i64 nv)).setCell ⟨gg, j0 * 4, none⟩ (.int .i64 x.s)).setCell ⟨gg, j0 * 4 + 1, none⟩ (.int .i64 nv)).setCell ⟨gg, j0 * 4 + 2, none⟩ (.int .i64 x.h)).setCell ⟨gg, j0 * 4 + 3, none⟩ (.int .i64 x.f) := ⟨_, rfl⟩
            have HO5 := hide (show World.ownsRow (((((w5.setCell ⟨w3.heap.size, 1, none⟩ (.int .i64 nv)).setCell ⟨gg, j0 * 4, none⟩ (.int .i64 x.s)).setCell ⟨gg, j0 * 4 + 1, none⟩ (.int .i64 nv)).setCell ⟨gg, j0 * 4 + 2, none⟩ (.int .i64 x.h)).setCell ⟨gg, j0 * 4 + 3, none⟩ (.int .i64 x.f)) w.heap.size 72 4 (.slice (some ⟨gg, 0, none⟩) L vc) L (((((zs.set j0 (Rt.mk x.s x.e x.h x.f)).set j0 (Rt.mk x.s nv x.h x.f)).set j0 (Rt.mk x.s nv x.h x.f)).set j0 (Rt.mk x.s nv x.h x.f)).flatMap encRt) from (own_cell encRt_len (own_cell encRt_len (own_cell encRt_len (own_cell encRt_len (own_set (p := ⟨w3.heap.size, 1, none⟩) HO.out (own_ne (by dsimp only; omega) HOl.out) (.int .i64 nv)) HLL.out.symm j0 0 x (Rt.mk x.s x.e x.h x.f) (.int .i64 x.s) (by exact HXX.out) rfl (by omega)) (by simp only [List.length_set]; exact HLL.out.symm) j0 1 (Rt.mk x.s x.e x.h x.f) (Rt.mk x.s nv x.h x.f) (.int .i64 nv) (by rw [List.getElem?_set_self (by simp only [List.length_set, ← HLL.out]; omega)]) rfl (by omega)) (by simp only [List.length_set]; exact HLL.out.symm) j0 2 (Rt.mk x.s nv x.h x.f) (Rt.mk x.s nv x.h x.f) (.int .i64 x.h) (by rw [List.getElem?_set_self (by simp only [List.length_set, ← HLL.out]; omega)]) rfl (by omega)) (by simp only [List.length_set]; exact HLL.out.symm) j0 3 (Rt.mk x.s nv x.h x.f) (Rt.mk x.s nv x.h x.f) (.int .i64 x.f) (by rw [List.getElem?_set_self (by simp only [List.length_set, ← HLL.out]; omega)]) rfl (by omega)))
            rw [← hW5] at HC5 HG5 HO5
            have hsW5 : W5.heap.size = w5.heap.size := by rw [hW5]; simp only [World.size_setCell]
            have hsW6 : w5.heap.size ≤ W5.heap.size := by omega
            have HS5 := hide hsW5
            clear hsW5
            go_wp2_with fail
            rw [← hW5]
            clear hW5 HC HG HO HX e0 e1 e2 e3 f0 f1 f2 f3 c0 c1 c2 c3 n0 n1 n2 n3 hne1 hne2
            have HC := HC5
            have HG := HG5
            have HO := HO5
            have HLL := hide (show L = ((((zs.set j0 (Rt.mk x.s x.e x.h x.f)).set j0 (Rt.mk x.s nv x.h x.f)).set j0 (Rt.mk x.s nv x.h x.f)).set j0 (Rt.mk x.s nv x.h x.f)).length from by simp only [List.length_set]; exact HLL.out)
            clear HC5 HG5 HO5
            go_wp2_with fail
            refine (one_any B g ((m + 2 + 20 * (K - k)) + 6) 24 _ HC.out (by omega) (by omega) (by omega)).mono ?_
            rintro e w16 ⟨bz, rfl, hc, hg⟩
            have HO := hide (own_gr HO.out hg hg0)
            have HG := hide (gr_trans HG.out hg)
            have hsz := hg.size
            have HC := hide hc
            clear hc hg
            have hsz16 := hsz
            clear hsz
            cases bz with
            | false =>
              go_wp2
              go_ret
              exact ⟨_, ((((zs.set j0 (Rt.mk x.s x.e x.h x.f)).set j0 (Rt.mk x.s nv x.h x.f)).set j0 (Rt.mk x.s nv x.h x.f)).set j0 (Rt.mk x.s nv x.h x.f)), rfl, by rw [← HLL.out]; omega, by rw [← HLL.out]; exact HO.out, HC.out.mono (by omega), HG.out⟩
            | true =>
              have HO := hide (World.ownsRow_made (e := 72) (size := 4) w16 #[] 0 (show w.heap.size ≤ _ by omega) (by simp [maxLen]) (by simp))
              go_wp2_with fail
              go_loopg [3, 8] 12 (fun gk v i wr => ∃ j : Nat, j ≤ 11 ∧ 12 - j ≤ gk ∧ i = .int .i64 (j : Int) ∧ Aside (Cur B wr g (m + 200 + 4 * j)) ∧ Aside (w.grownBy wr (some g)) ∧ Aside (∃ ys : List Rt, ys.length ≤ j ∧ wr.ownsRow w.heap.size 72 4 v ys.length (ys.flatMap encRt)))
              case atStart => exact ⟨0, by omega, by omega, rfl, (HC.out.alloc _).mono (by omega), (gr_alloc HG.out _), ⟨[], by simp, HO.out⟩⟩
              case round =>
                obtain ⟨j, hj, hgj, rfl, CW, GW, OW⟩ := hrel
                clear HLL
                obtain ⟨ys, hyl, ho⟩ := OW.out
                obtain ⟨L2, hL2⟩ : ∃ L2, L2 = ys.length := ⟨_, rfl⟩
                rw [← hL2] at ho hyl
                obtain ⟨yo, yc, rfl, hyc, _, _⟩ := own_rd encRt_len ho hL2.symm
                have HLL := hide hL2
                have hszr2 := GW.out.size
                clear HC HG HO
                have HC := hide CW.out
                have HG := hide GW.out
                have HO := hide ho
                clear OW ho hL2 CW GW
                go_wp2_with fail
                refine (pick_any B g (m + 200 + 4 * j) 2 _ HC.out (by omega) (by omega) (by omega)).mono ?_
                rintro e w41 ⟨p2, rfl, p20, p21, hc, hg⟩
                have HO := hide (own_gr HO.out hg hg0)
                have HG := hide (gr_trans HG.out hg)
                have hsz := hg.size
                have HC := hide hc
                clear hc hg
                have hsz41 := hsz
                clear hsz
                by_cases hlt2 : (j : Int) < 10 + p2
                · obtain ⟨hi, hz0, hz1, hz2⟩ := HI.out
                  go_wp2_with (at_builtin; refine wpList_append_own _ rfl _ _ 31 rfl w.heap.size 72 i0HI (.agg #[.int .i64 0, .int .i64 0, .int .i64 0, .int .i64 0]) 4 32 Try.underlying31 hi hz0 hz1 hz2 rfl (by decide) _ L2 _ rfl (HO.out.alloc _) ⟨w41.heap.size, 0, none⟩ 1 1 [.int .i64 ((j : Int) + 1), .int .i64 100, .int .i64 (10 * (j : Int) % 100), .int .i64 (j : Int)] rfl rfl ?c1 ?c2 ?c3 ?c4 ?c5 ?_)
                  case c1 => exact news_atN #[.int .i64 ((j : Int) + 1), .int .i64 100, .int .i64 (10 * (j : Int) % 100), .int .i64 (j : Int)] (by first | rfl | simp)
                  case c2 => intro u hu; simp only [List.mem_cons, List.not_mem_nil, or_false] at hu; rcases hu with rfl | rfl | rfl | rfl <;> rfl
                  case c3 => unfold maxLen; omega
                  case c4 => omega
                  case c5 => (try simp only [World.size_alloc, World.size_setCell]); omega
                  intro v' w42 hown' hgrow _
                  have HC := hide (cur_app (HC.out.alloc _) (HO.out.alloc _) hgrow hg0)
                  have HG := hide (gr_app (gr_alloc HG.out _) (HO.out.alloc _) hgrow (by omega))
                  have hsz := hgrow.size
                  simp only [World.size_alloc, World.size_setCell] at hsz
                  have HO := hide hown'
                  clear hown' hgrow hi hz0 hz1 hz2
                  have hsz42 := hsz
                  clear hsz
                  go_wp2
                  go_roundg (12 - (j + 1))
                  case measure => omega
                  case rel => exact ⟨j + 1, by omega, by omega, by go_num, HC.out.mono (by omega), HG.out, ⟨ys ++ [Rt.mk ((j : Int) + 1) 100 (10 * (j : Int) % 100) (j : Int)], by simp only [List.length_append, List.length_cons, List.length_nil, ← HLL.out]; omega, by rw [flat_snoc, List.length_append, ← HLL.out]; exact HO.out⟩⟩
                · go_wp2
                  go_ret
                  exact ⟨_, ys, rfl, by rw [← HLL.out]; omega, by rw [← HLL.out]; exact HO.out, HC.out.mono (by omega), HG.out⟩
          · go_wp2_with fail
            refine (among_any B g ((m + 2 + 20 * (K - k)) + 4) _ 2 2 [(-1), 101] _ (HC.out.alloc _) (Opts.lit (H := w4.heap.size) [(-1), 101] HC.out.lt rfl rfl) (by omega) (by omega) (by omega)).mono ?_
            rintro e w5 ⟨nv, rfl, _, hc, hg⟩
            have HO := hide (own_gr (HO.out.alloc _) hg hg0)
            have HX := hide (Blk.gr (HX.out.alloc _) hg (by omega))
            have HG := hide (gr_trans (gr_alloc HG.out _) hg)
            have hsz := hg.size
            simp only [World.size_alloc, World.size_setCell] at hsz
            have HC := hide hc
            clear hc hg
            have hsz5 := hsz
            clear hsz
            have e0 := HX.out.cell 0
            have f0 := HX.out.frozen 0
            have e1 := HX.out.cell 1
            have f1 := HX.out.frozen 1
            have e2 := HX.out.cell 2
            have f2 := HX.out.frozen 2
            have e3 := HX.out.cell 3
            have f3 := HX.out.frozen 3
            simp only [List.getElem?_toArray, List.getElem?_cons_zero, List.getElem?_cons_succ] at e0 e1 e2 e3
            rcases own_form encRt_len HO.out HLL.out.symm with ⟨h0, _, _⟩ | ⟨g5, cap5, cs5, hv5, _, hB5, _, _, _, _⟩
            · cases h0
            injection hv5 with hv6 hv7 hv8
            injection hv6 with hv6
            injection hv6 with hv6
            subst hv6
            have hrr := own_rd' encRt_len HO.out HLL.out.symm
            obtain ⟨b5, off5, hvo5, _, hat5⟩ := rdRt hrr (by rw [← HLL.out]; omega)
            injection hvo5 with hvo5
            injection hvo5 with e51 e52 e53
            subst e51 e52
            obtain ⟨x5, hx5, hxc5⟩ := hat5 j0 (by rw [← HLL.out]; exact hjL)
            obtain rfl : x = x5 := by rw [HXX.out] at hx5; injection hx5
            obtain ⟨_, c0, c1, c2, c3⟩ := hxc5 w5 (Below.refl _ _)
            simp only [Nat.zero_add] at c0 c1 c2 c3
            have n0 := hB5.frozen (j0 * 4)
            have n1 := hB5.frozen (j0 * 4 + 1)
            have n2 := hB5.frozen (j0 * 4 + 2)
            have n3 := hB5.frozen (j0 * 4 + 3)
            clear hx5 hxc5 hat5 hB5 hrr hv7 hv8
            have hne1 : gg ≠ w3.heap.size := by omega
            have hne2 : w3.heap.size ≠ gg := by omega
            have HC5 := hide (Cur.set (p := ⟨gg, j0 * 4 + 3, none⟩) (Cur.set (p := ⟨gg, j0 * 4 + 2, none⟩) (Cur.set (p := ⟨gg, j0 * 4 + 1, none⟩) (Cur.set (p := ⟨gg, j0 * 4, none⟩) (Cur.set (p := ⟨w3.heap.size, 2, none⟩) HC.out ⟨by dsimp only; omega, by dsimp only; omega⟩ (.int .i64 nv)) ⟨by dsimp only; omega, by dsimp only; omega⟩ (.int .i64 x.s)) ⟨by dsimp only; omega, by dsimp only; omega⟩ (.int .i64 x.e)) ⟨by dsimp only; omega, by dsimp only; omega⟩ (.int .i64 nv)) ⟨by dsimp only; omega, by dsimp only; omega⟩ (.int .i64 x.f))
            have HG5 := hide (gr_far (p := ⟨gg, j0 * 4 + 3, none⟩) (gr_far (p := ⟨gg, j0 * 4 + 2, none⟩) (gr_far (p := ⟨gg, j0 * 4 + 1, none⟩) (gr_far (p := ⟨gg, j0 * 4, none⟩) (gr_far (p := ⟨w3.heap.size, 2, none⟩) HG.out (by dsimp only; omega) (.int .i64 nv)) (by dsimp only; omega) (.int .i64 x.s)) (by dsimp only; omega) (.int .i64 x.e)) (by dsimp only; omega) (.int .i64 nv)) (by dsimp only; omega) (.int .i64 x.f))
            obtain ⟨W5, hW5⟩ : ∃ W5 : World, W5 = ((((w5.setCell ⟨w3.heap.size, 2, none⟩ (.int .i64 nv)).setCell ⟨gg, j0 * 4, none⟩ (.int .i64 x.s)).setCell ⟨gg, j0 * 4 + 1, none⟩ (.int .i64 x.e)).setCell ⟨gg, j0 * 4 + 2, none⟩ (.int .i64 nv)).setCell ⟨gg, j0 * 4 + 3, none⟩ (.int .i64 x.f) := ⟨_, rfl⟩
            have HO5 := hide (show World.ownsRow (((((w5.setCell ⟨w3.heap.size, 2, none⟩ (.int .i64 nv)).setCell ⟨gg, j0 * 4, none⟩ (.int .i64 x.s)).setCell ⟨gg, j0 * 4 + 1, none⟩ (.int .i64 x.e)).setCell ⟨gg, j0 * 4 + 2, none⟩ (.int .i64 nv)).setCell ⟨gg, j0 * 4 + 3, none⟩ (.int .i64 x.f)) w.heap.size 72 4 (.slice (some ⟨gg, 0, none⟩) L vc) L (((((zs.set j0 (Rt.mk x.s x.e x.h x.f)).set j0 (Rt.mk x.s x.e x.h x.f)).set j0 (Rt.mk x.s x.e nv x.f)).set j0 (Rt.mk x.s x.e nv x.f)).flatMap encRt) from (own_cell encRt_len (own_cell encRt_len (own_cell encRt_len (own_cell encRt_len (own_set (p := ⟨w3.heap.size, 2, none⟩) HO.out (own_ne (by dsimp only; omega) HOl.out) (.int .i64 nv)) HLL.out.symm j0 0 x (Rt.mk x.s x.e x.h x.f) (.int .i64 x.s) (by exact HXX.out) rfl (by omega)) (by simp only [List.length_set]; exact HLL.out.symm) j0 1 (Rt.mk x.s x.e x.h x.f) (Rt.mk x.s x.e x.h x.f) (.int .i64 x.e) (by rw [List.getElem?_set_self (by simp only [List.length_set, ← HLL.out]; omega)]) rfl (by omega)) (by simp only [List.length_set]; exact HLL.out.symm) j0 2 (Rt.mk x.s x.e x.h x.f) (Rt.mk x.s x.e nv x.f) (.int .i64 nv) (by rw [List.getElem?_set_self (by simp only [List.length_set, ← HLL.out]; omega)]) rfl (by omega)) (by simp only [List.length_set]; exact HLL.out.symm) j0 3 (Rt.mk x.s x.e nv x.f) (Rt.mk x.s x.e nv x.f) (.int .i64 x.f) (by rw [List.getElem?_set_self (by simp only [List.length_set, ← HLL.out]; omega)]) rfl (by omega)))
            rw [← hW5] at HC5 HG5 HO5
            have hsW5 : W5.heap.size = w5.heap.size := by rw [hW5]; simp only [World.size_setCell]
            have hsW6 : w5.heap.size ≤ W5.heap.size := by omega
            have HS5 := hide hsW5
            clear hsW5
            go_wp2_with fail
            rw [← hW5]
            clear hW5 HC HG HO HX e0 e1 e2 e3 f0 f1 f2 f3 c0 c1 c2 c3 n0 n1 n2 n3 hne1 hne2
            have HC := HC5
            have HG := HG5
            have HO := HO5
            have HLL := hide (show L = ((((zs.set j0 (Rt.mk x.s x.e x.h x.f)).set j0 (Rt.mk x.s x.e x.h x.f)).set j0 (Rt.mk x.s x.e nv x.f)).set j0 (Rt.mk x.s x.e nv x.f)).length from by simp only [List.length_set]; exact HLL.out)
            clear HC5 HG5 HO5
            go_wp2_with fail
            refine (one_any B g ((m + 2 + 20 * (K - k)) + 6) 24 _ HC.out (by omega) (by omega) (by omega)).mono ?_
            rintro e w16 ⟨bz, rfl, hc, hg⟩
            have HO := hide (own_gr HO.out hg hg0)
            have HG := hide (gr_trans HG.out hg)
            have hsz := hg.size
            have HC := hide hc
            clear hc hg
            have hsz16 := hsz
            clear hsz
            cases bz with
            | false =>
              go_wp2
              go_ret
              exact ⟨_, ((((zs.set j0 (Rt.mk x.s x.e x.h x.f)).set j0 (Rt.mk x.s x.e x.h x.f)).set j0 (Rt.mk x.s x.e nv x.f)).set j0 (Rt.mk x.s x.e nv x.f)), rfl, by rw [← HLL.out]; omega, by rw [← HLL.out]; exact HO.out, HC.out.mono (by omega), HG.out⟩
            | true =>
              have HO := hide (World.ownsRow_made (e := 72) (size := 4) w16 #[] 0 (show w.heap.size ≤ _ by omega) (by simp [maxLen]) (by simp))
              go_wp2_with fail
              go_loopg [3, 8] 12 (fun gk v i wr => ∃ j : Nat, j ≤ 11 ∧ 12 - j ≤ gk ∧ i = .int .i64 (j : Int) ∧ Aside (Cur B wr g (m + 200 + 4 * j)) ∧ Aside (w.grownBy wr (some g)) ∧ Aside (∃ ys : List Rt, ys.length ≤ j ∧ wr.ownsRow w.heap.size 72 4 v ys.length (ys.flatMap encRt)))
              case atStart => exact ⟨0, by omega, by omega, rfl, (HC.out.alloc _).mono (by omega), (gr_alloc HG.out _), ⟨[], by simp, HO.out⟩⟩
              case round =>
                obtain ⟨j, hj, hgj, rfl, CW, GW, OW⟩ := hrel
                clear HLL
                obtain ⟨ys, hyl, ho⟩ := OW.out
                obtain ⟨L2, hL2⟩ : ∃ L2, L2 = ys.length := ⟨_, rfl⟩
                rw [← hL2] at ho hyl
                obtain ⟨yo, yc, rfl, hyc, _, _⟩ := own_rd encRt_len ho hL2.symm
                have HLL := hide hL2
                have hszr2 := GW.out.size
                clear HC HG HO
                have HC := hide CW.out
                have HG := hide GW.out
                have HO := hide ho
                clear OW ho hL2 CW GW
                go_wp2_with fail
                refine (pick_any B g (m + 200 + 4 * j) 2 _ HC.out (by omega) (by omega) (by omega)).mono ?_
                rintro e w41 ⟨p2, rfl, p20, p21, hc, hg⟩
                have HO := hide (own_gr HO.out hg hg0)
                have HG := hide (gr_trans HG.out hg)
                have hsz := hg.size
                have HC := hide hc
                clear hc hg
                have hsz41 := hsz
                clear hsz
                by_cases hlt2 : (j : Int) < 10 + p2
                · obtain ⟨hi, hz0, hz1, hz2⟩ := HI.out
                  go_wp2_with (at_builtin; refine wpList_append_own _ rfl _ _ 31 rfl w.heap.size 72 i0HI (.agg #[.int .i64 0, .int .i64 0, .int .i64 0, .int .i64 0]) 4 32 Try.underlying31 hi hz0 hz1 hz2 rfl (by decide) _ L2 _ rfl (HO.out.alloc _) ⟨w41.heap.size, 0, none⟩ 1 1 [.int .i64 ((j : Int) + 1), .int .i64 100, .int .i64 (10 * (j : Int) % 100), .int .i64 (j : Int)] rfl rfl ?c1 ?c2 ?c3 ?c4 ?c5 ?_)
                  case c1 => exact news_atN #[.int .i64 ((j : Int) + 1), .int .i64 100, .int .i64 (10 * (j : Int) % 100), .int .i64 (j : Int)] (by first | rfl | simp)
                  case c2 => intro u hu; simp only [List.mem_cons, List.not_mem_nil, or_false] at hu; rcases hu with rfl | rfl | rfl | rfl <;> rfl
                  case c3 => unfold maxLen; omega
                  case c4 => omega
                  case c5 => (try simp only [World.size_alloc, World.size_setCell]); omega
                  intro v' w42 hown' hgrow _
                  have HC := hide (cur_app (HC.out.alloc _) (HO.out.alloc _) hgrow hg0)
                  have HG := hide (gr_app (gr_alloc HG.out _) (HO.out.alloc _) hgrow (by omega))
                  have hsz := hgrow.size
                  simp only [World.size_alloc, World.size_setCell] at hsz
                  have HO := hide hown'
                  clear hown' hgrow hi hz0 hz1 hz2
                  have hsz42 := hsz
                  clear hsz
                  go_wp2
                  go_roundg (12 - (j + 1))
                  case measure => omega
                  case rel => exact ⟨j + 1, by omega, by omega, by go_num, HC.out.mono (by omega), HG.out, ⟨ys ++ [Rt.mk ((j : Int) + 1) 100 (10 * (j : Int) % 100) (j : Int)], by simp only [List.length_append, List.length_cons, List.length_nil, ← HLL.out]; omega, by rw [flat_snoc, List.length_append, ← HLL.out]; exact HO.out⟩⟩
                · go_wp2
                  go_ret
                  exact ⟨_, ys, rfl, by rw [← HLL.out]; omega, by rw [← HLL.out]; exact HO.out, HC.out.mono (by omega), HG.out⟩
          · go_wp2_with fail
            refine (among_any B g ((m + 2 + 20 * (K - k)) + 4) _ 2 2 [(-1), 1001] _ (HC.out.alloc _) (Opts.lit (H := w4.heap.size) [(-1), 1001] HC.out.lt rfl rfl) (by omega) (by omega) (by omega)).mono ?_
            rintro e w5 ⟨nv, rfl, _, hc, hg⟩
            have HO := hide (own_gr (HO.out.alloc _) hg hg0)
            have HX := hide (Blk.gr (HX.out.alloc _) hg (by omega))
            have HG := hide (gr_trans (gr_alloc HG.out _) hg)
            have hsz := hg.size
            simp only [World.size_alloc, World.size_setCell] at hsz
            have HC := hide hc
            clear hc hg
            have hsz5 := hsz
            clear hsz
            have e0 := HX.out.cell 0
            have f0 := HX.out.frozen 0
            have e1 := HX.out.cell 1
            have f1 := HX.out.frozen 1
            have e2 := HX.out.cell 2
            have f2 := HX.out.frozen 2
            have e3 := HX.out.cell 3
            have f3 := HX.out.frozen 3
            simp only [List.getElem?_toArray, List.getElem?_cons_zero, List.getElem?_cons_succ] at e0 e1 e2 e3
            rcases own_form encRt_len HO.out HLL.out.symm with ⟨h0, _, _⟩ | ⟨g5, cap5, cs5, hv5, _, hB5, _, _, _, _⟩
            · cases h0
            injection hv5 with hv6 hv7 hv8
            injection hv6 with hv6
            injection hv6 with hv6
            subst hv6
            have hrr := own_rd' encRt_len HO.out HLL.out.symm
            obtain ⟨b5, off5, hvo5, _, hat5⟩ := rdRt hrr (by rw [← HLL.out]; omega)
            injection hvo5 with hvo5
            injection hvo5 with e51 e52 e53
            subst e51 e52
            obtain ⟨x5, hx5, hxc5⟩ := hat5 j0 (by rw [← HLL.out]; exact hjL)
            obtain rfl : x = x5 := by rw [HXX.out] at hx5; injection hx5
            obtain ⟨_, c0, c1, c2, c3⟩ := hxc5 w5 (Below.refl _ _)
            simp only [Nat.zero_add] at c0 c1 c2 c3
            have n0 := hB5.frozen (j0 * 4)
            have n1 := hB5.frozen (j0 * 4 + 1)
            have n2 := hB5.frozen (j0 * 4 + 2)
            have n3 := hB5.frozen (j0 * 4 + 3)
            clear hx5 hxc5 hat5 hB5 hrr hv7 hv8
            have hne1 : gg ≠ w3.heap.size := by omega
            have hne2 : w3.heap.size ≠ gg := by omega
            have HC5 := hide (Cur.set (p := ⟨gg, j0 * 4 + 3, none⟩) (Cur.set (p := ⟨gg, j0 * 4 + 2, none⟩) (Cur.set (p := ⟨gg, j0 * 4 + 1, none⟩) (Cur.set (p := ⟨gg, j0 * 4, none⟩) (Cur.set (p := ⟨w3.heap.size, 3, none⟩) HC.out ⟨by dsimp only; omega, by dsimp only; omega⟩ (.int .i64 nv)) ⟨by dsimp only; omega, by dsimp only; omega⟩ (.int .i64 x.s)) ⟨by dsimp only; omega, by dsimp only; omega⟩ (.int .i64 x.e)) ⟨by dsimp only; omega, by dsimp only; omega⟩ (.int .i64 x.h)) ⟨by dsimp only; omega, by dsimp only; omega⟩ (.int .i64 nv))
            have HG5 := hide (gr_far (p := ⟨gg, j0 * 4 + 3, none⟩) (gr_far (p := ⟨gg, j0 * 4 + 2, none⟩) (gr_far (p := ⟨gg, j0 * 4 + 1, none⟩) (gr_far (p := ⟨gg, j0 * 4, none⟩) (gr_far (p := ⟨w3.heap.size, 3, none⟩) HG.out (by dsimp only; omega) (.int .i64 nv)) (by dsimp only; omega) (.int .i64 x.s)) (by dsimp only; omega) (.int .i64 x.e)) (by dsimp only; omega) (.int .i64 x.h)) (by dsimp only; omega) (.int .i64 nv))
            obtain ⟨W5, hW5⟩ : ∃ W5 : World, W5 = ((((w5.setCell ⟨w3.heap.size, 3, none⟩ (.int .i64 nv)).setCell ⟨gg, j0 * 4, none⟩ (.int .i64 x.s)).setCell ⟨gg, j0 * 4 + 1, none⟩ (.int .i64 x.e)).setCell ⟨gg, j0 * 4 + 2, none⟩ (.int .i64 x.h)).setCell ⟨gg, j0 * 4 + 3, none⟩ (.int .i64 nv) := ⟨_, rfl⟩
            have HO5 := hide (show World.ownsRow (((((w5.setCell ⟨w3.heap.size, 3, none⟩ (.int .i64 nv)).setCell ⟨gg, j0 * 4, none⟩ (.int .i64 x.s)).setCell ⟨gg, j0 * 4 + 1, none⟩ (.int .i64 x.e)).setCell ⟨gg, j0 * 4 + 2, none⟩ (.int .i64 x.h)).setCell ⟨gg, j0 * 4 + 3, none⟩ (.int .i64 nv)) w.heap.size 72 4 (.slice (some ⟨gg, 0, none⟩) L vc) L (((((zs.set j0 (Rt.mk x.s x.e x.h x.f)).set j0 (Rt.mk x.s x.e x.h x.f)).set j0 (Rt.mk x.s x.e x.h x.f)).set j0 (Rt.mk x.s x.e x.h nv)).flatMap encRt) from (own_cell encRt_len (own_cell encRt_len (own_cell encRt_len (own_cell encRt_len (own_set (p := ⟨w3.heap.size, 3, none⟩) HO.out (own_ne (by dsimp only; omega) HOl.out) (.int .i64 nv)) HLL.out.symm j0 0 x (Rt.mk x.s x.e x.h x.f) (.int .i64 x.s) (by exact HXX.out) rfl (by omega)) (by simp only [List.length_set]; exact HLL.out.symm) j0 1 (Rt.mk x.s x.e x.h x.f) (Rt.mk x.s x.e x.h x.f) (.int .i64 x.e) (by rw [List.getElem?_set_self (by simp only [List.length_set, ← HLL.out]; omega)]) rfl (by omega)) (by simp only [List.length_set]; exact HLL.out.symm) j0 2 (Rt.mk x.s x.e x.h x.f) (Rt.mk x.s x.e x.h x.f) (.int .i64 x.h) (by rw [List.getElem?_set_self (by simp only [List.length_set, ← HLL.out]; omega)]) rfl (by omega)) (by simp only [List.length_set]; exact HLL.out.symm) j0 3 (Rt.mk x.s x.e x.h x.f) (Rt.mk x.s x.e x.h nv) (.int .i64 nv) (by rw [List.getElem?_set_self (by simp only [List.length_set, ← HLL.out]; omega)]) rfl (by omega)))
            rw [← hW5] at HC5 HG5 HO5
            have hsW5 : W5.heap.size = w5.heap.size := by rw [hW5]; simp only [World.size_setCell]
            have hsW6 : w5.heap.size ≤ W5.heap.size := by omega
            have HS5 := hide hsW5
            clear hsW5
            go_wp2_with fail
            rw [← hW5]
            clear hW5 HC HG HO HX e0 e1 e2 e3 f0 f1 f2 f3 c0 c1 c2 c3 n0 n1 n2 n3 hne1 hne2
            have HC := HC5
            have HG := HG5
            have HO := HO5
            have HLL := hide (show L = ((((zs.set j0 (Rt.mk x.s x.e x.h x.f)).set j0 (Rt.mk x.s x.e x.h x.f)).set j0 (Rt.mk x.s x.e x.h x.f)).set j0 (Rt.mk x.s x.e x.h nv)).length from by simp only [List.length_set]; exact HLL.out)
            clear HC5 HG5 HO5
            go_wp2_with fail
            refine (one_any B g ((m + 2 + 20 * (K - k)) + 6) 24 _ HC.out (by omega) (by omega) (by omega)).mono ?_
            rintro e w16 ⟨bz, rfl, hc, hg⟩
            have HO := hide (own_gr HO.out hg hg0)
            have HG := hide (gr_trans HG.out hg)
            have hsz := hg.size
            have HC := hide hc
            clear hc hg
            have hsz16 := hsz
            clear hsz
            cases bz with
            | false =>
              go_wp2
              go_ret
              exact ⟨_, ((((zs.set j0 (Rt.mk x.s x.e x.h x.f)).set j0 (Rt.mk x.s x.e x.h x.f)).set j0 (Rt.mk x.s x.e x.h x.f)).set j0 (Rt.mk x.s x.e x.h nv)), rfl, by rw [← HLL.out]; omega, by rw [← HLL.out]; exact HO.out, HC.out.mono (by omega), HG.out⟩
            | true =>
              have HO := hide (World.ownsRow_made (e := 72) (size := 4) w16 #[] 0 (show w.heap.size ≤ _ by omega) (by simp [maxLen]) (by simp))
              go_wp2_with fail
              go_loopg [3, 8] 12 (fun gk v i wr => ∃ j : Nat, j ≤ 11 ∧ 12 - j ≤ gk ∧ i = .int .i64 (j : Int) ∧ Aside (Cur B wr g (m + 200 + 4 * j)) ∧ Aside (w.grownBy wr (some g)) ∧ Aside (∃ ys : List Rt, ys.length ≤ j ∧ wr.ownsRow w.heap.size 72 4 v ys.length (ys.flatMap encRt)))
              case atStart => exact ⟨0, by omega, by omega, rfl, (HC.out.alloc _).mono (by omega), (gr_alloc HG.out _), ⟨[], by simp, HO.out⟩⟩
              case round =>
                obtain ⟨j, hj, hgj, rfl, CW, GW, OW⟩ := hrel
                clear HLL
                obtain ⟨ys, hyl, ho⟩ := OW.out
                obtain ⟨L2, hL2⟩ : ∃ L2, L2 = ys.length := ⟨_, rfl⟩
                rw [← hL2] at ho hyl
                obtain ⟨yo, yc, rfl, hyc, _, _⟩ := own_rd encRt_len ho hL2.symm
                have HLL := hide hL2
                have hszr2 := GW.out.size
                clear HC HG HO
                have HC := hide CW.out
                have HG := hide GW.out
                have HO := hide ho
                clear OW ho hL2 CW GW
                go_wp2_with fail
                refine (pick_any B g (m + 200 + 4 * j) 2 _ HC.out (by omega) (by omega) (by omega)).mono ?_
                rintro e w41 ⟨p2, rfl, p20, p21, hc, hg⟩
                have HO := hide (own_gr HO.out hg hg0)
                have HG := hide (gr_trans HG.out hg)
                have hsz := hg.size
                have HC := hide hc
                clear hc hg
                have hsz41 := hsz
                clear hsz
                by_cases hlt2 : (j : Int) < 10 + p2
                · obtain ⟨hi, hz0, hz1, hz2⟩ := HI.out
                  go_wp2_with (at_builtin; refine wpList_append_own _ rfl _ _ 31 rfl w.heap.size 72 i0HI (.agg #[.int .i64 0, .int .i64 0, .int .i64 0, .int .i64 0]) 4 32 Try.underlying31 hi hz0 hz1 hz2 rfl (by decide) _ L2 _ rfl (HO.out.alloc _) ⟨w41.heap.size, 0, none⟩ 1 1 [.int .i64 ((j : Int) + 1), .int .i64 100, .int .i64 (10 * (j : Int) % 100), .int .i64 (j : Int)] rfl rfl ?c1 ?c2 ?c3 ?c4 ?c5 ?_)
                  case c1 => exact news_atN #[.int .i64 ((j : Int) + 1), .int .i64 100, .int .i64 (10 * (j : Int) % 100), .int .i64 (j : Int)] (by first | rfl | simp)
                  case c2 => intro u hu; simp only [List.mem_cons, List.not_mem_nil, or_false] at hu; rcases hu with rfl | rfl | rfl | rfl <;> rfl
                  case c3 => unfold maxLen; omega
                  case c4 => omega
                  case c5 => (try simp only [World.size_alloc, World.size_setCell]); omega
                  intro v' w42 hown' hgrow _
                  have HC := hide (cur_app (HC.out.alloc _) (HO.out.alloc _) hgrow hg0)
                  have HG := hide (gr_app (gr_alloc HG.out _) (HO.out.alloc _) hgrow (by omega))
                  have hsz := hgrow.size
                  simp only [World.size_alloc, World.size_setCell] at hsz
                  have HO := hide hown'
                  clear hown' hgrow hi hz0 hz1 hz2
                  have hsz42 := hsz
                  clear hsz
                  go_wp2
                  go_roundg (12 - (j + 1))
                  case measure => omega
                  case rel => exact ⟨j + 1, by omega, by omega, by go_num, HC.out.mono (by omega), HG.out, ⟨ys ++ [Rt.mk ((j : Int) + 1) 100 (10 * (j : Int) % 100) (j : Int)], by simp only [List.length_append, List.length_cons, List.length_nil, ← HLL.out]; omega, by rw [flat_snoc, List.length_append, ← HLL.out]; exact HO.out⟩⟩
                · go_wp2
                  go_ret
                  exact ⟨_, ys, rfl, by rw [← HLL.out]; omega, by rw [← HLL.out]; exact HO.out, HC.out.mono (by omega), HG.out⟩
      · obtain rfl : L = 0 := by omega
        clear hl1
        go_wp2_with fail
        refine (one_any B g (m + 2 + 20 * (K - k)) 24 _ HC.out (by omega) (by omega) (by omega)).mono ?_
        rintro e w3 ⟨bz, rfl, hc, hg⟩
        have HO := hide (own_gr HO.out hg hg0)
        have HG := hide (gr_trans HG.out hg)
        have hsz := hg.size
        have HC := hide hc
        clear hc hg
        have hsz3 := hsz
        clear hsz
        cases bz with
        | false =>
          go_wp2
          go_ret
          exact ⟨_, zs, rfl, by rw [← HLL.out]; omega, by rw [← HLL.out]; exact HO.out, HC.out.mono (by omega), HG.out⟩
        | true =>
          have HO := hide (World.ownsRow_made (e := 72) (size := 4) w3 #[] 0 (show w.heap.size ≤ _ by omega) (by simp [maxLen]) (by simp))
          go_wp2_with fail
          go_loopg [3, 8] 12 (fun gk v i wr => ∃ j : Nat, j ≤ 11 ∧ 12 - j ≤ gk ∧ i = .int .i64 (j : Int) ∧ Aside (Cur B wr g (m + 200 + 4 * j)) ∧ Aside (w.grownBy wr (some g)) ∧ Aside (∃ ys : List Rt, ys.length ≤ j ∧ wr.ownsRow w.heap.size 72 4 v ys.length (ys.flatMap encRt)))
          case atStart => exact ⟨0, by omega, by omega, rfl, (HC.out.alloc _).mono (by omega), (gr_alloc HG.out _), ⟨[], by simp, HO.out⟩⟩
          case round =>
            obtain ⟨j, hj, hgj, rfl, CW, GW, OW⟩ := hrel
            clear HLL
            obtain ⟨ys, hyl, ho⟩ := OW.out
            obtain ⟨L2, hL2⟩ : ∃ L2, L2 = ys.length := ⟨_, rfl⟩
            rw [← hL2] at ho hyl
            obtain ⟨yo, yc, rfl, hyc, _, _⟩ := own_rd encRt_len ho hL2.symm
            have HLL := hide hL2
            have hszr2 := GW.out.size
            clear HC HG HO
            have HC := hide CW.out
            have HG := hide GW.out
            have HO := hide ho
            clear OW ho hL2 CW GW
            go_wp2_with fail
            refine (pick_any B g (m + 200 + 4 * j) 2 _ HC.out (by omega) (by omega) (by omega)).mono ?_
            rintro e w41 ⟨p2, rfl, p20, p21, hc, hg⟩
            have HO := hide (own_gr HO.out hg hg0)
            have HG := hide (gr_trans HG.out hg)
            have hsz := hg.size
            have HC := hide hc
            clear hc hg
            have hsz41 := hsz
            clear hsz
            by_cases hlt2 : (j : Int) < 10 + p2
            · obtain ⟨hi, hz0, hz1, hz2⟩ := HI.out
              go_wp2_with (at_builtin; refine wpList_append_own _ rfl _ _ 31 rfl w.heap.size 72 i0HI (.agg #[.int .i64 0, .int .i64 0, .int .i64 0, .int .i64 0]) 4 32 Try.underlying31 hi hz0 hz1 hz2 rfl (by decide) _ L2 _ rfl (HO.out.alloc _) ⟨w41.heap.size, 0, none⟩ 1 1 [.int .i64 ((j : Int) + 1), .int .i64 100, .int .i64 (10 * (j : Int) % 100), .int .i64 (j : Int)] rfl rfl ?c1 ?c2 ?c3 ?c4 ?c5 ?_)
              case c1 => exact news_atN #[.int .i64 ((j : Int) + 1), .int .i64 100, .int .i64 (10 * (j : Int) % 100), .int .i64 (j : Int)] (by first | rfl | simp)
              case c2 => intro u hu; simp only [List.mem_cons, List.not_mem_nil, or_false] at hu; rcases hu with rfl | rfl | rfl | rfl <;> rfl
              case c3 => unfold maxLen; omega
              case c4 => omega
              case c5 => (try simp only [World.size_alloc, World.size_setCell]); omega
              intro v' w42 hown' hgrow _
              have HC := hide (cur_app (HC.out.alloc _) (HO.out.alloc _) hgrow hg0)
              have HG := hide (gr_app (gr_alloc HG.out _) (HO.out.alloc _) hgrow (by omega))
              have hsz := hgrow.size
              simp only [World.size_alloc, World.size_setCell] at hsz
              have HO := hide hown'
              clear hown' hgrow hi hz0 hz1 hz2
              have hsz42 := hsz
              clear hsz
              go_wp2
              go_roundg (12 - (j + 1))
              case measure => omega
              case rel => exact ⟨j + 1, by omega, by omega, by go_num, HC.out.mono (by omega), HG.out, ⟨ys ++ [Rt.mk ((j : Int) + 1) 100 (10 * (j : Int) % 100) (j : Int)], by simp only [List.length_append, List.length_cons, List.length_nil, ← HLL.out]; omega, by rw [flat_snoc, List.length_append, ← HLL.out]; exact HO.out⟩⟩
            · go_wp2
              go_ret
              exact ⟨_, ys, rfl, by rw [← HLL.out]; omega, by rw [← HLL.out]; exact HO.out, HC.out.mono (by omega), HG.out⟩

end Go.Proofs.Ytpghdjehagamlaa
