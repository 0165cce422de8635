/- Atlases drawn. -/
import Derived.Test.YtdgalehipgdhiaaDoorC7
import Derived.Test.YtdgalehipgdhiaaDoorD1
import Derived.Test.YtdgalehipgdhiaaDoorA11g
import Derived.Test.YtdgalehipgdhiaaDoorKit4
import Derived.Deep.RegionWith
namespace Go.Proofs.YtdgalehipgdhiaaDoor
open Go.RowKit
set_option linter.unusedVariables false
set_option linter.unusedSimpArgs false

theorem own_base0 {w : World} {b b2 n k : Nat} {e : TypeId} {v : Value} {xs : List Value} (ho : w.ownsRow b e k v n xs) (h : b2 ≤ b) : w.ownsRow b2 e k v n xs := ⟨ho.1, ho.2.imp id (fun ⟨g, cap, cur, h1, h2, r⟩ => ⟨g, cap, cur, h1, Nat.le_trans h h2, r⟩)⟩

theorem own_cell {α : Type} {enc : α → List Value} {k : Nat} (hk : ∀ x, (enc x).length = k) {w : World} {base n gg cap : Nat} {e : TypeId} {zs : List α} (ho : w.ownsRow base e k (.slice (some ⟨gg, 0, none⟩) n cap) n (zs.flatMap enc)) (hz : zs.length = n)
    (i j : Nat) (x x' : α) (u : Value) (hx : zs[i]? = some x) (he : enc x' = (enc x).set j u) (hj : j < k) : (w.setCell ⟨gg, i * k + j, none⟩ u).ownsRow base e k (.slice (some ⟨gg, 0, none⟩) n cap) n ((zs.set i x').flatMap enc) := by
  rcases own_form hk ho hz with ⟨h, _, _⟩ | ⟨g', cap', cs, hv, hb, hB, hs, hn, hm, ht⟩
  · cases h
  · injection hv with a1 a2 a3
    injection a1 with a1
    injection a1 with a1
    subst a1 a3
    exact own_set1 hk hB hb hs hn hm hz ht i j x x' u hx he hj

set_option maxRecDepth 100000 in
set_option maxHeartbeats 8000000 in
theorem draw_atlas_any (B g m : Nat) (mo : Nat) (w : World) (hc : Cur B w g m) (hm : m ≤ 100000) (hmo : mo ≤ 9) :
    Calls Tryd.prog 56 #[.pointer (some ⟨g, 0, none⟩), .int .i64 mo] w fun e w' => ∃ v, ∃ zs : List Pg, e = .returned v ∧ (∃ gg vc, v = .slice (some ⟨gg, 0, none⟩) zs.length vc) ∧ zs.length ≤ 14 ∧ w'.ownsRow w.heap.size 58 4 v zs.length (zs.flatMap encPg) ∧ Cur B w' g (m + 500) ∧ w.grownBy w' (some g) := by
  have HC := hide hc
  have hg0 := hc.lt
  have hB0 := hc.base
  have HG := hide (gr_refl w (some g))
  have HO := hide (World.ownsRow_made (e := 58) (size := 4) w #[] 0 (Nat.le_refl _) (by simp [maxLen]) (by simp))
  have hw0 : w.heap.size ≤ w.heap.size := Nat.le_refl _
  clear hc
  obtain ⟨i0HI, hi, hz0, hz1, hz2⟩ := info_parts infoPg
  have HI := hide (And.intro hi (And.intro hz0 (And.intro hz1 hz2)))
  clear hi hz0 hz1 hz2
  go_enter Tryd.func56, Tryd.ntmps56
  go_wp2_with fail
  refine (among_any B g m _ 4 4 [0, 0, 5, 97] _ ((HC.out.alloc _).alloc _) (Opts.lit (H := w.heap.size + 1) [0, 0, 5, 97] (HC.out.alloc _).lt rfl (by simp)) (by omega) (by omega) (by omega)).mono ?_
  rintro e w1 ⟨row, rfl, hrow, hc, hg⟩
  have HO := hide (own_gr (HO.out.alloc _) hg hg0)
  have HG := hide (gr_trans (gr_alloc (gr_alloc HG.out _) _) hg)
  have hsz := hg.size
  simp only [World.size_alloc, World.size_setCell] at hsz
  have HC := hide hc
  clear hc hg
  have hsz1 := hsz
  clear hsz
  have hrow2 : 0 ≤ row ∧ row ≤ 97 := by simp only [List.mem_cons, List.not_mem_nil, or_false] at hrow; omega
  clear hrow
  go_wp2_with fail
  refine (among_any B g (m + 2) _ 4 4 [0, 0, 5, 97] _ (HC.out.alloc _) (Opts.lit (H := w1.heap.size) [0, 0, 5, 97] HC.out.lt rfl rfl) (by omega) (by omega) (by omega)).mono ?_
  rintro e w2 ⟨col, rfl, hcol, hc, hg⟩
  have HO := hide (own_gr (HO.out.alloc _) hg hg0)
  have HG := hide (gr_trans (gr_alloc HG.out _) hg)
  have hsz := hg.size
  simp only [World.size_alloc, World.size_setCell] at hsz
  have HC := hide hc
  clear hc hg
  have hsz2 := hsz
  clear hsz
  have hcol2 : 0 ≤ col ∧ col ≤ 97 := by simp only [List.mem_cons, List.not_mem_nil, or_false] at hcol; omega
  clear hcol
  go_wp2_with fail
  refine (pick_any B g (m + 4) ((mo : Int) + 1) _ HC.out (by omega) (by omega) (by omega)).mono ?_
  rintro e w3 ⟨a, rfl, a0, a1, hc, hg⟩
  have HO := hide (own_gr HO.out hg hg0)
  have HG := hide (gr_trans HG.out hg)
  have hsz := hg.size
  have HC := hide hc
  clear hc hg
  have hsz3 := hsz
  clear hsz
  obtain ⟨K, rfl⟩ : ∃ K : Nat, a = (K : Int) := ⟨a.toNat, by omega⟩
  have hK : K ≤ 9 := by omega
  clear a0 a1
  go_wp2_with fail
  go_loopg [5, 8] K (fun gk v i wr => ∃ k : Nat, k ≤ K ∧ k ≤ gk ∧ i = .int .i64 (k : Int) ∧ Aside (Cur B wr g (m + 6 + 30 * (K - k))) ∧ Aside (w.grownBy wr (some g)) ∧ Aside (∃ zs : List Pg, zs.length ≤ K - k ∧ (∃ gg vc, v = .slice (some ⟨gg, 0, none⟩) zs.length vc) ∧ wr.ownsRow w.heap.size 58 4 v zs.length (zs.flatMap encPg)))
  case atStart => exact ⟨K, Nat.le_refl _, Nat.le_refl _, rfl, HC.out.mono (by omega), HG.out, ⟨[], by simp, ⟨_, _, rfl⟩, HO.out⟩⟩
  case round =>
    obtain ⟨k, hk, hgk, rfl, CW, GW, OW⟩ := hrel
    obtain ⟨zs, hzl, ⟨gg, vc, hvv⟩, ho⟩ := OW.out
    obtain ⟨L, hL⟩ : ∃ L, L = zs.length := ⟨_, rfl⟩
    rw [← hL] at ho hzl hvv
    subst hvv
    have HLL := hide hL
    have hszr := GW.out.size
    clear HC HG HO
    have HC := hide CW.out
    have HG := hide GW.out
    have HO := hide ho
    clear OW ho hL CW GW
    by_cases hk0 : 0 < k
    · have hk1 : (0 : Int) < (k : Int) := by omega
      have HOl := hide (own_lt2 HO.out (N := wr.heap.size) (Nat.le_refl _))
      have HE0 := hide (World.ownsRow_made (e := 58) (size := 4) wr #[] 0 (Nat.le_refl _) (by simp [maxLen]) (by simp))
      have hrdO := own_rd' encPg_len HO.out HLL.out.symm
      obtain ⟨hi, hz0, hz1, hz2⟩ := HI.out
      go_wp2_with (at_builtin; refine wpList_append_own _ rfl _ _ 26 rfl wr.heap.size 58 i0HI (.agg #[.int .i64 0, .int .i64 0, .int .i64 0, .int .i64 0]) 4 32 Tryd.underlying26 hi hz0 hz1 hz2 rfl (by decide) _ 0 _ rfl HE0.out ⟨gg, 0, none⟩ L vc (zs.flatMap encPg) rfl ?c0 ?c1 ?c2 ?c3 ?c4 ?c5 ?_)
      case c0 => rw [flat_len encPg_len, ← HLL.out]
      case c1 => exact rd_flat encPg_len (hrdO.alloc _)
      case c2 => exact flat_one encPg_one _
      case c3 => unfold maxLen; omega
      case c4 => omega
      case c5 => (try simp only [World.size_alloc]); omega
      intro v1 w4 hown' hgrow _
      have HO := hide (own_only (HO.out.alloc _) hgrow (own_ap HOl.out HE0.out))
      have HC := hide (cur_app (HC.out.alloc _) HE0.out hgrow (by omega))
      have HG := hide (gr_app (gr_alloc HG.out _) HE0.out hgrow (by omega))
      have HE : Hid (w4.ownsRow wr.heap.size 58 4 v1 L (zs.flatMap encPg)) := hide (by first | exact hown' | (rw [Nat.zero_add, List.nil_append] at hown'; exact hown'))
      have hsz := hgrow.size
      simp only [World.size_alloc] at hsz
      have hsz4 := hsz
      have hgE : g < wr.heap.size := by omega
      clear hown' hgrow hsz hrdO hi hz0 hz1 hz2 HE0
      go_wp2_with fail
      refine (pick_any B g (m + 6 + 30 * (K - k)) 3 _ HC.out (by omega) (by omega) (by omega)).mono ?_
      rintro e w5 ⟨p, rfl, p0, p1, hc, hg⟩
      have HO := hide (own_gr HO.out hg hg0)
      have HE := hide (own_gr HE.out hg hgE)
      have HG := hide (gr_trans HG.out hg)
      have hsz := hg.size
      have HC := hide hc
      clear hc hg
      have hsz5 := hsz
      clear hsz
      go_wp2_with fail
      refine (pick_any B g ((m + 6 + 30 * (K - k)) + 2) 3 _ HC.out (by omega) (by omega) (by omega)).mono ?_
      rintro e w6 ⟨q, rfl, q0, q1, hc, hg⟩
      have HO := hide (own_gr HO.out hg hg0)
      have HE := hide (own_gr HE.out hg hgE)
      have HG := hide (gr_trans HG.out hg)
      have hsz := hg.size
      have HC := hide hc
      clear hc hg
      have hsz6 := hsz
      clear hsz
      go_wp2_with fail
      refine (among_any B g ((m + 6 + 30 * (K - k)) + 4) _ 4 4 [0, 5, 10, 40] _ (HC.out.alloc _) (Opts.lit (H := w6.heap.size) [0, 5, 10, 40] HC.out.lt rfl rfl) (by omega) (by omega) (by omega)).mono ?_
      rintro e w7 ⟨lp, rfl, _, hc, hg⟩
      have HO := hide (own_gr (HO.out.alloc _) hg hg0)
      have HE := hide (own_gr (HE.out.alloc _) hg hgE)
      have HG := hide (gr_trans (gr_alloc HG.out _) hg)
      have hsz := hg.size
      simp only [World.size_alloc, World.size_setCell] at hsz
      have HC := hide hc
      clear hc hg
      have hsz7 := hsz
      clear hsz
      obtain ⟨hi, hz0, hz1, hz2⟩ := HI.out
      go_wp2_with (at_builtin; refine wpList_append_own _ rfl _ _ 26 rfl wr.heap.size 58 i0HI (.agg #[.int .i64 0, .int .i64 0, .int .i64 0, .int .i64 0]) 4 32 Tryd.underlying26 hi hz0 hz1 hz2 rfl (by decide) _ L _ rfl (HE.out.alloc _) ⟨w7.heap.size, 0, none⟩ 1 1 [.int .i64 ((L : Int) + 1), .int .i64 (row + p), .int .i64 (col + q), .int .i64 lp] rfl rfl ?c1 ?c2 ?c3 ?c4 ?c5 ?_)
      case c1 => exact news_atN #[.int .i64 ((L : Int) + 1), .int .i64 (row + p), .int .i64 (col + q), .int .i64 lp] (by first | rfl | simp)
      case c2 => intro u hu; simp only [List.mem_cons, List.not_mem_nil, or_false] at hu; rcases hu with rfl | rfl | rfl | rfl <;> rfl
      case c3 => unfold maxLen; omega
      case c4 => omega
      case c5 => (try simp only [World.size_alloc, World.size_setCell]); omega
      intro v' w8 hown' hgrow _
      have HO := hide (own_only (HO.out.alloc _) hgrow (own_ap HOl.out HE.out))
      have HC := hide (cur_app (HC.out.alloc _) (HE.out.alloc _) hgrow hgE)
      have HG := hide (gr_app (gr_alloc HG.out _) (HE.out.alloc _) hgrow (by omega))
      have hsz := hgrow.size
      simp only [World.size_alloc, World.size_setCell] at hsz
      have HE := hide hown'
      clear hown' hgrow hi hz0 hz1 hz2
      have hsz8 := hsz
      clear hsz
      obtain ⟨x, hx⟩ : ∃ x, x = (Pg.mk ((L : Int) + 1) (row + p) (col + q) lp) := ⟨_, rfl⟩
      have HLE : Hid (L + 1 = (zs ++ [x]).length) := hide (by simp only [List.length_append, List.length_cons, List.length_nil, ← HLL.out])
      have HE2 : Hid (w8.ownsRow wr.heap.size 58 4 v' (L + 1) ((zs ++ [x]).flatMap encPg)) := hide (by rw [flat_snoc, hx]; exact HE.out)
      clear hx
      rcases own_form encPg_len HE2.out HLE.out.symm with ⟨_, h0, _⟩ | ⟨ge, ce, cse, hve, _, _, _, hnce, _, _⟩
      · omega
      subst hve
      clear HE
      have HE := HE2
      clear HE2
      obtain ⟨lb, hlb⟩ : ∃ lb, atlasB (zs ++ [x]) = lb := ⟨_, rfl⟩
      have HLB := hide hlb
      clear hlb
      go_wp2_with fail
      refine (l13GoodC_any _ (L + 1) ce (zs ++ [x]) hnce _ HLE.out.symm (by omega) (own_rd' encPg_len HE.out HLE.out.symm)).mono ?_
      rintro e w9 ⟨rfl, hb⟩
      have HO := hide (own_step HO.out hb)
      have HE := hide (own_step HE.out hb)
      have HG := hide (gr_step HG.out hb)
      have HC := hide (HC.out.below hb)
      have hsz := hb.size
      rw [HLB.out]
      clear hb
      have hsz9 := hsz
      clear hsz
      cases lb with
      | true =>
        go_wp2
        go_roundg (k - 1)
        case measure => omega
        case rel => exact ⟨k - 1, by omega, by omega, by congr 1; omega, HC.out.mono (by omega), HG.out, ⟨zs ++ [x], by rw [← HLE.out]; omega, ⟨_, _, by rw [← HLE.out]⟩, by rw [← HLE.out]; exact own_base0 HE.out (by omega)⟩⟩
      | false =>
        go_wp2_with fail
        refine (one_any B g ((m + 6 + 30 * (K - k)) + 6) 60 _ HC.out (by omega) (by omega) (by omega)).mono ?_
        rintro e w10 ⟨bb, rfl, hc, hg⟩
        have HO := hide (own_gr HO.out hg hg0)
        have HE := hide (own_gr HE.out hg hgE)
        have HG := hide (gr_trans HG.out hg)
        have hsz := hg.size
        have HC := hide hc
        clear hc hg
        have hsz10 := hsz
        clear hsz
        cases bb with
        | true =>
          go_wp2
          go_roundg (k - 1)
          case measure => omega
          case rel => exact ⟨k - 1, by omega, by omega, by congr 1; omega, HC.out.mono (by omega), HG.out, ⟨zs ++ [x], by rw [← HLE.out]; omega, ⟨_, _, by rw [← HLE.out]⟩, by rw [← HLE.out]; exact own_base0 HE.out (by omega)⟩⟩
        | false =>
          go_wp2
          go_roundg (k - 1)
          case measure => omega
          case rel => exact ⟨k - 1, by omega, by omega, by congr 1; omega, HC.out.mono (by omega), HG.out, ⟨zs, by rw [← HLL.out]; omega, ⟨_, _, by rw [← HLL.out]⟩, by rw [← HLL.out]; exact HO.out⟩⟩
    · have hk1 : ¬ (0 : Int) < (k : Int) := by omega
      have hL9 : L ≤ 9 := by omega
      have HC9 : Cur B wr g (m + 300) := HC.out.mono (by omega)
      clear HC
      have HC := hide HC9
      clear HC9
      by_cases hl1 : 0 < L
      · have hl2 : (0 : Int) < (L : Int) := by omega
        go_wp2_with fail
        refine (one_any B g (m + 300) 12 _ HC.out (by omega) (by omega) (by omega)).mono ?_
        rintro e w4 ⟨bb, rfl, hc, hg⟩
        have HO := hide (own_gr HO.out hg hg0)
        have HG := hide (gr_trans HG.out hg)
        have hsz := hg.size
        have HC := hide hc
        clear hc hg
        have hsz4 := hsz
        clear hsz
        cases bb with
        | false =>
          go_wp2_with fail
          refine (one_any B g ((m + 300) + 2) 24 _ HC.out (by omega) (by omega) (by omega)).mono ?_
          rintro e w5 ⟨bz, rfl, hc, hg⟩
          have HO := hide (own_gr HO.out hg hg0)
          have HG := hide (gr_trans HG.out hg)
          have hsz := hg.size
          have HC := hide hc
          clear hc hg
          have hsz5 := hsz
          clear hsz
          cases bz with
          | false =>
            go_wp2
            go_ret
            exact ⟨.slice (some ⟨gg, 0, none⟩) L vc, zs, rfl, ⟨gg, vc, by rw [← HLL.out]⟩, by rw [← HLL.out]; omega, by rw [← HLL.out]; exact HO.out, HC.out.mono (by omega), HG.out⟩
          | true =>
            have HO := hide (World.ownsRow_made (e := 58) (size := 4) w5 #[] 0 (show w.heap.size ≤ _ by omega) (by simp [maxLen]) (by simp))
            go_wp2_with fail
            go_loopg [5, 12] 14 (fun gk v i wr => ∃ j : Nat, j ≤ 13 ∧ 14 - j ≤ gk ∧ i = .int .i64 (j : Int) ∧ Aside (Cur B wr g (m + 360 + 4 * j)) ∧ Aside (w.grownBy wr (some g)) ∧ Aside (∃ zs : List Pg, zs.length ≤ j ∧ (∃ gg vc, v = .slice (some ⟨gg, 0, none⟩) zs.length vc) ∧ wr.ownsRow w.heap.size 58 4 v zs.length (zs.flatMap encPg)))
            case atStart => exact ⟨0, by omega, by omega, rfl, (HC.out.alloc _).mono (by omega), (gr_alloc HG.out _), ⟨[], by simp, ⟨_, _, rfl⟩, HO.out⟩⟩
            case round =>
              obtain ⟨j, hj, hgj, rfl, CW, GW, OW⟩ := hrel
              clear HLL
              obtain ⟨ys, hyl, ⟨gy, yc, hvv⟩, ho⟩ := OW.out
              obtain ⟨L2, hL2⟩ : ∃ L2, L2 = ys.length := ⟨_, rfl⟩
              rw [← hL2] at ho hyl hvv
              subst hvv
              have HLL2 := hide hL2
              have hszr2 := GW.out.size
              clear HC HG HO
              have HC := hide CW.out
              have HG := hide GW.out
              have HO := hide ho
              clear OW ho hL2 CW GW
              go_wp2_with fail
              refine (pick_any B g (m + 360 + 4 * j) 2 _ HC.out (by omega) (by omega) (by omega)).mono ?_
              rintro e w61 ⟨p2, rfl, p20, p21, hc, hg⟩
              have HO := hide (own_gr HO.out hg hg0)
              have HG := hide (gr_trans HG.out hg)
              have hsz := hg.size
              have HC := hide hc
              clear hc hg
              have hsz61 := hsz
              clear hsz
              by_cases hlt2 : (j : Int) < 12 + p2
              · obtain ⟨hi, hz0, hz1, hz2⟩ := HI.out
                go_wp2_with (at_builtin; refine wpList_append_own _ rfl _ _ 26 rfl w.heap.size 58 i0HI (.agg #[.int .i64 0, .int .i64 0, .int .i64 0, .int .i64 0]) 4 32 Tryd.underlying26 hi hz0 hz1 hz2 rfl (by decide) _ L2 _ rfl (HO.out.alloc _) ⟨w61.heap.size, 0, none⟩ 1 1 [.int .i64 ((j : Int) + 1), .int .i64 (3 * ((j : Int) % 4)), .int .i64 ((j : Int) / 4), .int .i64 7] rfl rfl ?c1 ?c2 ?c3 ?c4 ?c5 ?_)
                case c1 => exact news_atN #[.int .i64 ((j : Int) + 1), .int .i64 (3 * ((j : Int) % 4)), .int .i64 ((j : Int) / 4), .int .i64 7] (by first | rfl | simp)
                case c2 => intro u hu; simp only [List.mem_cons, List.not_mem_nil, or_false] at hu; rcases hu with rfl | rfl | rfl | rfl <;> rfl
                case c3 => unfold maxLen; omega
                case c4 => omega
                case c5 => (try simp only [World.size_alloc, World.size_setCell]); omega
                intro v' w62 hown' hgrow _
                have HC := hide (cur_app (HC.out.alloc _) (HO.out.alloc _) hgrow hg0)
                have HG := hide (gr_app (gr_alloc HG.out _) (HO.out.alloc _) hgrow (by omega))
                have hsz := hgrow.size
                simp only [World.size_alloc, World.size_setCell] at hsz
                have HO := hide hown'
                clear hown' hgrow hi hz0 hz1 hz2
                have hsz62 := hsz
                clear hsz
                have HLE : Hid (L2 + 1 = (ys ++ [(Pg.mk ((j : Int) + 1) (3 * ((j : Int) % 4)) ((j : Int) / 4) 7)]).length) := hide (by simp only [List.length_append, List.length_cons, List.length_nil, ← HLL2.out])
                have HE2 : Hid (w62.ownsRow w.heap.size 58 4 v' (L2 + 1) ((ys ++ [(Pg.mk ((j : Int) + 1) (3 * ((j : Int) % 4)) ((j : Int) / 4) 7)]).flatMap encPg)) := hide (by rw [flat_snoc]; exact HO.out)
                rcases own_form encPg_len HE2.out HLE.out.symm with ⟨_, h0, _⟩ | ⟨ge, ce, cse, hve, _, _, _, _, _, _⟩
                · omega
                subst hve
                go_wp2
                go_roundg (14 - (j + 1))
                case measure => omega
                case rel => exact ⟨j + 1, by omega, by omega, by go_num, HC.out.mono (by omega), HG.out, ⟨ys ++ [(Pg.mk ((j : Int) + 1) (3 * ((j : Int) % 4)) ((j : Int) / 4) 7)], by rw [← HLE.out]; omega, ⟨_, _, by rw [← HLE.out]⟩, by rw [← HLE.out]; exact HE2.out⟩⟩
              · go_wp2
                go_ret
                exact ⟨.slice (some ⟨gy, 0, none⟩) L2 yc, ys, rfl, ⟨gy, yc, by rw [← HLL2.out]⟩, by rw [← HLL2.out]; omega, by rw [← HLL2.out]; exact HO.out, HC.out.mono (by omega), HG.out⟩
        | true =>
          obtain ⟨j0, hj0⟩ : ∃ j0, L = j0 + 1 := ⟨L - 1, by omega⟩
          have hjL : j0 < L := by omega
          rcases own_form encPg_len HO.out HLL.out.symm with ⟨_, h0, _⟩ | ⟨gg2, cap, cs, hv, hgb, hBg, _, _, _, _⟩
          · omega
          injection hv with hv1 hv2 hv3
          injection hv1 with hv1
          injection hv1 with hv1
          subst hv1 hv3
          have hggs := hBg.lt
          clear hBg hv2
          obtain ⟨b_, off_, hvo_, _, hat_⟩ := rdPg (own_rd' encPg_len HO.out HLL.out.symm) (by rw [← HLL.out]; omega)
          injection hvo_ with hvo_
          injection hvo_ with e1_ e2_ e3_
          subst e1_ e2_
          obtain ⟨x, hx, hxc_⟩ := hat_ j0 (by rw [← HLL.out]; omega)
          obtain ⟨_, c0, c1, c2, c3⟩ := hxc_ w4 (Below.refl _ _)
          simp only [Nat.zero_add, Nat.zero_mul] at c0 c1 c2 c3
          clear hxc_ hat_
          have HXX := hide hx
          clear hx
          have k5 : IntKind.i64.wrap ((L : Int) - 1) = (L : Int) - 1 := IntWalk.i64_in _ (by omega)
          have k6 : ((L : Int) - 1).toNat = j0 := by omega
          have k7 : (0 : Int) ≤ (L : Int) - 1 := by omega
          have k8 : (L : Int) - 1 < (L : Int) := by omega
          have k9 : (L : Int) - 1 = (j0 : Int) := by omega
          clear hj0
          have HOl := hide (own_lt2 HO.out (N := w4.heap.size) (Nat.le_refl _))
          have HX0 := hide (Blk.new w4 58 #[.int .i64 x.n, .int .i64 x.r, .int .i64 x.c, .int .i64 x.l])
          go_wp2_with fail
          refine (pick_any B g ((m + 300) + 2) 5 _ (HC.out.alloc (.cells #[.int .i64 x.n, .int .i64 x.r, .int .i64 x.c, .int .i64 x.l] 58)) (by omega) (by omega) (by omega)).mono ?_
          rintro e w5 ⟨y, rfl, y0, y1, hc, hg⟩
          have hXg : w4.heap.size ≠ g := by omega
          have hXw : w.heap.size ≤ w4.heap.size := by omega
          have HX := hide (Blk.gr HX0.out hg hXg)
          have HO := hide (own_gr (HO.out.alloc (.cells #[.int .i64 x.n, .int .i64 x.r, .int .i64 x.c, .int .i64 x.l] 58)) hg hg0)
          have HG := hide (gr_trans (gr_alloc HG.out (.cells #[.int .i64 x.n, .int .i64 x.r, .int .i64 x.c, .int .i64 x.l] 58)) hg)
          have hsz := hg.size
          simp only [World.size_alloc, World.size_setCell] at hsz
          have HC := hide hc
          clear hc hg HX0
          have hsz5 := hsz
          clear hsz
          clear c0 c1 c2 c3
          have hy5 : y = 0 ∨ y = 1 ∨ y = 2 ∨ y = 3 ∨ y = 4 := by omega
          clear y0 y1
          rcases hy5 with rfl | rfl | rfl | rfl | rfl
          · go_wp2_with fail
            refine (among_any B g ((m + 300) + 4) _ 2 2 [0, ((L : Int) + 1)] _ (HC.out.alloc _) (Opts.lit (H := w5.heap.size) [0, ((L : Int) + 1)] HC.out.lt rfl rfl) (by omega) (by omega) (by omega)).mono ?_
            rintro e w6 ⟨nv, rfl, _, hc, hg⟩
            have HO := hide (own_gr (HO.out.alloc _) hg hg0)
            have HX := hide (Blk.gr (HX.out.alloc _) hg (by omega))
            have HG := hide (gr_trans (gr_alloc HG.out _) hg)
            have hsz := hg.size
            simp only [World.size_alloc, World.size_setCell] at hsz
            have HC := hide hc
            clear hc hg
            have hsz6 := hsz
            clear hsz
            have e0 := HX.out.cell 0
            have f0 := HX.out.frozen 0
            have e1 := HX.out.cell 1
            have f1 := HX.out.frozen 1
            have e2 := HX.out.cell 2
            have f2 := HX.out.frozen 2
            have e3 := HX.out.cell 3
            have f3 := HX.out.frozen 3
            simp only [List.getElem?_toArray, List.getElem?_cons_zero, List.getElem?_cons_succ] at e0 e1 e2 e3
            rcases own_form encPg_len HO.out HLL.out.symm with ⟨h0, _, _⟩ | ⟨g5, cap5, cs5, hv5, _, hB5, _, _, _, _⟩
            · cases h0
            injection hv5 with hv6 hv7 hv8
            injection hv6 with hv6
            injection hv6 with hv6
            subst hv6
            have n0 := hB5.frozen (j0 * 4)
            have n1 := hB5.frozen (j0 * 4 + 1)
            have n2 := hB5.frozen (j0 * 4 + 2)
            have n3 := hB5.frozen (j0 * 4 + 3)
            clear hB5 hv7 hv8
            obtain ⟨b_, off_, hvo_, _, hat_⟩ := rdPg (own_rd' encPg_len HO.out HLL.out.symm) (by rw [← HLL.out]; omega)
            injection hvo_ with hvo_
            injection hvo_ with e1_ e2_ e3_
            subst e1_ e2_
            obtain ⟨x5, hx5, hxc_⟩ := hat_ j0 (by rw [← HLL.out]; omega)
            obtain ⟨_, c0, c1, c2, c3⟩ := hxc_ w6 (Below.refl _ _)
            simp only [Nat.zero_add, Nat.zero_mul] at c0 c1 c2 c3
            clear hxc_ hat_
            obtain rfl : x = x5 := by rw [HXX.out] at hx5; injection hx5
            clear hx5
            have hne1 : gg ≠ w4.heap.size := by omega
            have hne2 : w4.heap.size ≠ gg := by omega
            have HC5 := hide (Cur.set (p := ⟨gg, j0 * 4 + 3, none⟩) (Cur.set (p := ⟨gg, j0 * 4 + 2, none⟩) (Cur.set (p := ⟨gg, j0 * 4 + 1, none⟩) (Cur.set (p := ⟨gg, j0 * 4, none⟩) (Cur.set (p := ⟨w4.heap.size, 0, none⟩) HC.out ⟨by dsimp only; omega, by dsimp only; omega⟩ (.int .i64 nv)) ⟨by dsimp only; omega, by dsimp only; omega⟩ (.int .i64 nv)) ⟨by dsimp only; omega, by dsimp only; omega⟩ (.int .i64 x.r)) ⟨by dsimp only; omega, by dsimp only; omega⟩ (.int .i64 x.c)) ⟨by dsimp only; omega, by dsimp only; omega⟩ (.int .i64 x.l))
            have HG5 := hide (gr_far (p := ⟨gg, j0 * 4 + 3, none⟩) (gr_far (p := ⟨gg, j0 * 4 + 2, none⟩) (gr_far (p := ⟨gg, j0 * 4 + 1, none⟩) (gr_far (p := ⟨gg, j0 * 4, none⟩) (gr_far (p := ⟨w4.heap.size, 0, none⟩) HG.out (by dsimp only; omega) (.int .i64 nv)) (by dsimp only; omega) (.int .i64 nv)) (by dsimp only; omega) (.int .i64 x.r)) (by dsimp only; omega) (.int .i64 x.c)) (by dsimp only; omega) (.int .i64 x.l))
            obtain ⟨W5, hW5⟩ : ∃ W5 : World, W5 = (((((w6).setCell ⟨w4.heap.size, 0, none⟩ (.int .i64 nv)).setCell ⟨gg, j0 * 4, none⟩ (.int .i64 nv)).setCell ⟨gg, j0 * 4 + 1, none⟩ (.int .i64 x.r)).setCell ⟨gg, j0 * 4 + 2, none⟩ (.int .i64 x.c)).setCell ⟨gg, j0 * 4 + 3, none⟩ (.int .i64 x.l) := ⟨_, rfl⟩
            have HO5 := hide (show World.ownsRow ((((((w6).setCell ⟨w4.heap.size, 0, none⟩ (.int .i64 nv)).setCell ⟨gg, j0 * 4, none⟩ (.int .i64 nv)).setCell ⟨gg, j0 * 4 + 1, none⟩ (.int .i64 x.r)).setCell ⟨gg, j0 * 4 + 2, none⟩ (.int .i64 x.c)).setCell ⟨gg, j0 * 4 + 3, none⟩ (.int .i64 x.l)) w.heap.size 58 4 (.slice (some ⟨gg, 0, none⟩) L vc) L (((((zs.set j0 (Pg.mk nv x.r x.c x.l)).set j0 (Pg.mk nv x.r x.c x.l)).set j0 (Pg.mk nv x.r x.c x.l)).set j0 (Pg.mk nv x.r x.c x.l)).flatMap encPg) from (own_cell encPg_len (own_cell encPg_len (own_cell encPg_len (own_cell encPg_len (own_set (p := ⟨w4.heap.size, 0, none⟩) HO.out (own_ne (by dsimp only; omega) HOl.out) (.int .i64 nv)) HLL.out.symm j0 0 x (Pg.mk nv x.r x.c x.l) (.int .i64 nv) (by exact HXX.out) rfl (by omega)) (by simp only [List.length_set]; exact HLL.out.symm) j0 1 (Pg.mk nv x.r x.c x.l) (Pg.mk nv x.r x.c x.l) (.int .i64 x.r) (by rw [List.getElem?_set_self (by simp only [List.length_set, ← HLL.out]; omega)]) rfl (by omega)) (by simp only [List.length_set]; exact HLL.out.symm) j0 2 (Pg.mk nv x.r x.c x.l) (Pg.mk nv x.r x.c x.l) (.int .i64 x.c) (by rw [List.getElem?_set_self (by simp only [List.length_set, ← HLL.out]; omega)]) rfl (by omega)) (by simp only [List.length_set]; exact HLL.out.symm) j0 3 (Pg.mk nv x.r x.c x.l) (Pg.mk nv x.r x.c x.l) (.int .i64 x.l) (by rw [List.getElem?_set_self (by simp only [List.length_set, ← HLL.out]; omega)]) rfl (by omega)))
            rw [← hW5] at HC5 HG5 HO5
            have hsW5 : W5.heap.size = w6.heap.size := by rw [hW5]; simp only [World.size_setCell]
            have hsW6 : w6.heap.size ≤ W5.heap.size := by omega
            have HS5 := hide hsW5
            clear hsW5
            go_wp2_with fail
            rw [← hW5]
            clear hW5 HC HG HO HX e0 e1 e2 e3 f0 f1 f2 f3 c0 c1 c2 c3 n0 n1 n2 n3 hne1 hne2
            have HC := HC5
            have HG := HG5
            have HO := HO5
            have HLL := hide (show L = ((((zs.set j0 (Pg.mk nv x.r x.c x.l)).set j0 (Pg.mk nv x.r x.c x.l)).set j0 (Pg.mk nv x.r x.c x.l)).set j0 (Pg.mk nv x.r x.c x.l)).length from by simp only [List.length_set]; exact HLL.out)
            clear HC5 HG5 HO5
            go_wp2_with fail
            refine (one_any B g ((m + 300) + 6) 24 _ HC.out (by omega) (by omega) (by omega)).mono ?_
            rintro e w17 ⟨bz, rfl, hc, hg⟩
            have HO := hide (own_gr HO.out hg hg0)
            have HG := hide (gr_trans HG.out hg)
            have hsz := hg.size
            have HC := hide hc
            clear hc hg
            have hsz17 := hsz
            clear hsz
            cases bz with
            | false =>
              go_wp2
              go_ret
              exact ⟨.slice (some ⟨gg, 0, none⟩) L vc, ((((zs.set j0 (Pg.mk nv x.r x.c x.l)).set j0 (Pg.mk nv x.r x.c x.l)).set j0 (Pg.mk nv x.r x.c x.l)).set j0 (Pg.mk nv x.r x.c x.l)), rfl, ⟨gg, vc, by rw [← HLL.out]⟩, by rw [← HLL.out]; omega, by rw [← HLL.out]; exact HO.out, HC.out.mono (by omega), HG.out⟩
            | true =>
              have HO := hide (World.ownsRow_made (e := 58) (size := 4) w17 #[] 0 (show w.heap.size ≤ _ by omega) (by simp [maxLen]) (by simp))
              go_wp2_with fail
              go_loopg [5, 12] 14 (fun gk v i wr => ∃ j : Nat, j ≤ 13 ∧ 14 - j ≤ gk ∧ i = .int .i64 (j : Int) ∧ Aside (Cur B wr g (m + 360 + 4 * j)) ∧ Aside (w.grownBy wr (some g)) ∧ Aside (∃ zs : List Pg, zs.length ≤ j ∧ (∃ gg vc, v = .slice (some ⟨gg, 0, none⟩) zs.length vc) ∧ wr.ownsRow w.heap.size 58 4 v zs.length (zs.flatMap encPg)))
              case atStart => exact ⟨0, by omega, by omega, rfl, (HC.out.alloc _).mono (by omega), (gr_alloc HG.out _), ⟨[], by simp, ⟨_, _, rfl⟩, HO.out⟩⟩
              case round =>
                obtain ⟨j, hj, hgj, rfl, CW, GW, OW⟩ := hrel
                clear HLL
                obtain ⟨ys, hyl, ⟨gy, yc, hvv⟩, ho⟩ := OW.out
                obtain ⟨L2, hL2⟩ : ∃ L2, L2 = ys.length := ⟨_, rfl⟩
                rw [← hL2] at ho hyl hvv
                subst hvv
                have HLL2 := hide hL2
                have hszr2 := GW.out.size
                clear HC HG HO
                have HC := hide CW.out
                have HG := hide GW.out
                have HO := hide ho
                clear OW ho hL2 CW GW
                go_wp2_with fail
                refine (pick_any B g (m + 360 + 4 * j) 2 _ HC.out (by omega) (by omega) (by omega)).mono ?_
                rintro e w61 ⟨p2, rfl, p20, p21, hc, hg⟩
                have HO := hide (own_gr HO.out hg hg0)
                have HG := hide (gr_trans HG.out hg)
                have hsz := hg.size
                have HC := hide hc
                clear hc hg
                have hsz61 := hsz
                clear hsz
                by_cases hlt2 : (j : Int) < 12 + p2
                · obtain ⟨hi, hz0, hz1, hz2⟩ := HI.out
                  go_wp2_with (at_builtin; refine wpList_append_own _ rfl _ _ 26 rfl w.heap.size 58 i0HI (.agg #[.int .i64 0, .int .i64 0, .int .i64 0, .int .i64 0]) 4 32 Tryd.underlying26 hi hz0 hz1 hz2 rfl (by decide) _ L2 _ rfl (HO.out.alloc _) ⟨w61.heap.size, 0, none⟩ 1 1 [.int .i64 ((j : Int) + 1), .int .i64 (3 * ((j : Int) % 4)), .int .i64 ((j : Int) / 4), .int .i64 7] rfl rfl ?c1 ?c2 ?c3 ?c4 ?c5 ?_)
                  case c1 => exact news_atN #[.int .i64 ((j : Int) + 1), .int .i64 (3 * ((j : Int) % 4)), .int .i64 ((j : Int) / 4), .int .i64 7] (by first | rfl | simp)
                  case c2 => intro u hu; simp only [List.mem_cons, List.not_mem_nil, or_false] at hu; rcases hu with rfl | rfl | rfl | rfl <;> rfl
                  case c3 => unfold maxLen; omega
                  case c4 => omega
                  case c5 => (try simp only [World.size_alloc, World.size_setCell]); omega
                  intro v' w62 hown' hgrow _
                  have HC := hide (cur_app (HC.out.alloc _) (HO.out.alloc _) hgrow hg0)
                  have HG := hide (gr_app (gr_alloc HG.out _) (HO.out.alloc _) hgrow (by omega))
                  have hsz := hgrow.size
                  simp only [World.size_alloc, World.size_setCell] at hsz
                  have HO := hide hown'
                  clear hown' hgrow hi hz0 hz1 hz2
                  have hsz62 := hsz
                  clear hsz
                  have HLE : Hid (L2 + 1 = (ys ++ [(Pg.mk ((j : Int) + 1) (3 * ((j : Int) % 4)) ((j : Int) / 4) 7)]).length) := hide (by simp only [List.length_append, List.length_cons, List.length_nil, ← HLL2.out])
                  have HE2 : Hid (w62.ownsRow w.heap.size 58 4 v' (L2 + 1) ((ys ++ [(Pg.mk ((j : Int) + 1) (3 * ((j : Int) % 4)) ((j : Int) / 4) 7)]).flatMap encPg)) := hide (by rw [flat_snoc]; exact HO.out)
                  rcases own_form encPg_len HE2.out HLE.out.symm with ⟨_, h0, _⟩ | ⟨ge, ce, cse, hve, _, _, _, _, _, _⟩
                  · omega
                  subst hve
                  go_wp2
                  go_roundg (14 - (j + 1))
                  case measure => omega
                  case rel => exact ⟨j + 1, by omega, by omega, by go_num, HC.out.mono (by omega), HG.out, ⟨ys ++ [(Pg.mk ((j : Int) + 1) (3 * ((j : Int) % 4)) ((j : Int) / 4) 7)], by rw [← HLE.out]; omega, ⟨_, _, by rw [← HLE.out]⟩, by rw [← HLE.out]; exact HE2.out⟩⟩
                · go_wp2
                  go_ret
                  exact ⟨.slice (some ⟨gy, 0, none⟩) L2 yc, ys, rfl, ⟨gy, yc, by rw [← HLL2.out]⟩, by rw [← HLL2.out]; omega, by rw [← HLL2.out]; exact HO.out, HC.out.mono (by omega), HG.out⟩
          · go_wp2_with fail
            refine (among_any B g ((m + 300) + 4) _ 2 2 [(-1), 100] _ (HC.out.alloc _) (Opts.lit (H := w5.heap.size) [(-1), 100] HC.out.lt rfl rfl) (by omega) (by omega) (by omega)).mono ?_
            rintro e w6 ⟨nv, rfl, _, hc, hg⟩
            have HO := hide (own_gr (HO.out.alloc _) hg hg0)
            have HX := hide (Blk.gr (HX.out.alloc _) hg (by omega))
            have HG := hide (gr_trans (gr_alloc HG.out _) hg)
            have hsz := hg.size
            simp only [World.size_alloc, World.size_setCell] at hsz
            have HC := hide hc
            clear hc hg
            have hsz6 := hsz
            clear hsz
            have e0 := HX.out.cell 0
            have f0 := HX.out.frozen 0
            have e1 := HX.out.cell 1
            have f1 := HX.out.frozen 1
            have e2 := HX.out.cell 2
            have f2 := HX.out.frozen 2
            have e3 := HX.out.cell 3
            have f3 := HX.out.frozen 3
            simp only [List.getElem?_toArray, List.getElem?_cons_zero, List.getElem?_cons_succ] at e0 e1 e2 e3
            rcases own_form encPg_len HO.out HLL.out.symm with ⟨h0, _, _⟩ | ⟨g5, cap5, cs5, hv5, _, hB5, _, _, _, _⟩
            · cases h0
            injection hv5 with hv6 hv7 hv8
            injection hv6 with hv6
            injection hv6 with hv6
            subst hv6
            have n0 := hB5.frozen (j0 * 4)
            have n1 := hB5.frozen (j0 * 4 + 1)
            have n2 := hB5.frozen (j0 * 4 + 2)
            have n3 := hB5.frozen (j0 * 4 + 3)
            clear hB5 hv7 hv8
            obtain ⟨b_, off_, hvo_, _, hat_⟩ := rdPg (own_rd' encPg_len HO.out HLL.out.symm) (by rw [← HLL.out]; omega)
            injection hvo_ with hvo_
            injection hvo_ with e1_ e2_ e3_
            subst e1_ e2_
            obtain ⟨x5, hx5, hxc_⟩ := hat_ j0 (by rw [← HLL.out]; omega)
            obtain ⟨_, c0, c1, c2, c3⟩ := hxc_ w6 (Below.refl _ _)
            simp only [Nat.zero_add, Nat.zero_mul] at c0 c1 c2 c3
            clear hxc_ hat_
            obtain rfl : x = x5 := by rw [HXX.out] at hx5; injection hx5
            clear hx5
            have hne1 : gg ≠ w4.heap.size := by omega
            have hne2 : w4.heap.size ≠ gg := by omega
            have HC5 := hide (Cur.set (p := ⟨gg, j0 * 4 + 3, none⟩) (Cur.set (p := ⟨gg, j0 * 4 + 2, none⟩) (Cur.set (p := ⟨gg, j0 * 4 + 1, none⟩) (Cur.set (p := ⟨gg, j0 * 4, none⟩) (Cur.set (p := ⟨w4.heap.size, 1, none⟩) HC.out ⟨by dsimp only; omega, by dsimp only; omega⟩ (.int .i64 nv)) ⟨by dsimp only; omega, by dsimp only; omega⟩ (.int .i64 x.n)) ⟨by dsimp only; omega, by dsimp only; omega⟩ (.int .i64 nv)) ⟨by dsimp only; omega, by dsimp only; omega⟩ (.int .i64 x.c)) ⟨by dsimp only; omega, by dsimp only; omega⟩ (.int .i64 x.l))
            have HG5 := hide (gr_far (p := ⟨gg, j0 * 4 + 3, none⟩) (gr_far (p := ⟨gg, j0 * 4 + 2, none⟩) (gr_far (p := ⟨gg, j0 * 4 + 1, none⟩) (gr_far (p := ⟨gg, j0 * 4, none⟩) (gr_far (p := ⟨w4.heap.size, 1, none⟩) HG.out (by dsimp only; omega) (.int .i64 nv)) (by dsimp only; omega) (.int .i64 x.n)) (by dsimp only; omega) (.int .i64 nv)) (by dsimp only; omega) (.int .i64 x.c)) (by dsimp only; omega) (.int .i64 x.l))
            obtain ⟨W5, hW5⟩ : ∃ W5 : World, W5 = (((((w6).setCell ⟨w4.heap.size, 1, none⟩ (.int .i64 nv)).setCell ⟨gg, j0 * 4, none⟩ (.int .i64 x.n)).setCell ⟨gg, j0 * 4 + 1, none⟩ (.int .i64 nv)).setCell ⟨gg, j0 * 4 + 2, none⟩ (.int .i64 x.c)).setCell ⟨gg, j0 * 4 + 3, none⟩ (.int .i64 x.l) := ⟨_, rfl⟩
            have HO5 := hide (show World.ownsRow ((((((w6).setCell ⟨w4.heap.size, 1, none⟩ (.int .i64 nv)).setCell ⟨gg, j0 * 4, none⟩ (.int .i64 x.n)).setCell ⟨gg, j0 * 4 + 1, none⟩ (.int .i64 nv)).setCell ⟨gg, j0 * 4 + 2, none⟩ (.int .i64 x.c)).setCell ⟨gg, j0 * 4 + 3, none⟩ (.int .i64 x.l)) w.heap.size 58 4 (.slice (some ⟨gg, 0, none⟩) L vc) L (((((zs.set j0 (Pg.mk x.n x.r x.c x.l)).set j0 (Pg.mk x.n nv x.c x.l)).set j0 (Pg.mk x.n nv x.c x.l)).set j0 (Pg.mk x.n nv x.c x.l)).flatMap encPg) from (own_cell encPg_len (own_cell encPg_len (own_cell encPg_len (own_cell encPg_len (own_set (p := ⟨w4.heap.size, 1, none⟩) HO.out (own_ne (by dsimp only; omega) HOl.out) (.int .i64 nv)) HLL.out.symm j0 0 x (Pg.mk x.n x.r x.c x.l) (.int .i64 x.n) (by exact HXX.out) rfl (by omega)) (by simp only [List.length_set]; exact HLL.out.symm) j0 1 (Pg.mk x.n x.r x.c x.l) (Pg.mk x.n nv x.c x.l) (.int .i64 nv) (by rw [List.getElem?_set_self (by simp only [List.length_set, ← HLL.out]; omega)]) rfl (by omega)) (by simp only [List.length_set]; exact HLL.out.symm) j0 2 (Pg.mk x.n nv x.c x.l) (Pg.mk x.n nv x.c x.l) (.int .i64 x.c) (by rw [List.getElem?_set_self (by simp only [List.length_set, ← HLL.out]; omega)]) rfl (by omega)) (by simp only [List.length_set]; exact HLL.out.symm) j0 3 (Pg.mk x.n nv x.c x.l) (Pg.mk x.n nv x.c x.l) (.int .i64 x.l) (by rw [List.getElem?_set_self (by simp only [List.length_set, ← HLL.out]; omega)]) rfl (by omega)))
            rw [← hW5] at HC5 HG5 HO5
            have hsW5 : W5.heap.size = w6.heap.size := by rw [hW5]; simp only [World.size_setCell]
            have hsW6 : w6.heap.size ≤ W5.heap.size := by omega
            have HS5 := hide hsW5
            clear hsW5
            go_wp2_with fail
            rw [← hW5]
            clear hW5 HC HG HO HX e0 e1 e2 e3 f0 f1 f2 f3 c0 c1 c2 c3 n0 n1 n2 n3 hne1 hne2
            have HC := HC5
            have HG := HG5
            have HO := HO5
            have HLL := hide (show L = ((((zs.set j0 (Pg.mk x.n x.r x.c x.l)).set j0 (Pg.mk x.n nv x.c x.l)).set j0 (Pg.mk x.n nv x.c x.l)).set j0 (Pg.mk x.n nv x.c x.l)).length from by simp only [List.length_set]; exact HLL.out)
            clear HC5 HG5 HO5
            go_wp2_with fail
            refine (one_any B g ((m + 300) + 6) 24 _ HC.out (by omega) (by omega) (by omega)).mono ?_
            rintro e w17 ⟨bz, rfl, hc, hg⟩
            have HO := hide (own_gr HO.out hg hg0)
            have HG := hide (gr_trans HG.out hg)
            have hsz := hg.size
            have HC := hide hc
            clear hc hg
            have hsz17 := hsz
            clear hsz
            cases bz with
            | false =>
              go_wp2
              go_ret
              exact ⟨.slice (some ⟨gg, 0, none⟩) L vc, ((((zs.set j0 (Pg.mk x.n x.r x.c x.l)).set j0 (Pg.mk x.n nv x.c x.l)).set j0 (Pg.mk x.n nv x.c x.l)).set j0 (Pg.mk x.n nv x.c x.l)), rfl, ⟨gg, vc, by rw [← HLL.out]⟩, by rw [← HLL.out]; omega, by rw [← HLL.out]; exact HO.out, HC.out.mono (by omega), HG.out⟩
            | true =>
              have HO := hide (World.ownsRow_made (e := 58) (size := 4) w17 #[] 0 (show w.heap.size ≤ _ by omega) (by simp [maxLen]) (by simp))
              go_wp2_with fail
              go_loopg [5, 12] 14 (fun gk v i wr => ∃ j : Nat, j ≤ 13 ∧ 14 - j ≤ gk ∧ i = .int .i64 (j : Int) ∧ Aside (Cur B wr g (m + 360 + 4 * j)) ∧ Aside (w.grownBy wr (some g)) ∧ Aside (∃ zs : List Pg, zs.length ≤ j ∧ (∃ gg vc, v = .slice (some ⟨gg, 0, none⟩) zs.length vc) ∧ wr.ownsRow w.heap.size 58 4 v zs.length (zs.flatMap encPg)))
              case atStart => exact ⟨0, by omega, by omega, rfl, (HC.out.alloc _).mono (by omega), (gr_alloc HG.out _), ⟨[], by simp, ⟨_, _, rfl⟩, HO.out⟩⟩
              case round =>
                obtain ⟨j, hj, hgj, rfl, CW, GW, OW⟩ := hrel
                clear HLL
                obtain ⟨ys, hyl, ⟨gy, yc, hvv⟩, ho⟩ := OW.out
                obtain ⟨L2, hL2⟩ : ∃ L2, L2 = ys.length := ⟨_, rfl⟩
                rw [← hL2] at ho hyl hvv
                subst hvv
                have HLL2 := hide hL2
                have hszr2 := GW.out.size
                clear HC HG HO
                have HC := hide CW.out
                have HG := hide GW.out
                have HO := hide ho
                clear OW ho hL2 CW GW
                go_wp2_with fail
                refine (pick_any B g (m + 360 + 4 * j) 2 _ HC.out (by omega) (by omega) (by omega)).mono ?_
                rintro e w61 ⟨p2, rfl, p20, p21, hc, hg⟩
                have HO := hide (own_gr HO.out hg hg0)
                have HG := hide (gr_trans HG.out hg)
                have hsz := hg.size
                have HC := hide hc
                clear hc hg
                have hsz61 := hsz
                clear hsz
                by_cases hlt2 : (j : Int) < 12 + p2
                · obtain ⟨hi, hz0, hz1, hz2⟩ := HI.out
                  go_wp2_with (at_builtin; refine wpList_append_own _ rfl _ _ 26 rfl w.heap.size 58 i0HI (.agg #[.int .i64 0, .int .i64 0, .int .i64 0, .int .i64 0]) 4 32 Tryd.underlying26 hi hz0 hz1 hz2 rfl (by decide) _ L2 _ rfl (HO.out.alloc _) ⟨w61.heap.size, 0, none⟩ 1 1 [.int .i64 ((j : Int) + 1), .int .i64 (3 * ((j : Int) % 4)), .int .i64 ((j : Int) / 4), .int .i64 7] rfl rfl ?c1 ?c2 ?c3 ?c4 ?c5 ?_)
                  case c1 => exact news_atN #[.int .i64 ((j : Int) + 1), .int .i64 (3 * ((j : Int) % 4)), .int .i64 ((j : Int) / 4), .int .i64 7] (by first | rfl | simp)
                  case c2 => intro u hu; simp only [List.mem_cons, List.not_mem_nil, or_false] at hu; rcases hu with rfl | rfl | rfl | rfl <;> rfl
                  case c3 => unfold maxLen; omega
                  case c4 => omega
                  case c5 => (try simp only [World.size_alloc, World.size_setCell]); omega
                  intro v' w62 hown' hgrow _
                  have HC := hide (cur_app (HC.out.alloc _) (HO.out.alloc _) hgrow hg0)
                  have HG := hide (gr_app (gr_alloc HG.out _) (HO.out.alloc _) hgrow (by omega))
                  have hsz := hgrow.size
                  simp only [World.size_alloc, World.size_setCell] at hsz
                  have HO := hide hown'
                  clear hown' hgrow hi hz0 hz1 hz2
                  have hsz62 := hsz
                  clear hsz
                  have HLE : Hid (L2 + 1 = (ys ++ [(Pg.mk ((j : Int) + 1) (3 * ((j : Int) % 4)) ((j : Int) / 4) 7)]).length) := hide (by simp only [List.length_append, List.length_cons, List.length_nil, ← HLL2.out])
                  have HE2 : Hid (w62.ownsRow w.heap.size 58 4 v' (L2 + 1) ((ys ++ [(Pg.mk ((j : Int) + 1) (3 * ((j : Int) % 4)) ((j : Int) / 4) 7)]).flatMap encPg)) := hide (by rw [flat_snoc]; exact HO.out)
                  rcases own_form encPg_len HE2.out HLE.out.symm with ⟨_, h0, _⟩ | ⟨ge, ce, cse, hve, _, _, _, _, _, _⟩
                  · omega
                  subst hve
                  go_wp2
                  go_roundg (14 - (j + 1))
                  case measure => omega
                  case rel => exact ⟨j + 1, by omega, by omega, by go_num, HC.out.mono (by omega), HG.out, ⟨ys ++ [(Pg.mk ((j : Int) + 1) (3 * ((j : Int) % 4)) ((j : Int) / 4) 7)], by rw [← HLE.out]; omega, ⟨_, _, by rw [← HLE.out]⟩, by rw [← HLE.out]; exact HE2.out⟩⟩
                · go_wp2
                  go_ret
                  exact ⟨.slice (some ⟨gy, 0, none⟩) L2 yc, ys, rfl, ⟨gy, yc, by rw [← HLL2.out]⟩, by rw [← HLL2.out]; omega, by rw [← HLL2.out]; exact HO.out, HC.out.mono (by omega), HG.out⟩
          · go_wp2_with fail
            refine (among_any B g ((m + 300) + 4) _ 2 2 [(-1), 100] _ (HC.out.alloc _) (Opts.lit (H := w5.heap.size) [(-1), 100] HC.out.lt rfl rfl) (by omega) (by omega) (by omega)).mono ?_
            rintro e w6 ⟨nv, rfl, _, hc, hg⟩
            have HO := hide (own_gr (HO.out.alloc _) hg hg0)
            have HX := hide (Blk.gr (HX.out.alloc _) hg (by omega))
            have HG := hide (gr_trans (gr_alloc HG.out _) hg)
            have hsz := hg.size
            simp only [World.size_alloc, World.size_setCell] at hsz
            have HC := hide hc
            clear hc hg
            have hsz6 := hsz
            clear hsz
            have e0 := HX.out.cell 0
            have f0 := HX.out.frozen 0
            have e1 := HX.out.cell 1
            have f1 := HX.out.frozen 1
            have e2 := HX.out.cell 2
            have f2 := HX.out.frozen 2
            have e3 := HX.out.cell 3
            have f3 := HX.out.frozen 3
            simp only [List.getElem?_toArray, List.getElem?_cons_zero, List.getElem?_cons_succ] at e0 e1 e2 e3
            rcases own_form encPg_len HO.out HLL.out.symm with ⟨h0, _, _⟩ | ⟨g5, cap5, cs5, hv5, _, hB5, _, _, _, _⟩
            · cases h0
            injection hv5 with hv6 hv7 hv8
            injection hv6 with hv6
            injection hv6 with hv6
            subst hv6
            have n0 := hB5.frozen (j0 * 4)
            have n1 := hB5.frozen (j0 * 4 + 1)
            have n2 := hB5.frozen (j0 * 4 + 2)
            have n3 := hB5.frozen (j0 * 4 + 3)
            clear hB5 hv7 hv8
            obtain ⟨b_, off_, hvo_, _, hat_⟩ := rdPg (own_rd' encPg_len HO.out HLL.out.symm) (by rw [← HLL.out]; omega)
            injection hvo_ with hvo_
            injection hvo_ with e1_ e2_ e3_
            subst e1_ e2_
            obtain ⟨x5, hx5, hxc_⟩ := hat_ j0 (by rw [← HLL.out]; omega)
            obtain ⟨_, c0, c1, c2, c3⟩ := hxc_ w6 (Below.refl _ _)
            simp only [Nat.zero_add, Nat.zero_mul] at c0 c1 c2 c3
            clear hxc_ hat_
            obtain rfl : x = x5 := by rw [HXX.out] at hx5; injection hx5
            clear hx5
            have hne1 : gg ≠ w4.heap.size := by omega
            have hne2 : w4.heap.size ≠ gg := by omega
            have HC5 := hide (Cur.set (p := ⟨gg, j0 * 4 + 3, none⟩) (Cur.set (p := ⟨gg, j0 * 4 + 2, none⟩) (Cur.set (p := ⟨gg, j0 * 4 + 1, none⟩) (Cur.set (p := ⟨gg, j0 * 4, none⟩) (Cur.set (p := ⟨w4.heap.size, 2, none⟩) HC.out ⟨by dsimp only; omega, by dsimp only; omega⟩ (.int .i64 nv)) ⟨by dsimp only; omega, by dsimp only; omega⟩ (.int .i64 x.n)) ⟨by dsimp only; omega, by dsimp only; omega⟩ (.int .i64 x.r)) ⟨by dsimp only; omega, by dsimp only; omega⟩ (.int .i64 nv)) ⟨by dsimp only; omega, by dsimp only; omega⟩ (.int .i64 x.l))
            have HG5 := hide (gr_far (p := ⟨gg, j0 * 4 + 3, none⟩) (gr_far (p := ⟨gg, j0 * 4 + 2, none⟩) (gr_far (p := ⟨gg, j0 * 4 + 1, none⟩) (gr_far (p := ⟨gg, j0 * 4, none⟩) (gr_far (p := ⟨w4.heap.size, 2, none⟩) HG.out (by dsimp only; omega) (.int .i64 nv)) (by dsimp only; omega) (.int .i64 x.n)) (by dsimp only; omega) (.int .i64 x.r)) (by dsimp only; omega) (.int .i64 nv)) (by dsimp only; omega) (.int .i64 x.l))
            obtain ⟨W5, hW5⟩ : ∃ W5 : World, W5 = (((((w6).setCell ⟨w4.heap.size, 2, none⟩ (.int .i64 nv)).setCell ⟨gg, j0 * 4, none⟩ (.int .i64 x.n)).setCell ⟨gg, j0 * 4 + 1, none⟩ (.int .i64 x.r)).setCell ⟨gg, j0 * 4 + 2, none⟩ (.int .i64 nv)).setCell ⟨gg, j0 * 4 + 3, none⟩ (.int .i64 x.l) := ⟨_, rfl⟩
            have HO5 := hide (show World.ownsRow ((((((w6).setCell ⟨w4.heap.size, 2, none⟩ (.int .i64 nv)).setCell ⟨gg, j0 * 4, none⟩ (.int .i64 x.n)).setCell ⟨gg, j0 * 4 + 1, none⟩ (.int .i64 x.r)).setCell ⟨gg, j0 * 4 + 2, none⟩ (.int .i64 nv)).setCell ⟨gg, j0 * 4 + 3, none⟩ (.int .i64 x.l)) w.heap.size 58 4 (.slice (some ⟨gg, 0, none⟩) L vc) L (((((zs.set j0 (Pg.mk x.n x.r x.c x.l)).set j0 (Pg.mk x.n x.r x.c x.l)).set j0 (Pg.mk x.n x.r nv x.l)).set j0 (Pg.mk x.n x.r nv x.l)).flatMap encPg) from (own_cell encPg_len (own_cell encPg_len (own_cell encPg_len (own_cell encPg_len (own_set (p := ⟨w4.heap.size, 2, none⟩) HO.out (own_ne (by dsimp only; omega) HOl.out) (.int .i64 nv)) HLL.out.symm j0 0 x (Pg.mk x.n x.r x.c x.l) (.int .i64 x.n) (by exact HXX.out) rfl (by omega)) (by simp only [List.length_set]; exact HLL.out.symm) j0 1 (Pg.mk x.n x.r x.c x.l) (Pg.mk x.n x.r x.c x.l) (.int .i64 x.r) (by rw [List.getElem?_set_self (by simp only [List.length_set, ← HLL.out]; omega)]) rfl (by omega)) (by simp only [List.length_set]; exact HLL.out.symm) j0 2 (Pg.mk x.n x.r x.c x.l) (Pg.mk x.n x.r nv x.l) (.int .i64 nv) (by rw [List.getElem?_set_self (by simp only [List.length_set, ← HLL.out]; omega)]) rfl (by omega)) (by simp only [List.length_set]; exact HLL.out.symm) j0 3 (Pg.mk x.n x.r nv x.l) (Pg.mk x.n x.r nv x.l) (.int .i64 x.l) (by rw [List.getElem?_set_self (by simp only [List.length_set, ← HLL.out]; omega)]) rfl (by omega)))
            rw [← hW5] at HC5 HG5 HO5
            have hsW5 : W5.heap.size = w6.heap.size := by rw [hW5]; simp only [World.size_setCell]
            have hsW6 : w6.heap.size ≤ W5.heap.size := by omega
            have HS5 := hide hsW5
            clear hsW5
            go_wp2_with fail
            rw [← hW5]
            clear hW5 HC HG HO HX e0 e1 e2 e3 f0 f1 f2 f3 c0 c1 c2 c3 n0 n1 n2 n3 hne1 hne2
            have HC := HC5
            have HG := HG5
            have HO := HO5
            have HLL := hide (show L = ((((zs.set j0 (Pg.mk x.n x.r x.c x.l)).set j0 (Pg.mk x.n x.r x.c x.l)).set j0 (Pg.mk x.n x.r nv x.l)).set j0 (Pg.mk x.n x.r nv x.l)).length from by simp only [List.length_set]; exact HLL.out)
            clear HC5 HG5 HO5
            go_wp2_with fail
            refine (one_any B g ((m + 300) + 6) 24 _ HC.out (by omega) (by omega) (by omega)).mono ?_
            rintro e w17 ⟨bz, rfl, hc, hg⟩
            have HO := hide (own_gr HO.out hg hg0)
            have HG := hide (gr_trans HG.out hg)
            have hsz := hg.size
            have HC := hide hc
            clear hc hg
            have hsz17 := hsz
            clear hsz
            cases bz with
            | false =>
              go_wp2
              go_ret
              exact ⟨.slice (some ⟨gg, 0, none⟩) L vc, ((((zs.set j0 (Pg.mk x.n x.r x.c x.l)).set j0 (Pg.mk x.n x.r x.c x.l)).set j0 (Pg.mk x.n x.r nv x.l)).set j0 (Pg.mk x.n x.r nv x.l)), rfl, ⟨gg, vc, by rw [← HLL.out]⟩, by rw [← HLL.out]; omega, by rw [← HLL.out]; exact HO.out, HC.out.mono (by omega), HG.out⟩
            | true =>
              have HO := hide (World.ownsRow_made (e := 58) (size := 4) w17 #[] 0 (show w.heap.size ≤ _ by omega) (by simp [maxLen]) (by simp))
              go_wp2_with fail
              go_loopg [5, 12] 14 (fun gk v i wr => ∃ j : Nat, j ≤ 13 ∧ 14 - j ≤ gk ∧ i = .int .i64 (j : Int) ∧ Aside (Cur B wr g (m + 360 + 4 * j)) ∧ Aside (w.grownBy wr (some g)) ∧ Aside (∃ zs : List Pg, zs.length ≤ j ∧ (∃ gg vc, v = .slice (some ⟨gg, 0, none⟩) zs.length vc) ∧ wr.ownsRow w.heap.size 58 4 v zs.length (zs.flatMap encPg)))
              case atStart => exact ⟨0, by omega, by omega, rfl, (HC.out.alloc _).mono (by omega), (gr_alloc HG.out _), ⟨[], by simp, ⟨_, _, rfl⟩, HO.out⟩⟩
              case round =>
                obtain ⟨j, hj, hgj, rfl, CW, GW, OW⟩ := hrel
                clear HLL
                obtain ⟨ys, hyl, ⟨gy, yc, hvv⟩, ho⟩ := OW.out
                obtain ⟨L2, hL2⟩ : ∃ L2, L2 = ys.length := ⟨_, rfl⟩
                rw [← hL2] at ho hyl hvv
                subst hvv
                have HLL2 := hide hL2
                have hszr2 := GW.out.size
                clear HC HG HO
                have HC := hide CW.out
                have HG := hide GW.out
                have HO := hide ho
                clear OW ho hL2 CW GW
                go_wp2_with fail
                refine (pick_any B g (m + 360 + 4 * j) 2 _ HC.out (by omega) (by omega) (by omega)).mono ?_
                rintro e w61 ⟨p2, rfl, p20, p21, hc, hg⟩
                have HO := hide (own_gr HO.out hg hg0)
                have HG := hide (gr_trans HG.out hg)
                have hsz := hg.size
                have HC := hide hc
                clear hc hg
                have hsz61 := hsz
                clear hsz
                by_cases hlt2 : (j : Int) < 12 + p2
                · obtain ⟨hi, hz0, hz1, hz2⟩ := HI.out
                  go_wp2_with (at_builtin; refine wpList_append_own _ rfl _ _ 26 rfl w.heap.size 58 i0HI (.agg #[.int .i64 0, .int .i64 0, .int .i64 0, .int .i64 0]) 4 32 Tryd.underlying26 hi hz0 hz1 hz2 rfl (by decide) _ L2 _ rfl (HO.out.alloc _) ⟨w61.heap.size, 0, none⟩ 1 1 [.int .i64 ((j : Int) + 1), .int .i64 (3 * ((j : Int) % 4)), .int .i64 ((j : Int) / 4), .int .i64 7] rfl rfl ?c1 ?c2 ?c3 ?c4 ?c5 ?_)
                  case c1 => exact news_atN #[.int .i64 ((j : Int) + 1), .int .i64 (3 * ((j : Int) % 4)), .int .i64 ((j : Int) / 4), .int .i64 7] (by first | rfl | simp)
                  case c2 => intro u hu; simp only [List.mem_cons, List.not_mem_nil, or_false] at hu; rcases hu with rfl | rfl | rfl | rfl <;> rfl
                  case c3 => unfold maxLen; omega
                  case c4 => omega
                  case c5 => (try simp only [World.size_alloc, World.size_setCell]); omega
                  intro v' w62 hown' hgrow _
                  have HC := hide (cur_app (HC.out.alloc _) (HO.out.alloc _) hgrow hg0)
                  have HG := hide (gr_app (gr_alloc HG.out _) (HO.out.alloc _) hgrow (by omega))
                  have hsz := hgrow.size
                  simp only [World.size_alloc, World.size_setCell] at hsz
                  have HO := hide hown'
                  clear hown' hgrow hi hz0 hz1 hz2
                  have hsz62 := hsz
                  clear hsz
                  have HLE : Hid (L2 + 1 = (ys ++ [(Pg.mk ((j : Int) + 1) (3 * ((j : Int) % 4)) ((j : Int) / 4) 7)]).length) := hide (by simp only [List.length_append, List.length_cons, List.length_nil, ← HLL2.out])
                  have HE2 : Hid (w62.ownsRow w.heap.size 58 4 v' (L2 + 1) ((ys ++ [(Pg.mk ((j : Int) + 1) (3 * ((j : Int) % 4)) ((j : Int) / 4) 7)]).flatMap encPg)) := hide (by rw [flat_snoc]; exact HO.out)
                  rcases own_form encPg_len HE2.out HLE.out.symm with ⟨_, h0, _⟩ | ⟨ge, ce, cse, hve, _, _, _, _, _, _⟩
                  · omega
                  subst hve
                  go_wp2
                  go_roundg (14 - (j + 1))
                  case measure => omega
                  case rel => exact ⟨j + 1, by omega, by omega, by go_num, HC.out.mono (by omega), HG.out, ⟨ys ++ [(Pg.mk ((j : Int) + 1) (3 * ((j : Int) % 4)) ((j : Int) / 4) 7)], by rw [← HLE.out]; omega, ⟨_, _, by rw [← HLE.out]⟩, by rw [← HLE.out]; exact HE2.out⟩⟩
                · go_wp2
                  go_ret
                  exact ⟨.slice (some ⟨gy, 0, none⟩) L2 yc, ys, rfl, ⟨gy, yc, by rw [← HLL2.out]⟩, by rw [← HLL2.out]; omega, by rw [← HLL2.out]; exact HO.out, HC.out.mono (by omega), HG.out⟩
          · go_wp2_with fail
            refine (among_any B g ((m + 300) + 4) _ 2 2 [(-1), 41] _ (HC.out.alloc _) (Opts.lit (H := w5.heap.size) [(-1), 41] HC.out.lt rfl rfl) (by omega) (by omega) (by omega)).mono ?_
            rintro e w6 ⟨nv, rfl, _, hc, hg⟩
            have HO := hide (own_gr (HO.out.alloc _) hg hg0)
            have HX := hide (Blk.gr (HX.out.alloc _) hg (by omega))
            have HG := hide (gr_trans (gr_alloc HG.out _) hg)
            have hsz := hg.size
            simp only [World.size_alloc, World.size_setCell] at hsz
            have HC := hide hc
            clear hc hg
            have hsz6 := hsz
            clear hsz
            have e0 := HX.out.cell 0
            have f0 := HX.out.frozen 0
            have e1 := HX.out.cell 1
            have f1 := HX.out.frozen 1
            have e2 := HX.out.cell 2
            have f2 := HX.out.frozen 2
            have e3 := HX.out.cell 3
            have f3 := HX.out.frozen 3
            simp only [List.getElem?_toArray, List.getElem?_cons_zero, List.getElem?_cons_succ] at e0 e1 e2 e3
            rcases own_form encPg_len HO.out HLL.out.symm with ⟨h0, _, _⟩ | ⟨g5, cap5, cs5, hv5, _, hB5, _, _, _, _⟩
            · cases h0
            injection hv5 with hv6 hv7 hv8
            injection hv6 with hv6
            injection hv6 with hv6
            subst hv6
            have n0 := hB5.frozen (j0 * 4)
            have n1 := hB5.frozen (j0 * 4 + 1)
            have n2 := hB5.frozen (j0 * 4 + 2)
            have n3 := hB5.frozen (j0 * 4 + 3)
            clear hB5 hv7 hv8
            obtain ⟨b_, off_, hvo_, _, hat_⟩ := rdPg (own_rd' encPg_len HO.out HLL.out.symm) (by rw [← HLL.out]; omega)
            injection hvo_ with hvo_
            injection hvo_ with e1_ e2_ e3_
            subst e1_ e2_
            obtain ⟨x5, hx5, hxc_⟩ := hat_ j0 (by rw [← HLL.out]; omega)
            obtain ⟨_, c0, c1, c2, c3⟩ := hxc_ w6 (Below.refl _ _)
            simp only [Nat.zero_add, Nat.zero_mul] at c0 c1 c2 c3
            clear hxc_ hat_
            obtain rfl : x = x5 := by rw [HXX.out] at hx5; injection hx5
            clear hx5
            have hne1 : gg ≠ w4.heap.size := by omega
            have hne2 : w4.heap.size ≠ gg := by omega
            have HC5 := hide (Cur.set (p := ⟨gg, j0 * 4 + 3, none⟩) (Cur.set (p := ⟨gg, j0 * 4 + 2, none⟩) (Cur.set (p := ⟨gg, j0 * 4 + 1, none⟩) (Cur.set (p := ⟨gg, j0 * 4, none⟩) (Cur.set (p := ⟨w4.heap.size, 3, none⟩) HC.out ⟨by dsimp only; omega, by dsimp only; omega⟩ (.int .i64 nv)) ⟨by dsimp only; omega, by dsimp only; omega⟩ (.int .i64 x.n)) ⟨by dsimp only; omega, by dsimp only; omega⟩ (.int .i64 x.r)) ⟨by dsimp only; omega, by dsimp only; omega⟩ (.int .i64 x.c)) ⟨by dsimp only; omega, by dsimp only; omega⟩ (.int .i64 nv))
            have HG5 := hide (gr_far (p := ⟨gg, j0 * 4 + 3, none⟩) (gr_far (p := ⟨gg, j0 * 4 + 2, none⟩) (gr_far (p := ⟨gg, j0 * 4 + 1, none⟩) (gr_far (p := ⟨gg, j0 * 4, none⟩) (gr_far (p := ⟨w4.heap.size, 3, none⟩) HG.out (by dsimp only; omega) (.int .i64 nv)) (by dsimp only; omega) (.int .i64 x.n)) (by dsimp only; omega) (.int .i64 x.r)) (by dsimp only; omega) (.int .i64 x.c)) (by dsimp only; omega) (.int .i64 nv))
            obtain ⟨W5, hW5⟩ : ∃ W5 : World, W5 = (((((w6).setCell ⟨w4.heap.size, 3, none⟩ (.int .i64 nv)).setCell ⟨gg, j0 * 4, none⟩ (.int .i64 x.n)).setCell ⟨gg, j0 * 4 + 1, none⟩ (.int .i64 x.r)).setCell ⟨gg, j0 * 4 + 2, none⟩ (.int .i64 x.c)).setCell ⟨gg, j0 * 4 + 3, none⟩ (.int .i64 nv) := ⟨_, rfl⟩
            have HO5 := hide (show World.ownsRow ((((((w6).setCell ⟨w4.heap.size, 3, none⟩ (.int .i64 nv)).setCell ⟨gg, j0 * 4, none⟩ (.int .i64 x.n)).setCell ⟨gg, j0 * 4 + 1, none⟩ (.int .i64 x.r)).setCell ⟨gg, j0 * 4 + 2, none⟩ (.int .i64 x.c)).setCell ⟨gg, j0 * 4 + 3, none⟩ (.int .i64 nv)) w.heap.size 58 4 (.slice (some ⟨gg, 0, none⟩) L vc) L (((((zs.set j0 (Pg.mk x.n x.r x.c x.l)).set j0 (Pg.mk x.n x.r x.c x.l)).set j0 (Pg.mk x.n x.r x.c x.l)).set j0 (Pg.mk x.n x.r x.c nv)).flatMap encPg) from (own_cell encPg_len (own_cell encPg_len (own_cell encPg_len (own_cell encPg_len (own_set (p := ⟨w4.heap.size, 3, none⟩) HO.out (own_ne (by dsimp only; omega) HOl.out) (.int .i64 nv)) HLL.out.symm j0 0 x (Pg.mk x.n x.r x.c x.l) (.int .i64 x.n) (by exact HXX.out) rfl (by omega)) (by simp only [List.length_set]; exact HLL.out.symm) j0 1 (Pg.mk x.n x.r x.c x.l) (Pg.mk x.n x.r x.c x.l) (.int .i64 x.r) (by rw [List.getElem?_set_self (by simp only [List.length_set, ← HLL.out]; omega)]) rfl (by omega)) (by simp only [List.length_set]; exact HLL.out.symm) j0 2 (Pg.mk x.n x.r x.c x.l) (Pg.mk x.n x.r x.c x.l) (.int .i64 x.c) (by rw [List.getElem?_set_self (by simp only [List.length_set, ← HLL.out]; omega)]) rfl (by omega)) (by simp only [List.length_set]; exact HLL.out.symm) j0 3 (Pg.mk x.n x.r x.c x.l) (Pg.mk x.n x.r x.c nv) (.int .i64 nv) (by rw [List.getElem?_set_self (by simp only [List.length_set, ← HLL.out]; omega)]) rfl (by omega)))
            rw [← hW5] at HC5 HG5 HO5
            have hsW5 : W5.heap.size = w6.heap.size := by rw [hW5]; simp only [World.size_setCell]
            have hsW6 : w6.heap.size ≤ W5.heap.size := by omega
            have HS5 := hide hsW5
            clear hsW5
            go_wp2_with fail
            rw [← hW5]
            clear hW5 HC HG HO HX e0 e1 e2 e3 f0 f1 f2 f3 c0 c1 c2 c3 n0 n1 n2 n3 hne1 hne2
            have HC := HC5
            have HG := HG5
            have HO := HO5
            have HLL := hide (show L = ((((zs.set j0 (Pg.mk x.n x.r x.c x.l)).set j0 (Pg.mk x.n x.r x.c x.l)).set j0 (Pg.mk x.n x.r x.c x.l)).set j0 (Pg.mk x.n x.r x.c nv)).length from by simp only [List.length_set]; exact HLL.out)
            clear HC5 HG5 HO5
            go_wp2_with fail
            refine (one_any B g ((m + 300) + 6) 24 _ HC.out (by omega) (by omega) (by omega)).mono ?_
            rintro e w17 ⟨bz, rfl, hc, hg⟩
            have HO := hide (own_gr HO.out hg hg0)
            have HG := hide (gr_trans HG.out hg)
            have hsz := hg.size
            have HC := hide hc
            clear hc hg
            have hsz17 := hsz
            clear hsz
            cases bz with
            | false =>
              go_wp2
              go_ret
              exact ⟨.slice (some ⟨gg, 0, none⟩) L vc, ((((zs.set j0 (Pg.mk x.n x.r x.c x.l)).set j0 (Pg.mk x.n x.r x.c x.l)).set j0 (Pg.mk x.n x.r x.c x.l)).set j0 (Pg.mk x.n x.r x.c nv)), rfl, ⟨gg, vc, by rw [← HLL.out]⟩, by rw [← HLL.out]; omega, by rw [← HLL.out]; exact HO.out, HC.out.mono (by omega), HG.out⟩
            | true =>
              have HO := hide (World.ownsRow_made (e := 58) (size := 4) w17 #[] 0 (show w.heap.size ≤ _ by omega) (by simp [maxLen]) (by simp))
              go_wp2_with fail
              go_loopg [5, 12] 14 (fun gk v i wr => ∃ j : Nat, j ≤ 13 ∧ 14 - j ≤ gk ∧ i = .int .i64 (j : Int) ∧ Aside (Cur B wr g (m + 360 + 4 * j)) ∧ Aside (w.grownBy wr (some g)) ∧ Aside (∃ zs : List Pg, zs.length ≤ j ∧ (∃ gg vc, v = .slice (some ⟨gg, 0, none⟩) zs.length vc) ∧ wr.ownsRow w.heap.size 58 4 v zs.length (zs.flatMap encPg)))
              case atStart => exact ⟨0, by omega, by omega, rfl, (HC.out.alloc _).mono (by omega), (gr_alloc HG.out _), ⟨[], by simp, ⟨_, _, rfl⟩, HO.out⟩⟩
              case round =>
                obtain ⟨j, hj, hgj, rfl, CW, GW, OW⟩ := hrel
                clear HLL
                obtain ⟨ys, hyl, ⟨gy, yc, hvv⟩, ho⟩ := OW.out
                obtain ⟨L2, hL2⟩ : ∃ L2, L2 = ys.length := ⟨_, rfl⟩
                rw [← hL2] at ho hyl hvv
                subst hvv
                have HLL2 := hide hL2
                have hszr2 := GW.out.size
                clear HC HG HO
                have HC := hide CW.out
                have HG := hide GW.out
                have HO := hide ho
                clear OW ho hL2 CW GW
                go_wp2_with fail
                refine (pick_any B g (m + 360 + 4 * j) 2 _ HC.out (by omega) (by omega) (by omega)).mono ?_
                rintro e w61 ⟨p2, rfl, p20, p21, hc, hg⟩
                have HO := hide (own_gr HO.out hg hg0)
                have HG := hide (gr_trans HG.out hg)
                have hsz := hg.size
                have HC := hide hc
                clear hc hg
                have hsz61 := hsz
                clear hsz
                by_cases hlt2 : (j : Int) < 12 + p2
                · obtain ⟨hi, hz0, hz1, hz2⟩ := HI.out
                  go_wp2_with (at_builtin; refine wpList_append_own _ rfl _ _ 26 rfl w.heap.size 58 i0HI (.agg #[.int .i64 0, .int .i64 0, .int .i64 0, .int .i64 0]) 4 32 Tryd.underlying26 hi hz0 hz1 hz2 rfl (by decide) _ L2 _ rfl (HO.out.alloc _) ⟨w61.heap.size, 0, none⟩ 1 1 [.int .i64 ((j : Int) + 1), .int .i64 (3 * ((j : Int) % 4)), .int .i64 ((j : Int) / 4), .int .i64 7] rfl rfl ?c1 ?c2 ?c3 ?c4 ?c5 ?_)
                  case c1 => exact news_atN #[.int .i64 ((j : Int) + 1), .int .i64 (3 * ((j : Int) % 4)), .int .i64 ((j : Int) / 4), .int .i64 7] (by first | rfl | simp)
                  case c2 => intro u hu; simp only [List.mem_cons, List.not_mem_nil, or_false] at hu; rcases hu with rfl | rfl | rfl | rfl <;> rfl
                  case c3 => unfold maxLen; omega
                  case c4 => omega
                  case c5 => (try simp only [World.size_alloc, World.size_setCell]); omega
                  intro v' w62 hown' hgrow _
                  have HC := hide (cur_app (HC.out.alloc _) (HO.out.alloc _) hgrow hg0)
                  have HG := hide (gr_app (gr_alloc HG.out _) (HO.out.alloc _) hgrow (by omega))
                  have hsz := hgrow.size
                  simp only [World.size_alloc, World.size_setCell] at hsz
                  have HO := hide hown'
                  clear hown' hgrow hi hz0 hz1 hz2
                  have hsz62 := hsz
                  clear hsz
                  have HLE : Hid (L2 + 1 = (ys ++ [(Pg.mk ((j : Int) + 1) (3 * ((j : Int) % 4)) ((j : Int) / 4) 7)]).length) := hide (by simp only [List.length_append, List.length_cons, List.length_nil, ← HLL2.out])
                  have HE2 : Hid (w62.ownsRow w.heap.size 58 4 v' (L2 + 1) ((ys ++ [(Pg.mk ((j : Int) + 1) (3 * ((j : Int) % 4)) ((j : Int) / 4) 7)]).flatMap encPg)) := hide (by rw [flat_snoc]; exact HO.out)
                  rcases own_form encPg_len HE2.out HLE.out.symm with ⟨_, h0, _⟩ | ⟨ge, ce, cse, hve, _, _, _, _, _, _⟩
                  · omega
                  subst hve
                  go_wp2
                  go_roundg (14 - (j + 1))
                  case measure => omega
                  case rel => exact ⟨j + 1, by omega, by omega, by go_num, HC.out.mono (by omega), HG.out, ⟨ys ++ [(Pg.mk ((j : Int) + 1) (3 * ((j : Int) % 4)) ((j : Int) / 4) 7)], by rw [← HLE.out]; omega, ⟨_, _, by rw [← HLE.out]⟩, by rw [← HLE.out]; exact HE2.out⟩⟩
                · go_wp2
                  go_ret
                  exact ⟨.slice (some ⟨gy, 0, none⟩) L2 yc, ys, rfl, ⟨gy, yc, by rw [← HLL2.out]⟩, by rw [← HLL2.out]; omega, by rw [← HLL2.out]; exact HO.out, HC.out.mono (by omega), HG.out⟩
          · obtain ⟨b_, off_, hvo_, _, hat_⟩ := rdPg (own_rd' encPg_len HO.out HLL.out.symm) (by rw [← HLL.out]; omega)
            injection hvo_ with hvo_
            injection hvo_ with e1_ e2_ e3_
            subst e1_ e2_
            obtain ⟨fp, hfp, hxc_⟩ := hat_ 0 (by rw [← HLL.out]; omega)
            obtain ⟨_, d0, d1, d2, d3⟩ := hxc_ w5 (Below.refl _ _)
            simp only [Nat.zero_add, Nat.zero_mul] at d0 d1 d2 d3
            clear hxc_ hat_
            clear hfp
            have e0 := HX.out.cell 0
            have f0 := HX.out.frozen 0
            have e1 := HX.out.cell 1
            have f1 := HX.out.frozen 1
            have e2 := HX.out.cell 2
            have f2 := HX.out.frozen 2
            have e3 := HX.out.cell 3
            have f3 := HX.out.frozen 3
            simp only [List.getElem?_toArray, List.getElem?_cons_zero, List.getElem?_cons_succ] at e0 e1 e2 e3
            rcases own_form encPg_len HO.out HLL.out.symm with ⟨h0, _, _⟩ | ⟨g5, cap5, cs5, hv5, _, hB5, _, _, _, _⟩
            · cases h0
            injection hv5 with hv6 hv7 hv8
            injection hv6 with hv6
            injection hv6 with hv6
            subst hv6
            have n0 := hB5.frozen (j0 * 4)
            have n1 := hB5.frozen (j0 * 4 + 1)
            have n2 := hB5.frozen (j0 * 4 + 2)
            have n3 := hB5.frozen (j0 * 4 + 3)
            clear hB5 hv7 hv8
            obtain ⟨b_, off_, hvo_, _, hat_⟩ := rdPg (own_rd' encPg_len HO.out HLL.out.symm) (by rw [← HLL.out]; omega)
            injection hvo_ with hvo_
            injection hvo_ with e1_ e2_ e3_
            subst e1_ e2_
            obtain ⟨x5, hx5, hxc_⟩ := hat_ j0 (by rw [← HLL.out]; omega)
            obtain ⟨_, c0, c1, c2, c3⟩ := hxc_ w5 (Below.refl _ _)
            simp only [Nat.zero_add, Nat.zero_mul] at c0 c1 c2 c3
            clear hxc_ hat_
            obtain rfl : x = x5 := by rw [HXX.out] at hx5; injection hx5
            clear hx5
            have hne1 : gg ≠ w4.heap.size := by omega
            have hne2 : w4.heap.size ≠ gg := by omega
            have HC5 := hide (Cur.set (p := ⟨gg, j0 * 4 + 3, none⟩) (Cur.set (p := ⟨gg, j0 * 4 + 2, none⟩) (Cur.set (p := ⟨gg, j0 * 4 + 1, none⟩) (Cur.set (p := ⟨gg, j0 * 4, none⟩) (Cur.set (p := ⟨w4.heap.size, 2, none⟩) (Cur.set (p := ⟨w4.heap.size, 1, none⟩) HC.out ⟨by dsimp only; omega, by dsimp only; omega⟩ (.int .i64 fp.r)) ⟨by dsimp only; omega, by dsimp only; omega⟩ (.int .i64 fp.c)) ⟨by dsimp only; omega, by dsimp only; omega⟩ (.int .i64 x.n)) ⟨by dsimp only; omega, by dsimp only; omega⟩ (.int .i64 fp.r)) ⟨by dsimp only; omega, by dsimp only; omega⟩ (.int .i64 fp.c)) ⟨by dsimp only; omega, by dsimp only; omega⟩ (.int .i64 x.l))
            have HG5 := hide (gr_far (p := ⟨gg, j0 * 4 + 3, none⟩) (gr_far (p := ⟨gg, j0 * 4 + 2, none⟩) (gr_far (p := ⟨gg, j0 * 4 + 1, none⟩) (gr_far (p := ⟨gg, j0 * 4, none⟩) (gr_far (p := ⟨w4.heap.size, 2, none⟩) (gr_far (p := ⟨w4.heap.size, 1, none⟩) HG.out (by dsimp only; omega) (.int .i64 fp.r)) (by dsimp only; omega) (.int .i64 fp.c)) (by dsimp only; omega) (.int .i64 x.n)) (by dsimp only; omega) (.int .i64 fp.r)) (by dsimp only; omega) (.int .i64 fp.c)) (by dsimp only; omega) (.int .i64 x.l))
            obtain ⟨W5, hW5⟩ : ∃ W5 : World, W5 = ((((((w5).setCell ⟨w4.heap.size, 1, none⟩ (.int .i64 fp.r)).setCell ⟨w4.heap.size, 2, none⟩ (.int .i64 fp.c)).setCell ⟨gg, j0 * 4, none⟩ (.int .i64 x.n)).setCell ⟨gg, j0 * 4 + 1, none⟩ (.int .i64 fp.r)).setCell ⟨gg, j0 * 4 + 2, none⟩ (.int .i64 fp.c)).setCell ⟨gg, j0 * 4 + 3, none⟩ (.int .i64 x.l) := ⟨_, rfl⟩
            have HO5 := hide (show World.ownsRow (((((((w5).setCell ⟨w4.heap.size, 1, none⟩ (.int .i64 fp.r)).setCell ⟨w4.heap.size, 2, none⟩ (.int .i64 fp.c)).setCell ⟨gg, j0 * 4, none⟩ (.int .i64 x.n)).setCell ⟨gg, j0 * 4 + 1, none⟩ (.int .i64 fp.r)).setCell ⟨gg, j0 * 4 + 2, none⟩ (.int .i64 fp.c)).setCell ⟨gg, j0 * 4 + 3, none⟩ (.int .i64 x.l)) w.heap.size 58 4 (.slice (some ⟨gg, 0, none⟩) L vc) L (((((zs.set j0 (Pg.mk x.n x.r x.c x.l)).set j0 (Pg.mk x.n fp.r x.c x.l)).set j0 (Pg.mk x.n fp.r fp.c x.l)).set j0 (Pg.mk x.n fp.r fp.c x.l)).flatMap encPg) from (own_cell encPg_len (own_cell encPg_len (own_cell encPg_len (own_cell encPg_len (own_set (p := ⟨w4.heap.size, 2, none⟩) (own_set (p := ⟨w4.heap.size, 1, none⟩) HO.out (own_ne (by dsimp only; omega) HOl.out) (.int .i64 fp.r)) (own_ne (by dsimp only; omega) HOl.out) (.int .i64 fp.c)) HLL.out.symm j0 0 x (Pg.mk x.n x.r x.c x.l) (.int .i64 x.n) (by exact HXX.out) rfl (by omega)) (by simp only [List.length_set]; exact HLL.out.symm) j0 1 (Pg.mk x.n x.r x.c x.l) (Pg.mk x.n fp.r x.c x.l) (.int .i64 fp.r) (by rw [List.getElem?_set_self (by simp only [List.length_set, ← HLL.out]; omega)]) rfl (by omega)) (by simp only [List.length_set]; exact HLL.out.symm) j0 2 (Pg.mk x.n fp.r x.c x.l) (Pg.mk x.n fp.r fp.c x.l) (.int .i64 fp.c) (by rw [List.getElem?_set_self (by simp only [List.length_set, ← HLL.out]; omega)]) rfl (by omega)) (by simp only [List.length_set]; exact HLL.out.symm) j0 3 (Pg.mk x.n fp.r fp.c x.l) (Pg.mk x.n fp.r fp.c x.l) (.int .i64 x.l) (by rw [List.getElem?_set_self (by simp only [List.length_set, ← HLL.out]; omega)]) rfl (by omega)))
            rw [← hW5] at HC5 HG5 HO5
            have hsW5 : W5.heap.size = w5.heap.size := by rw [hW5]; simp only [World.size_setCell]
            have hsW6 : w5.heap.size ≤ W5.heap.size := by omega
            have HS5 := hide hsW5
            clear hsW5
            go_wp2_with fail
            rw [← hW5]
            clear hW5 HC HG HO HX e0 e1 e2 e3 f0 f1 f2 f3 c0 c1 c2 c3 n0 n1 n2 n3 hne1 hne2
            have HC := HC5
            have HG := HG5
            have HO := HO5
            have HLL := hide (show L = ((((zs.set j0 (Pg.mk x.n x.r x.c x.l)).set j0 (Pg.mk x.n fp.r x.c x.l)).set j0 (Pg.mk x.n fp.r fp.c x.l)).set j0 (Pg.mk x.n fp.r fp.c x.l)).length from by simp only [List.length_set]; exact HLL.out)
            clear HC5 HG5 HO5
            go_wp2_with fail
            refine (one_any B g ((m + 300) + 4) 24 _ HC.out (by omega) (by omega) (by omega)).mono ?_
            rintro e w16 ⟨bz, rfl, hc, hg⟩
            have HO := hide (own_gr HO.out hg hg0)
            have HG := hide (gr_trans HG.out hg)
            have hsz := hg.size
            have HC := hide hc
            clear hc hg
            have hsz16 := hsz
            clear hsz
            cases bz with
            | false =>
              go_wp2
              go_ret
              exact ⟨.slice (some ⟨gg, 0, none⟩) L vc, ((((zs.set j0 (Pg.mk x.n x.r x.c x.l)).set j0 (Pg.mk x.n fp.r x.c x.l)).set j0 (Pg.mk x.n fp.r fp.c x.l)).set j0 (Pg.mk x.n fp.r fp.c x.l)), rfl, ⟨gg, vc, by rw [← HLL.out]⟩, by rw [← HLL.out]; omega, by rw [← HLL.out]; exact HO.out, HC.out.mono (by omega), HG.out⟩
            | true =>
              have HO := hide (World.ownsRow_made (e := 58) (size := 4) w16 #[] 0 (show w.heap.size ≤ _ by omega) (by simp [maxLen]) (by simp))
              go_wp2_with fail
              go_loopg [5, 12] 14 (fun gk v i wr => ∃ j : Nat, j ≤ 13 ∧ 14 - j ≤ gk ∧ i = .int .i64 (j : Int) ∧ Aside (Cur B wr g (m + 360 + 4 * j)) ∧ Aside (w.grownBy wr (some g)) ∧ Aside (∃ zs : List Pg, zs.length ≤ j ∧ (∃ gg vc, v = .slice (some ⟨gg, 0, none⟩) zs.length vc) ∧ wr.ownsRow w.heap.size 58 4 v zs.length (zs.flatMap encPg)))
              case atStart => exact ⟨0, by omega, by omega, rfl, (HC.out.alloc _).mono (by omega), (gr_alloc HG.out _), ⟨[], by simp, ⟨_, _, rfl⟩, HO.out⟩⟩
              case round =>
                obtain ⟨j, hj, hgj, rfl, CW, GW, OW⟩ := hrel
                clear HLL
                obtain ⟨ys, hyl, ⟨gy, yc, hvv⟩, ho⟩ := OW.out
                obtain ⟨L2, hL2⟩ : ∃ L2, L2 = ys.length := ⟨_, rfl⟩
                rw [← hL2] at ho hyl hvv
                subst hvv
                have HLL2 := hide hL2
                have hszr2 := GW.out.size
                clear HC HG HO
                have HC := hide CW.out
                have HG := hide GW.out
                have HO := hide ho
                clear OW ho hL2 CW GW
                go_wp2_with fail
                refine (pick_any B g (m + 360 + 4 * j) 2 _ HC.out (by omega) (by omega) (by omega)).mono ?_
                rintro e w61 ⟨p2, rfl, p20, p21, hc, hg⟩
                have HO := hide (own_gr HO.out hg hg0)
                have HG := hide (gr_trans HG.out hg)
                have hsz := hg.size
                have HC := hide hc
                clear hc hg
                have hsz61 := hsz
                clear hsz
                by_cases hlt2 : (j : Int) < 12 + p2
                · obtain ⟨hi, hz0, hz1, hz2⟩ := HI.out
                  go_wp2_with (at_builtin; refine wpList_append_own _ rfl _ _ 26 rfl w.heap.size 58 i0HI (.agg #[.int .i64 0, .int .i64 0, .int .i64 0, .int .i64 0]) 4 32 Tryd.underlying26 hi hz0 hz1 hz2 rfl (by decide) _ L2 _ rfl (HO.out.alloc _) ⟨w61.heap.size, 0, none⟩ 1 1 [.int .i64 ((j : Int) + 1), .int .i64 (3 * ((j : Int) % 4)), .int .i64 ((j : Int) / 4), .int .i64 7] rfl rfl ?c1 ?c2 ?c3 ?c4 ?c5 ?_)
                  case c1 => exact news_atN #[.int .i64 ((j : Int) + 1), .int .i64 (3 * ((j : Int) % 4)), .int .i64 ((j : Int) / 4), .int .i64 7] (by first | rfl | simp)
                  case c2 => intro u hu; simp only [List.mem_cons, List.not_mem_nil, or_false] at hu; rcases hu with rfl | rfl | rfl | rfl <;> rfl
                  case c3 => unfold maxLen; omega
                  case c4 => omega
                  case c5 => (try simp only [World.size_alloc, World.size_setCell]); omega
                  intro v' w62 hown' hgrow _
                  have HC := hide (cur_app (HC.out.alloc _) (HO.out.alloc _) hgrow hg0)
                  have HG := hide (gr_app (gr_alloc HG.out _) (HO.out.alloc _) hgrow (by omega))
                  have hsz := hgrow.size
                  simp only [World.size_alloc, World.size_setCell] at hsz
                  have HO := hide hown'
                  clear hown' hgrow hi hz0 hz1 hz2
                  have hsz62 := hsz
                  clear hsz
                  have HLE : Hid (L2 + 1 = (ys ++ [(Pg.mk ((j : Int) + 1) (3 * ((j : Int) % 4)) ((j : Int) / 4) 7)]).length) := hide (by simp only [List.length_append, List.length_cons, List.length_nil, ← HLL2.out])
                  have HE2 : Hid (w62.ownsRow w.heap.size 58 4 v' (L2 + 1) ((ys ++ [(Pg.mk ((j : Int) + 1) (3 * ((j : Int) % 4)) ((j : Int) / 4) 7)]).flatMap encPg)) := hide (by rw [flat_snoc]; exact HO.out)
                  rcases own_form encPg_len HE2.out HLE.out.symm with ⟨_, h0, _⟩ | ⟨ge, ce, cse, hve, _, _, _, _, _, _⟩
                  · omega
                  subst hve
                  go_wp2
                  go_roundg (14 - (j + 1))
                  case measure => omega
                  case rel => exact ⟨j + 1, by omega, by omega, by go_num, HC.out.mono (by omega), HG.out, ⟨ys ++ [(Pg.mk ((j : Int) + 1) (3 * ((j : Int) % 4)) ((j : Int) / 4) 7)], by rw [← HLE.out]; omega, ⟨_, _, by rw [← HLE.out]⟩, by rw [← HLE.out]; exact HE2.out⟩⟩
                · go_wp2
                  go_ret
                  exact ⟨.slice (some ⟨gy, 0, none⟩) L2 yc, ys, rfl, ⟨gy, yc, by rw [← HLL2.out]⟩, by rw [← HLL2.out]; omega, by rw [← HLL2.out]; exact HO.out, HC.out.mono (by omega), HG.out⟩
      · have hl2 : ¬ (0 : Int) < (L : Int) := by omega
        go_wp2_with fail
        refine (one_any B g (m + 300) 24 _ HC.out (by omega) (by omega) (by omega)).mono ?_
        rintro e w4 ⟨bz, rfl, hc, hg⟩
        have HO := hide (own_gr HO.out hg hg0)
        have HG := hide (gr_trans HG.out hg)
        have hsz := hg.size
        have HC := hide hc
        clear hc hg
        have hsz4 := hsz
        clear hsz
        cases bz with
        | false =>
          go_wp2
          go_ret
          exact ⟨.slice (some ⟨gg, 0, none⟩) L vc, zs, rfl, ⟨gg, vc, by rw [← HLL.out]⟩, by rw [← HLL.out]; omega, by rw [← HLL.out]; exact HO.out, HC.out.mono (by omega), HG.out⟩
        | true =>
          have HO := hide (World.ownsRow_made (e := 58) (size := 4) w4 #[] 0 (show w.heap.size ≤ _ by omega) (by simp [maxLen]) (by simp))
          go_wp2_with fail
          go_loopg [5, 12] 14 (fun gk v i wr => ∃ j : Nat, j ≤ 13 ∧ 14 - j ≤ gk ∧ i = .int .i64 (j : Int) ∧ Aside (Cur B wr g (m + 360 + 4 * j)) ∧ Aside (w.grownBy wr (some g)) ∧ Aside (∃ zs : List Pg, zs.length ≤ j ∧ (∃ gg vc, v = .slice (some ⟨gg, 0, none⟩) zs.length vc) ∧ wr.ownsRow w.heap.size 58 4 v zs.length (zs.flatMap encPg)))
          case atStart => exact ⟨0, by omega, by omega, rfl, (HC.out.alloc _).mono (by omega), (gr_alloc HG.out _), ⟨[], by simp, ⟨_, _, rfl⟩, HO.out⟩⟩
          case round =>
            obtain ⟨j, hj, hgj, rfl, CW, GW, OW⟩ := hrel
            clear HLL
            obtain ⟨ys, hyl, ⟨gy, yc, hvv⟩, ho⟩ := OW.out
            obtain ⟨L2, hL2⟩ : ∃ L2, L2 = ys.length := ⟨_, rfl⟩
            rw [← hL2] at ho hyl hvv
            subst hvv
            have HLL2 := hide hL2
            have hszr2 := GW.out.size
            clear HC HG HO
            have HC := hide CW.out
            have HG := hide GW.out
            have HO := hide ho
            clear OW ho hL2 CW GW
            go_wp2_with fail
            refine (pick_any B g (m + 360 + 4 * j) 2 _ HC.out (by omega) (by omega) (by omega)).mono ?_
            rintro e w61 ⟨p2, rfl, p20, p21, hc, hg⟩
            have HO := hide (own_gr HO.out hg hg0)
            have HG := hide (gr_trans HG.out hg)
            have hsz := hg.size
            have HC := hide hc
            clear hc hg
            have hsz61 := hsz
            clear hsz
            by_cases hlt2 : (j : Int) < 12 + p2
            · obtain ⟨hi, hz0, hz1, hz2⟩ := HI.out
              go_wp2_with (at_builtin; refine wpList_append_own _ rfl _ _ 26 rfl w.heap.size 58 i0HI (.agg #[.int .i64 0, .int .i64 0, .int .i64 0, .int .i64 0]) 4 32 Tryd.underlying26 hi hz0 hz1 hz2 rfl (by decide) _ L2 _ rfl (HO.out.alloc _) ⟨w61.heap.size, 0, none⟩ 1 1 [.int .i64 ((j : Int) + 1), .int .i64 (3 * ((j : Int) % 4)), .int .i64 ((j : Int) / 4), .int .i64 7] rfl rfl ?c1 ?c2 ?c3 ?c4 ?c5 ?_)
              case c1 => exact news_atN #[.int .i64 ((j : Int) + 1), .int .i64 (3 * ((j : Int) % 4)), .int .i64 ((j : Int) / 4), .int .i64 7] (by first | rfl | simp)
              case c2 => intro u hu; simp only [List.mem_cons, List.not_mem_nil, or_false] at hu; rcases hu with rfl | rfl | rfl | rfl <;> rfl
              case c3 => unfold maxLen; omega
              case c4 => omega
              case c5 => (try simp only [World.size_alloc, World.size_setCell]); omega
              intro v' w62 hown' hgrow _
              have HC := hide (cur_app (HC.out.alloc _) (HO.out.alloc _) hgrow hg0)
              have HG := hide (gr_app (gr_alloc HG.out _) (HO.out.alloc _) hgrow (by omega))
              have hsz := hgrow.size
              simp only [World.size_alloc, World.size_setCell] at hsz
              have HO := hide hown'
              clear hown' hgrow hi hz0 hz1 hz2
              have hsz62 := hsz
              clear hsz
              have HLE : Hid (L2 + 1 = (ys ++ [(Pg.mk ((j : Int) + 1) (3 * ((j : Int) % 4)) ((j : Int) / 4) 7)]).length) := hide (by simp only [List.length_append, List.length_cons, List.length_nil, ← HLL2.out])
              have HE2 : Hid (w62.ownsRow w.heap.size 58 4 v' (L2 + 1) ((ys ++ [(Pg.mk ((j : Int) + 1) (3 * ((j : Int) % 4)) ((j : Int) / 4) 7)]).flatMap encPg)) := hide (by rw [flat_snoc]; exact HO.out)
              rcases own_form encPg_len HE2.out HLE.out.symm with ⟨_, h0, _⟩ | ⟨ge, ce, cse, hve, _, _, _, _, _, _⟩
              · omega
              subst hve
              go_wp2
              go_roundg (14 - (j + 1))
              case measure => omega
              case rel => exact ⟨j + 1, by omega, by omega, by go_num, HC.out.mono (by omega), HG.out, ⟨ys ++ [(Pg.mk ((j : Int) + 1) (3 * ((j : Int) % 4)) ((j : Int) / 4) 7)], by rw [← HLE.out]; omega, ⟨_, _, by rw [← HLE.out]⟩, by rw [← HLE.out]; exact HE2.out⟩⟩
            · go_wp2
              go_ret
              exact ⟨.slice (some ⟨gy, 0, none⟩) L2 yc, ys, rfl, ⟨gy, yc, by rw [← HLL2.out]⟩, by rw [← HLL2.out]; omega, by rw [← HLL2.out]; exact HO.out, HC.out.mono (by omega), HG.out⟩

end Go.Proofs.YtdgalehipgdhiaaDoor
