/- Mosaics drawn. -/
import Derived.Test.YtpdfbijfklmonaaC7
import Derived.Test.YtpdfbijfklmonaaM27
namespace Go.Proofs.Ytpdfbijfklmonaa
open Go.RowKit
set_option linter.unusedVariables false
set_option linter.unusedSimpArgs false

set_option maxRecDepth 100000 in
set_option maxHeartbeats 4000000 in
theorem draw_mosaic_any (B g m : Nat) (a b : Int) (so : Option Addr) (N sc bs : Nat) (zs : List Cv) (w : World) (hc : Cur B w g m) (hm : m ≤ 100000) (hz : zs.length = N) (hN : N ≤ 12) (hos : w.ownsRow bs 60 6 (.slice so N sc) N (zs.flatMap encCv)) (hgS : g < bs) :
    Calls Try.prog 77 #[.pointer (some ⟨g, 0, none⟩), .int .i64 a, .int .i64 b, .slice so N sc] w fun e w' => ∃ v, ∃ is : List Int, e = .returned v ∧ is.length ≤ 13 ∧ w'.ownsRow w.heap.size 3 1 v is.length (is.flatMap encI) ∧ Cur B w' g (m + 100) ∧ w.grownBy w' (some g) := by
  have HC := hide hc
  have hg0 := hc.lt
  have hB0 := hc.base
  have HG := hide (gr_refl w (some g))
  have HZ := hide hz
  have HSl := hide (own_lt2 hos (N := w.heap.size) (Nat.le_refl _))
  have HFEW := hide (sFewestCovers_any a b so N sc zs w hz (by omega) (own_rd' encCv_len hos hz))
  have HS := hide hos
  have hw0 : w.heap.size ≤ w.heap.size := Nat.le_refl _
  clear hc hz hos
  obtain ⟨i0HI, hi, hz0, hz1, hz2⟩ := info_parts infoI
  have HI := hide (And.intro hi (And.intro hz0 (And.intro hz1 hz2)))
  clear hi hz0 hz1 hz2
  cases hok : okFew a b zs with
  | false =>
    have HOK := hide hok
    clear hok
    go_enter Try.func77, Try.ntmps77
    go_wp2_with fail
    refine (HFEW.out).mono ?_
    rintro e w1 ⟨vf, rfl, ho, hb⟩
    have HS := hide (own_step HS.out hb)
    have HG := hide (gr_step HG.out hb)
    have HC := hide (HC.out.below hb)
    have hsz := hb.size
    rw [HOK.out]
    have HO := hide ho
    clear ho
    clear hb
    have hsz1 := hsz
    clear hsz
    have HO := hide (World.ownsRow_made (e := 3) (size := 1) w1 #[] 0 (show w.heap.size ≤ _ by omega) (by simp [maxLen]) (by simp))
    go_wp2_with fail
    go_loopg [9, 11] N (fun gk v i wr => ∃ k : Nat, k ≤ N ∧ N - k ≤ gk ∧ i = .int .i64 (k : Int) ∧ Aside (Cur B wr g (m + 4 + 4 * k)) ∧ Aside (w.grownBy wr (some g)) ∧ Aside (wr.ownsRow bs 60 6 (.slice so N sc) N (zs.flatMap encCv)) ∧ Aside (∃ is : List Int, is.length ≤ k ∧ wr.ownsRow w.heap.size 3 1 v is.length (is.flatMap encI)))
    case atStart => exact ⟨0, by omega, by omega, rfl, (HC.out.alloc _).mono (by omega), (gr_alloc HG.out _), (HS.out.alloc _), ⟨[], by simp, HO.out⟩⟩
    case round =>
      obtain ⟨k, hk, hgk, rfl, CW, GW, SW, OW⟩ := hrel
      obtain ⟨is, hil, ho⟩ := OW.out
      obtain ⟨L, hL⟩ : ∃ L, L = is.length := ⟨_, rfl⟩
      rw [← hL] at ho hil
      have HLL := hide hL
      have hszr := GW.out.size
      clear HC HG HO HS
      have HC := hide CW.out
      have HG := hide GW.out
      have HO := hide ho
      have HS := hide SW.out
      clear OW ho hL CW GW SW
      by_cases hlt : k < N
      · have hlti : (k : Int) < (N : Int) := by omega
        have hk0 : (0 : Int) ≤ (k : Int) := by omega
        go_wp2_with fail
        refine (one_any B g (m + 4 + 4 * k) 4 _ HC.out (by omega) (by omega) (by omega)).mono ?_
        rintro e w11 ⟨b4, rfl, hc, hg⟩
        have HS := hide (own_gr HS.out hg hgS)
        have HO := hide (own_gr HO.out hg hg0)
        have HG := hide (gr_trans HG.out hg)
        have hsz := hg.size
        have HC := hide hc
        clear hc hg
        have hsz11 := hsz
        clear hsz
        cases b4 with
        | true =>
          go_wp2
          go_roundg (N - (k + 1))
          case measure => omega
          case rel => exact ⟨k + 1, by omega, by omega, by go_num, HC.out.mono (by omega), HG.out, HS.out, ⟨is, by rw [← HLL.out]; omega, by rw [← HLL.out]; exact HO.out⟩⟩
        | false =>
          obtain ⟨bb, off, rfl, hbl, hat⟩ := rdCv (own_rd' encCv_len HS.out HZ.out) (by rw [HZ.out]; omega)
          obtain ⟨x, hx, hxc⟩ := hat k (by rw [HZ.out]; exact hlt)
          obtain ⟨_, c0, _, _, _, _, _⟩ := hxc w11 (Below.refl _ _)
          clear hx hxc hat
          obtain ⟨hi, hz0, hz1, hz2⟩ := HI.out
          go_wp2_with (at_builtin; refine wpList_append_own _ rfl _ _ 30 rfl w.heap.size 3 i0HI (.int .i64 0) 1 8 Try.underlying30 hi hz0 hz1 hz2 rfl (by decide) _ L _ rfl (HO.out.alloc _) ⟨w11.heap.size, 0, none⟩ 1 1 [.int .i64 x.i] rfl rfl ?c1 ?c2 ?c3 ?c4 ?c5 ?_)
          case c1 => exact news_atN #[.int .i64 x.i] (by first | rfl | simp)
          case c2 => intro u hu; simp only [List.mem_cons, List.not_mem_nil, or_false] at hu; rcases hu with rfl <;> rfl
          case c3 => unfold maxLen; omega
          case c4 => omega
          case c5 => (try simp only [World.size_alloc, World.size_setCell]); omega
          intro v' w12 hown' hgrow _
          have HS := hide (own_only (HS.out.alloc _) hgrow (own_ap HSl.out HO.out))
          have HC := hide (cur_app (HC.out.alloc _) (HO.out.alloc _) hgrow hg0)
          have HG := hide (gr_app (gr_alloc HG.out _) (HO.out.alloc _) hgrow (by omega))
          have hsz := hgrow.size
          simp only [World.size_alloc, World.size_setCell] at hsz
          have HO := hide hown'
          clear hown' hgrow hi hz0 hz1 hz2
          have hsz12 := hsz
          clear hsz
          go_wp2
          go_roundg (N - (k + 1))
          case measure => omega
          case rel => exact ⟨k + 1, by omega, by omega, by go_num, HC.out.mono (by omega), HG.out, HS.out, ⟨is ++ [x.i], by simp only [List.length_append, List.length_cons, List.length_nil, ← HLL.out]; omega, by rw [flat_snoc, List.length_append, ← HLL.out]; exact HO.out⟩⟩
      · have hlti : ¬ (k : Int) < (N : Int) := by omega
        go_wp2_with fail
        refine (one_any B g (m + 4 + 4 * k) 12 _ HC.out (by omega) (by omega) (by omega)).mono ?_
        rintro e w11 ⟨bz, rfl, hc, hg⟩
        have HS := hide (own_gr HS.out hg hgS)
        have HO := hide (own_gr HO.out hg hg0)
        have HG := hide (gr_trans HG.out hg)
        have hsz := hg.size
        have HC := hide hc
        clear hc hg
        have hsz11 := hsz
        clear hsz
        cases bz with
        | false =>
          go_wp2
          go_ret
          exact ⟨_, is, rfl, by rw [← HLL.out]; omega, by rw [← HLL.out]; exact HO.out, HC.out.mono (by omega), HG.out⟩
        | true =>
          go_wp2_with fail
          refine (among_any B g ((m + 4 + 4 * k) + 2) _ 3 3 [0, 10, 99] _ (HC.out.alloc _) (Opts.lit (H := w11.heap.size) [0, 10, 99] HC.out.lt rfl rfl) (by omega) (by omega) (by omega)).mono ?_
          rintro e w12 ⟨u, rfl, _, hc, hg⟩
          have HS := hide (own_gr (HS.out.alloc _) hg hgS)
          have HO := hide (own_gr (HO.out.alloc _) hg hg0)
          have HG := hide (gr_trans (gr_alloc HG.out _) hg)
          have hsz := hg.size
          simp only [World.size_alloc, World.size_setCell] at hsz
          have HC := hide hc
          clear hc hg
          have hsz12 := hsz
          clear hsz
          obtain ⟨hi, hz0, hz1, hz2⟩ := HI.out
          go_wp2_with (at_builtin; refine wpList_append_own _ rfl _ _ 30 rfl w.heap.size 3 i0HI (.int .i64 0) 1 8 Try.underlying30 hi hz0 hz1 hz2 rfl (by decide) _ L _ rfl (HO.out.alloc _) ⟨w12.heap.size, 0, none⟩ 1 1 [.int .i64 u] rfl rfl ?c1 ?c2 ?c3 ?c4 ?c5 ?_)
          case c1 => exact news_atN #[.int .i64 u] (by first | rfl | simp)
          case c2 => intro u hu; simp only [List.mem_cons, List.not_mem_nil, or_false] at hu; rcases hu with rfl <;> rfl
          case c3 => unfold maxLen; omega
          case c4 => omega
          case c5 => (try simp only [World.size_alloc, World.size_setCell]); omega
          intro v' w13 hown' hgrow _
          have HS := hide (own_only (HS.out.alloc _) hgrow (own_ap HSl.out HO.out))
          have HC := hide (cur_app (HC.out.alloc _) (HO.out.alloc _) hgrow hg0)
          have HG := hide (gr_app (gr_alloc HG.out _) (HO.out.alloc _) hgrow (by omega))
          have hsz := hgrow.size
          simp only [World.size_alloc, World.size_setCell] at hsz
          have HO := hide hown'
          clear hown' hgrow hi hz0 hz1 hz2
          have hsz13 := hsz
          clear hsz
          go_wp2
          go_ret
          exact ⟨_, is ++ [u], rfl, by simp only [List.length_append, List.length_cons, List.length_nil, ← HLL.out]; omega, by rw [flat_snoc, List.length_append, ← HLL.out]; exact HO.out, HC.out.mono (by omega), HG.out⟩
  | true =>
    have HOK := hide hok
    clear hok
    go_enter Try.func77, Try.ntmps77
    go_wp2_with fail
    refine (HFEW.out).mono ?_
    rintro e w1 ⟨vf, rfl, ho, hb⟩
    have HS := hide (own_step HS.out hb)
    have HG := hide (gr_step HG.out hb)
    have HC := hide (HC.out.below hb)
    have hsz := hb.size
    rw [HOK.out]
    have HO := hide ho
    clear ho
    clear hb
    have hsz1 := hsz
    clear hsz
    obtain ⟨L, hL⟩ : ∃ L, L = (fewV a b zs).length := ⟨_, rfl⟩
    have hLb : L ≤ 12 := by rw [hL]; exact Nat.le_trans few_len (by rw [HZ.out]; exact hN)
    have HLL := hide hL
    have ho := HO.out
    rw [← hL] at ho
    have HO := hide ho
    clear ho hL
    go_wp2_with fail
    refine (one_any B g m 3 _ HC.out (by omega) (by omega) (by omega)).mono ?_
    rintro e w2 ⟨b3, rfl, hc, hg⟩
    have HS := hide (own_gr HS.out hg hgS)
    have HO := hide (own_gr HO.out hg hg0)
    have HG := hide (gr_trans HG.out hg)
    have hsz := hg.size
    have HC := hide hc
    clear hc hg
    have hsz2 := hsz
    clear hsz
    cases b3 with
    | false =>
      go_wp2_with fail
      refine (one_any B g (m + 2) 12 _ HC.out (by omega) (by omega) (by omega)).mono ?_
      rintro e w3 ⟨bz, rfl, hc, hg⟩
      have HS := hide (own_gr HS.out hg hgS)
      have HO := hide (own_gr HO.out hg hg0)
      have HG := hide (gr_trans HG.out hg)
      have hsz := hg.size
      have HC := hide hc
      clear hc hg
      have hsz3 := hsz
      clear hsz
      cases bz with
      | false =>
        go_wp2
        go_ret
        exact ⟨_, (fewV a b zs), rfl, by rw [← HLL.out]; omega, by rw [← HLL.out]; exact HO.out, HC.out.mono (by omega), HG.out⟩
      | true =>
        go_wp2_with fail
        refine (among_any B g (m + 4) _ 3 3 [0, 10, 99] _ (HC.out.alloc _) (Opts.lit (H := w3.heap.size) [0, 10, 99] HC.out.lt rfl rfl) (by omega) (by omega) (by omega)).mono ?_
        rintro e w4 ⟨u, rfl, _, hc, hg⟩
        have HS := hide (own_gr (HS.out.alloc _) hg hgS)
        have HO := hide (own_gr (HO.out.alloc _) hg hg0)
        have HG := hide (gr_trans (gr_alloc HG.out _) hg)
        have hsz := hg.size
        simp only [World.size_alloc, World.size_setCell] at hsz
        have HC := hide hc
        clear hc hg
        have hsz4 := hsz
        clear hsz
        obtain ⟨hi, hz0, hz1, hz2⟩ := HI.out
        go_wp2_with (at_builtin; refine wpList_append_own _ rfl _ _ 30 rfl w.heap.size 3 i0HI (.int .i64 0) 1 8 Try.underlying30 hi hz0 hz1 hz2 rfl (by decide) _ L _ rfl (HO.out.alloc _) ⟨w4.heap.size, 0, none⟩ 1 1 [.int .i64 u] rfl rfl ?c1 ?c2 ?c3 ?c4 ?c5 ?_)
        case c1 => exact news_atN #[.int .i64 u] (by first | rfl | simp)
        case c2 => intro u hu; simp only [List.mem_cons, List.not_mem_nil, or_false] at hu; rcases hu with rfl <;> rfl
        case c3 => unfold maxLen; omega
        case c4 => omega
        case c5 => (try simp only [World.size_alloc, World.size_setCell]); omega
        intro v' w5 hown' hgrow _
        have HS := hide (own_only (HS.out.alloc _) hgrow (own_ap HSl.out HO.out))
        have HC := hide (cur_app (HC.out.alloc _) (HO.out.alloc _) hgrow hg0)
        have HG := hide (gr_app (gr_alloc HG.out _) (HO.out.alloc _) hgrow (by omega))
        have hsz := hgrow.size
        simp only [World.size_alloc, World.size_setCell] at hsz
        have HO := hide hown'
        clear hown' hgrow hi hz0 hz1 hz2
        have hsz5 := hsz
        clear hsz
        go_wp2
        go_ret
        exact ⟨_, (fewV a b zs) ++ [u], rfl, by simp only [List.length_append, List.length_cons, List.length_nil, ← HLL.out]; omega, by rw [flat_snoc, List.length_append, ← HLL.out]; exact HO.out, HC.out.mono (by omega), HG.out⟩
    | true =>
      clear HO HLL hLb
      have HO := hide (World.ownsRow_made (e := 3) (size := 1) w2 #[] 0 (show w.heap.size ≤ _ by omega) (by simp [maxLen]) (by simp))
      go_wp2_with fail
      go_loopg [9, 11] N (fun gk v i wr => ∃ k : Nat, k ≤ N ∧ N - k ≤ gk ∧ i = .int .i64 (k : Int) ∧ Aside (Cur B wr g (m + 4 + 4 * k)) ∧ Aside (w.grownBy wr (some g)) ∧ Aside (wr.ownsRow bs 60 6 (.slice so N sc) N (zs.flatMap encCv)) ∧ Aside (∃ is : List Int, is.length ≤ k ∧ wr.ownsRow w.heap.size 3 1 v is.length (is.flatMap encI)))
      case atStart => exact ⟨0, by omega, by omega, rfl, (HC.out.alloc _).mono (by omega), (gr_alloc HG.out _), (HS.out.alloc _), ⟨[], by simp, HO.out⟩⟩
      case round =>
        obtain ⟨k, hk, hgk, rfl, CW, GW, SW, OW⟩ := hrel
        obtain ⟨is, hil, ho⟩ := OW.out
        obtain ⟨L, hL⟩ : ∃ L, L = is.length := ⟨_, rfl⟩
        rw [← hL] at ho hil
        have HLL := hide hL
        have hszr := GW.out.size
        clear HC HG HO HS
        have HC := hide CW.out
        have HG := hide GW.out
        have HO := hide ho
        have HS := hide SW.out
        clear OW ho hL CW GW SW
        by_cases hlt : k < N
        · have hlti : (k : Int) < (N : Int) := by omega
          have hk0 : (0 : Int) ≤ (k : Int) := by omega
          go_wp2_with fail
          refine (one_any B g (m + 4 + 4 * k) 4 _ HC.out (by omega) (by omega) (by omega)).mono ?_
          rintro e w11 ⟨b4, rfl, hc, hg⟩
          have HS := hide (own_gr HS.out hg hgS)
          have HO := hide (own_gr HO.out hg hg0)
          have HG := hide (gr_trans HG.out hg)
          have hsz := hg.size
          have HC := hide hc
          clear hc hg
          have hsz11 := hsz
          clear hsz
          cases b4 with
          | true =>
            go_wp2
            go_roundg (N - (k + 1))
            case measure => omega
            case rel => exact ⟨k + 1, by omega, by omega, by go_num, HC.out.mono (by omega), HG.out, HS.out, ⟨is, by rw [← HLL.out]; omega, by rw [← HLL.out]; exact HO.out⟩⟩
          | false =>
            obtain ⟨bb, off, rfl, hbl, hat⟩ := rdCv (own_rd' encCv_len HS.out HZ.out) (by rw [HZ.out]; omega)
            obtain ⟨x, hx, hxc⟩ := hat k (by rw [HZ.out]; exact hlt)
            obtain ⟨_, c0, _, _, _, _, _⟩ := hxc w11 (Below.refl _ _)
            clear hx hxc hat
            obtain ⟨hi, hz0, hz1, hz2⟩ := HI.out
            go_wp2_with (at_builtin; refine wpList_append_own _ rfl _ _ 30 rfl w.heap.size 3 i0HI (.int .i64 0) 1 8 Try.underlying30 hi hz0 hz1 hz2 rfl (by decide) _ L _ rfl (HO.out.alloc _) ⟨w11.heap.size, 0, none⟩ 1 1 [.int .i64 x.i] rfl rfl ?c1 ?c2 ?c3 ?c4 ?c5 ?_)
            case c1 => exact news_atN #[.int .i64 x.i] (by first | rfl | simp)
            case c2 => intro u hu; simp only [List.mem_cons, List.not_mem_nil, or_false] at hu; rcases hu with rfl <;> rfl
            case c3 => unfold maxLen; omega
            case c4 => omega
            case c5 => (try simp only [World.size_alloc, World.size_setCell]); omega
            intro v' w12 hown' hgrow _
            have HS := hide (own_only (HS.out.alloc _) hgrow (own_ap HSl.out HO.out))
            have HC := hide (cur_app (HC.out.alloc _) (HO.out.alloc _) hgrow hg0)
            have HG := hide (gr_app (gr_alloc HG.out _) (HO.out.alloc _) hgrow (by omega))
            have hsz := hgrow.size
            simp only [World.size_alloc, World.size_setCell] at hsz
            have HO := hide hown'
            clear hown' hgrow hi hz0 hz1 hz2
            have hsz12 := hsz
            clear hsz
            go_wp2
            go_roundg (N - (k + 1))
            case measure => omega
            case rel => exact ⟨k + 1, by omega, by omega, by go_num, HC.out.mono (by omega), HG.out, HS.out, ⟨is ++ [x.i], by simp only [List.length_append, List.length_cons, List.length_nil, ← HLL.out]; omega, by rw [flat_snoc, List.length_append, ← HLL.out]; exact HO.out⟩⟩
        · have hlti : ¬ (k : Int) < (N : Int) := by omega
          go_wp2_with fail
          refine (one_any B g (m + 4 + 4 * k) 12 _ HC.out (by omega) (by omega) (by omega)).mono ?_
          rintro e w11 ⟨bz, rfl, hc, hg⟩
          have HS := hide (own_gr HS.out hg hgS)
          have HO := hide (own_gr HO.out hg hg0)
          have HG := hide (gr_trans HG.out hg)
          have hsz := hg.size
          have HC := hide hc
          clear hc hg
          have hsz11 := hsz
          clear hsz
          cases bz with
          | false =>
            go_wp2
            go_ret
            exact ⟨_, is, rfl, by rw [← HLL.out]; omega, by rw [← HLL.out]; exact HO.out, HC.out.mono (by omega), HG.out⟩
          | true =>
            go_wp2_with fail
            refine (among_any B g ((m + 4 + 4 * k) + 2) _ 3 3 [0, 10, 99] _ (HC.out.alloc _) (Opts.lit (H := w11.heap.size) [0, 10, 99] HC.out.lt rfl rfl) (by omega) (by omega) (by omega)).mono ?_
            rintro e w12 ⟨u, rfl, _, hc, hg⟩
            have HS := hide (own_gr (HS.out.alloc _) hg hgS)
            have HO := hide (own_gr (HO.out.alloc _) hg hg0)
            have HG := hide (gr_trans (gr_alloc HG.out _) hg)
            have hsz := hg.size
            simp only [World.size_alloc, World.size_setCell] at hsz
            have HC := hide hc
            clear hc hg
            have hsz12 := hsz
            clear hsz
            obtain ⟨hi, hz0, hz1, hz2⟩ := HI.out
            go_wp2_with (at_builtin; refine wpList_append_own _ rfl _ _ 30 rfl w.heap.size 3 i0HI (.int .i64 0) 1 8 Try.underlying30 hi hz0 hz1 hz2 rfl (by decide) _ L _ rfl (HO.out.alloc _) ⟨w12.heap.size, 0, none⟩ 1 1 [.int .i64 u] rfl rfl ?c1 ?c2 ?c3 ?c4 ?c5 ?_)
            case c1 => exact news_atN #[.int .i64 u] (by first | rfl | simp)
            case c2 => intro u hu; simp only [List.mem_cons, List.not_mem_nil, or_false] at hu; rcases hu with rfl <;> rfl
            case c3 => unfold maxLen; omega
            case c4 => omega
            case c5 => (try simp only [World.size_alloc, World.size_setCell]); omega
            intro v' w13 hown' hgrow _
            have HS := hide (own_only (HS.out.alloc _) hgrow (own_ap HSl.out HO.out))
            have HC := hide (cur_app (HC.out.alloc _) (HO.out.alloc _) hgrow hg0)
            have HG := hide (gr_app (gr_alloc HG.out _) (HO.out.alloc _) hgrow (by omega))
            have hsz := hgrow.size
            simp only [World.size_alloc, World.size_setCell] at hsz
            have HO := hide hown'
            clear hown' hgrow hi hz0 hz1 hz2
            have hsz13 := hsz
            clear hsz
            go_wp2
            go_ret
            exact ⟨_, is ++ [u], rfl, by simp only [List.length_append, List.length_cons, List.length_nil, ← HLL.out]; omega, by rw [flat_snoc, List.length_append, ← HLL.out]; exact HO.out, HC.out.mono (by omega), HG.out⟩

end Go.Proofs.Ytpdfbijfklmonaa
