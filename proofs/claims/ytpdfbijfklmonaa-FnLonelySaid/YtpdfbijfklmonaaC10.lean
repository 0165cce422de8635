/- Squares drawn. -/
import Derived.Test.YtpdfbijfklmonaaC7
import Derived.Test.YtpdfbijfklmonaaFIntA2
namespace Go.Proofs.Ytpdfbijfklmonaa
open Go.RowKit
set_option linter.unusedVariables false
set_option linter.unusedSimpArgs false

set_option maxRecDepth 100000 in
set_option maxHeartbeats 4000000 in
theorem draw_squares_any (B g m : Nat) (a b : Int) (w : World) (hc : Cur B w g m) (hm : m ≤ 100000) (ha : a ≤ 60) (hb : 0 ≤ b ∧ b ≤ 60) :
    Calls Try.prog 78 #[.pointer (some ⟨g, 0, none⟩), .int .i64 a, .int .i64 b] w fun e w' => ∃ v, ∃ zq : List Ar2, e = .returned v ∧ zq.length ≤ 61 ∧ w'.ownsRow w.heap.size 80 2 v zq.length (zq.flatMap encAr2) ∧ Cur B w' g (m + 300) ∧ w.grownBy w' (some g) := by
  have HC := hide hc
  have hg0 := hc.lt
  have hB0 := hc.base
  have HG := hide (gr_refl w (some g))
  have HO := hide (World.ownsRow_made (e := 80) (size := 2) w #[] 0 (Nat.le_refl _) (by simp [maxLen]) (by simp))
  clear hc
  obtain ⟨i0HI, hi, hz0, hz1, hz2⟩ := info_parts infoAr2
  have HI := hide (And.intro hi (And.intro hz0 (And.intro hz1 hz2)))
  clear hi hz0 hz1 hz2
  go_enter Try.func78, Try.ntmps78
  go_wp2_with fail
  go_loopg [7, 8] 60 (fun gk v i wr => ∃ k : Nat, (k : Int) ≤ 60 ∧ 60 - k ≤ gk ∧ i = .int .i64 (k : Int) ∧ Aside (Cur B wr g (m + 4 * k)) ∧ Aside (w.grownBy wr (some g)) ∧ Aside (∃ zq : List Ar2, zq.length ≤ k ∧ wr.ownsRow w.heap.size 80 2 v zq.length (zq.flatMap encAr2)))
  case atStart => exact ⟨0, by omega, by omega, rfl, (HC.out.alloc _).mono (by omega), (gr_alloc HG.out _), ⟨[], by simp, HO.out⟩⟩
  case round =>
    obtain ⟨k, hk, hgk, rfl, CW, GW, OW⟩ := hrel
    obtain ⟨zq, hzl, ho⟩ := OW.out
    obtain ⟨L, hL⟩ : ∃ L, L = zq.length := ⟨_, rfl⟩
    rw [← hL] at ho hzl
    have HLL := hide hL
    have hszr := GW.out.size
    clear HC HG HO
    have HC := hide CW.out
    have HG := hide GW.out
    have HO := hide ho
    clear OW ho hL CW GW
    by_cases hlt : (k : Int) < a
    · go_wp2_with fail
      refine (pick_any B g (m + 4 * k) (b + 1) _ HC.out (by omega) (by omega) (by omega)).mono ?_
      rintro e w3 ⟨p, rfl, p0, p1, hc, hg⟩
      have HO := hide (own_gr HO.out hg hg0)
      have HG := hide (gr_trans HG.out hg)
      have hsz := hg.size
      have HC := hide hc
      clear hc hg
      have hsz3 := hsz
      clear hsz
      by_cases hpb : p < b
      · go_wp2_with fail
        refine (one_any B g ((m + 4 * k) + 2) 2 _ HC.out (by omega) (by omega) (by omega)).mono ?_
        rintro e w4 ⟨b2, rfl, hc, hg⟩
        have HO := hide (own_gr HO.out hg hg0)
        have HG := hide (gr_trans HG.out hg)
        have hsz := hg.size
        have HC := hide hc
        clear hc hg
        have hsz4 := hsz
        clear hsz
        cases b2 with
        | false =>
          go_wp2
          go_roundg (60 - (k + 1))
          case measure => omega
          case rel => exact ⟨k + 1, by omega, by omega, by go_num, HC.out.mono (by omega), HG.out, ⟨zq, by rw [← HLL.out]; omega, by rw [← HLL.out]; exact HO.out⟩⟩
        | true =>
          obtain ⟨hi, hz0, hz1, hz2⟩ := HI.out
          go_wp2_with (at_builtin; refine wpList_append_own _ rfl _ _ 36 rfl w.heap.size 80 i0HI (.agg #[.int .i64 0, .int .i64 0]) 2 16 Try.underlying36 hi hz0 hz1 hz2 rfl (by decide) _ L _ rfl (HO.out.alloc _) ⟨w4.heap.size, 0, none⟩ 1 1 [.int .i64 (k : Int), .int .i64 p] rfl rfl ?c1 ?c2 ?c3 ?c4 ?c5 ?_)
          case c1 => exact news_atN #[.int .i64 (k : Int), .int .i64 p] (by first | rfl | simp)
          case c2 => intro u hu; simp only [List.mem_cons, List.not_mem_nil, or_false] at hu; rcases hu with rfl | rfl <;> rfl
          case c3 => unfold maxLen; omega
          case c4 => omega
          case c5 => (try simp only [World.size_alloc, World.size_setCell]); omega
          intro v' w5 hown' hgrow _
          have HC := hide (cur_app (HC.out.alloc _) (HO.out.alloc _) hgrow hg0)
          have HG := hide (gr_app (gr_alloc HG.out _) (HO.out.alloc _) hgrow (by omega))
          have hsz := hgrow.size
          simp only [World.size_alloc, World.size_setCell] at hsz
          have HO := hide hown'
          clear hown' hgrow hi hz0 hz1 hz2
          have hsz5 := hsz
          clear hsz
          go_wp2
          go_roundg (60 - (k + 1))
          case measure => omega
          case rel => exact ⟨k + 1, by omega, by omega, by go_num, HC.out.mono (by omega), HG.out, ⟨zq ++ [Ar2.mk (k : Int) p], by simp only [List.length_append, List.length_cons, List.length_nil, ← HLL.out]; omega, by rw [flat_snoc, List.length_append, ← HLL.out]; exact HO.out⟩⟩
      · go_wp2
        go_roundg (60 - (k + 1))
        case measure => omega
        case rel => exact ⟨k + 1, by omega, by omega, by go_num, HC.out.mono (by omega), HG.out, ⟨zq, by rw [← HLL.out]; omega, by rw [← HLL.out]; exact HO.out⟩⟩
    · go_wp2_with fail
      refine (one_any B g (m + 4 * k) 24 _ HC.out (by omega) (by omega) (by omega)).mono ?_
      rintro e w3 ⟨bz, rfl, hc, hg⟩
      have HO := hide (own_gr HO.out hg hg0)
      have HG := hide (gr_trans HG.out hg)
      have hsz := hg.size
      have HC := hide hc
      clear hc hg
      have hsz3 := hsz
      clear hsz
      cases bz with
      | false =>
        go_wp2
        go_ret
        exact ⟨_, zq, rfl, by rw [← HLL.out]; omega, by rw [← HLL.out]; exact HO.out, HC.out.mono (by omega), HG.out⟩
      | true =>
        go_wp2_with fail
        refine (among_any B g ((m + 4 * k) + 2) _ 3 3 [0, a, (-1)] _ (HC.out.alloc _) (Opts.lit (H := w3.heap.size) [0, a, (-1)] HC.out.lt rfl rfl) (by omega) (by omega) (by omega)).mono ?_
        rintro e w4 ⟨u, rfl, _, hc, hg⟩
        have HO := hide (own_gr (HO.out.alloc _) hg hg0)
        have HG := hide (gr_trans (gr_alloc HG.out _) hg)
        have hsz := hg.size
        simp only [World.size_alloc, World.size_setCell] at hsz
        have HC := hide hc
        clear hc hg
        have hsz4 := hsz
        clear hsz
        obtain ⟨hi, hz0, hz1, hz2⟩ := HI.out
        go_wp2_with (at_builtin; refine wpList_append_own _ rfl _ _ 36 rfl w.heap.size 80 i0HI (.agg #[.int .i64 0, .int .i64 0]) 2 16 Try.underlying36 hi hz0 hz1 hz2 rfl (by decide) _ L _ rfl (HO.out.alloc _) ⟨w4.heap.size, 0, none⟩ 1 1 [.int .i64 u, .int .i64 0] rfl rfl ?c1 ?c2 ?c3 ?c4 ?c5 ?_)
        case c1 => exact news_atN #[.int .i64 u, .int .i64 0] (by first | rfl | simp)
        case c2 => intro u hu; simp only [List.mem_cons, List.not_mem_nil, or_false] at hu; rcases hu with rfl | rfl <;> rfl
        case c3 => unfold maxLen; omega
        case c4 => omega
        case c5 => (try simp only [World.size_alloc, World.size_setCell]); omega
        intro v' w5 hown' hgrow _
        have HC := hide (cur_app (HC.out.alloc _) (HO.out.alloc _) hgrow hg0)
        have HG := hide (gr_app (gr_alloc HG.out _) (HO.out.alloc _) hgrow (by omega))
        have hsz := hgrow.size
        simp only [World.size_alloc, World.size_setCell] at hsz
        have HO := hide hown'
        clear hown' hgrow hi hz0 hz1 hz2
        have hsz5 := hsz
        clear hsz
        go_wp2
        go_ret
        exact ⟨_, zq ++ [Ar2.mk u 0], rfl, by simp only [List.length_append, List.length_cons, List.length_nil, ← HLL.out]; omega, by rw [flat_snoc, List.length_append, ← HLL.out]; exact HO.out, HC.out.mono (by omega), HG.out⟩

end Go.Proofs.Ytpdfbijfklmonaa
