/- The draws of FnAtlas. -/
import Derived.Test.YtdgalehipgdhiaaDoorC14
import Derived.Test.YtdgalehipgdhiaaDoorX1
namespace Go.Proofs.YtdgalehipgdhiaaDoor
open Go.RowKit
set_option linter.unusedVariables false
set_option linter.unusedSimpArgs false

theorem results_tmp5 {fn : Func} {t u v x y : Tmp} (h : fn.results = #[.tmp t, .tmp u, .tmp v, .tmp x, .tmp y]) (tmps : Array Value) (P : Program) (w : World) :
    (results fn tmps).run P w = .ok (.tuple #[tmps.getD t undef, tmps.getD u undef, tmps.getD v undef, tmps.getD x undef, tmps.getD y undef]) w := by
  simp [results, h]

theorem mostD_any (a b : Int) (w : World) : Calls Tryd.prog 66 #[.int .i64 a, .int .i64 b] w fun e w' => (∃ q : Int, e = .returned (.int .i64 q)) ∧ w = w' := by
  go_enter Tryd.func66, Tryd.ntmps66
  go_wp2
  all_goals
    go_ret
    exact ⟨⟨_, rfl⟩, rfl⟩

set_option maxRecDepth 100000 in
theorem pageNumber_any (B g m : Nat) (ao : Option Addr) (n c : Nat) (w : World) (hc : Cur B w g m) (hm : m ≤ 100000) (hn : n ≤ 14) :
    Calls Tryd.prog 57 #[.pointer (some ⟨g, 0, none⟩), .slice ao n c] w fun e w' => ∃ q : Int, e = .returned (.int .i64 q) ∧ Cur B w' g (m + 20) ∧ w.grownBy w' (some g) := by
  have HC := hide hc
  have hg0 := hc.lt
  have HG := hide (gr_refl w (some g))
  clear hc
  have k1 : IntKind.i64.wrap ((n : Int) + 1) = (n : Int) + 1 := IntWalk.i64_in _ (by omega)
  go_enter Tryd.func57, Tryd.ntmps57
  go_wp2_with fail
  refine (one_any B g m 8 _ HC.out (by omega) (by omega) (by omega)).mono ?_
  rintro e w1 ⟨bb, rfl, hc, hg⟩
  have HG := hide (gr_trans HG.out hg)
  have hsz := hg.size
  have HC := hide hc
  clear hc hg
  have hsz1 := hsz
  clear hsz
  cases bb with
  | true =>
    go_wp2_with fail
    refine (among_any B g (m + 2) _ 2 2 [0, ((n : Int) + 1)] _ (HC.out.alloc _) (Opts.lit (H := w1.heap.size) [0, ((n : Int) + 1)] HC.out.lt rfl rfl) (by omega) (by omega) (by omega)).mono ?_
    rintro e w2 ⟨q, rfl, _, hc, hg⟩
    have HG := hide (gr_trans (gr_alloc HG.out _) hg)
    have hsz := hg.size
    simp only [World.size_alloc, World.size_setCell] at hsz
    have HC := hide hc
    clear hc hg
    have hsz2 := hsz
    clear hsz
    go_wp2
    go_ret
    exact ⟨_, rfl, HC.out.mono (by omega), HG.out⟩
  | false =>
    go_wp2_with fail
    refine (pick_any B g (m + 2) ((n : Int) + 1) _ HC.out (by omega) (by omega) (by omega)).mono ?_
    rintro e w2 ⟨q, rfl, q0, q1, hc, hg⟩
    have HG := hide (gr_trans HG.out hg)
    have hsz := hg.size
    have HC := hide hc
    clear hc hg
    have hsz2 := hsz
    clear hsz
    go_wp2_with (go_at_call 66; refine (mostD_any _ _ _).mono ?_; rintro e w' ⟨⟨q_, rfl⟩, rfl⟩)
    go_ret
    exact ⟨_, rfl, HC.out.mono (by omega), HG.out⟩

set_option maxRecDepth 100000 in
set_option maxHeartbeats 4000000 in
theorem DrawBesidePages_any (ao : Option Addr) (n c : Nat) (w : World) (hn : n ≤ 65536) (hnc : n ≤ c) (hby : Bytes w.heap.size w ao n) :
    Calls Tryd.prog 38 #[.slice ao n c] w fun e w' => ∃ v, ∃ zs : List Pg, ∃ q : Int, e = .returned (.tuple #[v, .int .i64 q]) ∧ zs.length ≤ 14 ∧ w'.ownsRow w.heap.size 58 4 v zs.length (zs.flatMap encPg) ∧ Below w.heap.size w w' := by
  have mixed : Tryd.prog.follows .mixedOrders = true := by kernel_rfl
  have HCUR : Hid (Cur w.heap.size (w.alloc (.cells #[.slice ao n c, .int .i64 ((0 : Nat) : Int), .int .u64 0] 52)) w.heap.size 0) := hide ⟨ao, n, c, 0, 0, Blk.new w _ _, Nat.le_refl _, Nat.le_refl _, hn, hnc, hby.keep (by simp) (fun j hj _ => Below.heap_alloc w _ j hj)⟩
  clear hby
  have HA := hide (draw_atlas_any w.heap.size w.heap.size 0 9 _ HCUR.out (by omega) (by omega))
  clear HCUR
  go_enter Tryd.func38, Tryd.ntmps38
  go_wp2_with fail
  refine HA.out.mono ?_
  rintro e w1 ⟨v, zs, rfl, ⟨gg, vc, rfl⟩, hl, ho, hc, hg⟩
  obtain ⟨N, hN⟩ : ∃ N, N = zs.length := ⟨_, rfl⟩
  rw [← hN] at ho hl ⊢
  have HZ := hide hN.symm
  have hsz1 := hg.size
  simp only [World.size_alloc] at hsz1
  have hg0 : w.heap.size < w.heap.size + 1 := by omega
  have HO : Hid (w1.ownsRow (w.heap.size + 1) 58 4 (.slice (some ⟨gg, 0, none⟩) N vc) N (zs.flatMap encPg)) := hide (own_base0 ho (by simp))
  have HC := hide hc
  have HG := hide (gr_trans (gr_alloc (gr_refl w (some w.heap.size)) _) hg)
  clear ho hc hg hN HA
  go_wp2_with fail
  refine (pageNumber_any w.heap.size w.heap.size 500 _ N vc _ HC.out (by omega) (by omega)).mono ?_
  rintro e w2 ⟨q, rfl, hc, hg⟩
  have HO := hide (own_gr HO.out hg (by omega))
  have HG := hide (gr_trans HG.out hg)
  clear hc hg
  go_wp2
  go_ret2
  exact ⟨_, zs, q, rfl, by rw [HZ.out]; exact hl, by rw [HZ.out]; exact own_base0 HO.out (by omega), bl_gr (Below.refl _ _) HG.out (Nat.le_refl _) (Nat.le_refl _)⟩

theorem DrawDropPage_any (ao : Option Addr) (n c : Nat) (w : World) (hn : n ≤ 65536) (hnc : n ≤ c) (hby : Bytes w.heap.size w ao n) :
    Calls Tryd.prog 12 #[.slice ao n c] w fun e w' => ∃ v, ∃ zs : List Pg, ∃ q : Int, e = .returned (.tuple #[v, .int .i64 q]) ∧ zs.length ≤ 14 ∧ w'.ownsRow w.heap.size 58 4 v zs.length (zs.flatMap encPg) ∧ Below w.heap.size w w' := by
  have H := hide (DrawBesidePages_any ao n c w hn hnc hby)
  clear hby
  go_enter Tryd.func12, Tryd.ntmps12
  go_wp2_with fail
  refine H.out.mono ?_
  rintro e w1 ⟨v, zs, q, rfl, hl, ho, hb⟩
  have HO := hide ho
  have HB := hide hb
  clear ho hb
  go_wp2
  go_ret2
  exact ⟨_, zs, q, rfl, hl, HO.out, HB.out⟩

set_option maxRecDepth 100000 in
set_option maxHeartbeats 4000000 in
theorem DrawSnakeAtlas_any (ao : Option Addr) (n c : Nat) (w : World) (hn : n ≤ 65536) (hnc : n ≤ c) (hby : Bytes w.heap.size w ao n) :
    Calls Tryd.prog 6 #[.slice ao n c] w fun e w' => ∃ r s R C l : Int, e = .returned (.tuple #[.int .i64 r, .int .i64 s, .int .i64 R, .int .i64 C, .int .i64 l]) ∧ Below w.heap.size w w' := by
  have mixed : Tryd.prog.follows .mixedOrders = true := by kernel_rfl
  have HCUR : Hid (Cur w.heap.size (w.alloc (.cells #[.slice ao n c, .int .i64 ((0 : Nat) : Int), .int .u64 0] 52)) w.heap.size 0) := hide ⟨ao, n, c, 0, 0, Blk.new w _ _, Nat.le_refl _, Nat.le_refl _, hn, hnc, hby.keep (by simp) (fun j hj _ => Below.heap_alloc w _ j hj)⟩
  clear hby
  go_enter Tryd.func6, Tryd.ntmps6
  have HC := hide HCUR.out
  have HG : Hid (w.grownBy (w.alloc (.cells #[.slice ao n c, .int .i64 ((0 : Nat) : Int), .int .u64 0] 52)) (some w.heap.size)) := hide (gr_alloc (gr_refl w (some w.heap.size)) _)
  clear HCUR
  have HOP : Hid (∀ cs : Array Value, cs = ([0, 5, 96, 97, 98, (-1), 100].map (Value.int .i64)).toArray → Opts ((w.alloc (.cells #[.slice ao n c, .int .i64 ((0 : Nat) : Int), .int .u64 0] 52)).alloc (.cells cs 3)) w.heap.size (some ⟨w.heap.size + 1, 0, none⟩) 7 [0, 5, 96, 97, 98, (-1), 100]) := hide (fun cs h => Opts.lit (H := w.heap.size + 1) [0, 5, 96, 97, 98, (-1), 100] HC.out.lt h (by simp))
  go_wp2_with fail
  refine (pick_any w.heap.size w.heap.size 0 24 _ (HC.out.alloc _) (by omega) (by omega) (by omega)).mono ?_
  rintro e w1 ⟨q1, rfl, q2, q3, hc, hg⟩
  have HOP := hide ((HOP.out _ rfl).grown hg)
  have HG := hide (gr_trans (gr_alloc HG.out _) hg)
  have hsz := hg.size
  simp only [World.size_alloc, World.size_setCell] at hsz
  have HC := hide hc
  clear hc hg
  have hsz1 := hsz
  clear hsz
  obtain ⟨q, hq⟩ : ∃ q : Nat, q1 / 11 = (q : Int) := ⟨(q1 / 11).toNat, by omega⟩
  have hq2 : q ≤ 2 := by omega
  have k5 : (5 + (q : Int)).toNat = 5 + q := by omega
  have k6 : (0 : Int) ≤ 5 + (q : Int) := by omega
  have k7 : 5 + (q : Int) ≤ 7 := by omega
  clear q2 q3
  go_wp2_with fail
  refine (among_any w.heap.size w.heap.size (0 + 2) _ (5 + q) 7 [0, 5, 96, 97, 98, (-1), 100] _ HC.out (HOP.out.fewer (by omega)) (by omega) (by omega) (by omega)).mono ?_
  rintro e w2 ⟨x1, rfl, _, hc, hg⟩
  have HG := hide (gr_trans HG.out hg)
  have hsz := hg.size
  have HC := hide hc
  clear hc hg
  have hsz2 := hsz
  clear hsz
  clear hq hq2 k5 k6 k7 HOP
  have HOP : Hid (∀ cs : Array Value, cs = ([0, 5, 96, 97, 98, (-1), 100].map (Value.int .i64)).toArray → Opts (w2.alloc (.cells cs 3)) w.heap.size (some ⟨w2.heap.size, 0, none⟩) 7 [0, 5, 96, 97, 98, (-1), 100]) := hide (fun cs h => Opts.lit (H := w2.heap.size) [0, 5, 96, 97, 98, (-1), 100] HC.out.lt h rfl)
  go_wp2_with fail
  refine (pick_any w.heap.size w.heap.size (0 + 4) 24 _ (HC.out.alloc _) (by omega) (by omega) (by omega)).mono ?_
  rintro e w3 ⟨q1, rfl, q2, q3, hc, hg⟩
  have HOP := hide ((HOP.out _ rfl).grown hg)
  have HG := hide (gr_trans (gr_alloc HG.out _) hg)
  have hsz := hg.size
  simp only [World.size_alloc, World.size_setCell] at hsz
  have HC := hide hc
  clear hc hg
  have hsz3 := hsz
  clear hsz
  obtain ⟨q, hq⟩ : ∃ q : Nat, q1 / 11 = (q : Int) := ⟨(q1 / 11).toNat, by omega⟩
  have hq2 : q ≤ 2 := by omega
  have k5 : (5 + (q : Int)).toNat = 5 + q := by omega
  have k6 : (0 : Int) ≤ 5 + (q : Int) := by omega
  have k7 : 5 + (q : Int) ≤ 7 := by omega
  clear q2 q3
  go_wp2_with fail
  refine (among_any w.heap.size w.heap.size (0 + 6) _ (5 + q) 7 [0, 5, 96, 97, 98, (-1), 100] _ HC.out (HOP.out.fewer (by omega)) (by omega) (by omega) (by omega)).mono ?_
  rintro e w4 ⟨x2, rfl, _, hc, hg⟩
  have HG := hide (gr_trans HG.out hg)
  have hsz := hg.size
  have HC := hide hc
  clear hc hg
  have hsz4 := hsz
  clear hsz
  clear hq hq2 k5 k6 k7 HOP
  have HOP : Hid (∀ cs : Array Value, cs = ([1, 2, 3, 4, 0, 5].map (Value.int .i64)).toArray → Opts (w4.alloc (.cells cs 3)) w.heap.size (some ⟨w4.heap.size, 0, none⟩) 6 [1, 2, 3, 4, 0, 5]) := hide (fun cs h => Opts.lit (H := w4.heap.size) [1, 2, 3, 4, 0, 5] HC.out.lt h rfl)
  go_wp2_with fail
  refine (pick_any w.heap.size w.heap.size (0 + 8) 24 _ (HC.out.alloc _) (by omega) (by omega) (by omega)).mono ?_
  rintro e w5 ⟨q1, rfl, q2, q3, hc, hg⟩
  have HOP := hide ((HOP.out _ rfl).grown hg)
  have HG := hide (gr_trans (gr_alloc HG.out _) hg)
  have hsz := hg.size
  simp only [World.size_alloc, World.size_setCell] at hsz
  have HC := hide hc
  clear hc hg
  have hsz5 := hsz
  clear hsz
  obtain ⟨q, hq⟩ : ∃ q : Nat, q1 / 11 = (q : Int) := ⟨(q1 / 11).toNat, by omega⟩
  have hq2 : q ≤ 2 := by omega
  have k5 : (4 + (q : Int)).toNat = 4 + q := by omega
  have k6 : (0 : Int) ≤ 4 + (q : Int) := by omega
  have k7 : 4 + (q : Int) ≤ 6 := by omega
  clear q2 q3
  go_wp2_with fail
  refine (among_any w.heap.size w.heap.size (0 + 10) _ (4 + q) 6 [1, 2, 3, 4, 0, 5] _ HC.out (HOP.out.fewer (by omega)) (by omega) (by omega) (by omega)).mono ?_
  rintro e w6 ⟨x3, rfl, _, hc, hg⟩
  have HG := hide (gr_trans HG.out hg)
  have hsz := hg.size
  have HC := hide hc
  clear hc hg
  have hsz6 := hsz
  clear hsz
  clear hq hq2 k5 k6 k7 HOP
  have HOP : Hid (∀ cs : Array Value, cs = ([1, 2, 3, 4, 0, 5].map (Value.int .i64)).toArray → Opts (w6.alloc (.cells cs 3)) w.heap.size (some ⟨w6.heap.size, 0, none⟩) 6 [1, 2, 3, 4, 0, 5]) := hide (fun cs h => Opts.lit (H := w6.heap.size) [1, 2, 3, 4, 0, 5] HC.out.lt h rfl)
  go_wp2_with fail
  refine (pick_any w.heap.size w.heap.size (0 + 12) 24 _ (HC.out.alloc _) (by omega) (by omega) (by omega)).mono ?_
  rintro e w7 ⟨q1, rfl, q2, q3, hc, hg⟩
  have HOP := hide ((HOP.out _ rfl).grown hg)
  have HG := hide (gr_trans (gr_alloc HG.out _) hg)
  have hsz := hg.size
  simp only [World.size_alloc, World.size_setCell] at hsz
  have HC := hide hc
  clear hc hg
  have hsz7 := hsz
  clear hsz
  obtain ⟨q, hq⟩ : ∃ q : Nat, q1 / 11 = (q : Int) := ⟨(q1 / 11).toNat, by omega⟩
  have hq2 : q ≤ 2 := by omega
  have k5 : (4 + (q : Int)).toNat = 4 + q := by omega
  have k6 : (0 : Int) ≤ 4 + (q : Int) := by omega
  have k7 : 4 + (q : Int) ≤ 6 := by omega
  clear q2 q3
  go_wp2_with fail
  refine (among_any w.heap.size w.heap.size (0 + 14) _ (4 + q) 6 [1, 2, 3, 4, 0, 5] _ HC.out (HOP.out.fewer (by omega)) (by omega) (by omega) (by omega)).mono ?_
  rintro e w8 ⟨x4, rfl, _, hc, hg⟩
  have HG := hide (gr_trans HG.out hg)
  have hsz := hg.size
  have HC := hide hc
  clear hc hg
  have hsz8 := hsz
  clear hsz
  clear hq hq2 k5 k6 k7 HOP
  have HOP : Hid (∀ cs : Array Value, cs = ([0, 7, 40, (-1), 41].map (Value.int .i64)).toArray → Opts (w8.alloc (.cells cs 3)) w.heap.size (some ⟨w8.heap.size, 0, none⟩) 5 [0, 7, 40, (-1), 41]) := hide (fun cs h => Opts.lit (H := w8.heap.size) [0, 7, 40, (-1), 41] HC.out.lt h rfl)
  go_wp2_with fail
  refine (pick_any w.heap.size w.heap.size (0 + 16) 24 _ (HC.out.alloc _) (by omega) (by omega) (by omega)).mono ?_
  rintro e w9 ⟨q1, rfl, q2, q3, hc, hg⟩
  have HOP := hide ((HOP.out _ rfl).grown hg)
  have HG := hide (gr_trans (gr_alloc HG.out _) hg)
  have hsz := hg.size
  simp only [World.size_alloc, World.size_setCell] at hsz
  have HC := hide hc
  clear hc hg
  have hsz9 := hsz
  clear hsz
  obtain ⟨q, hq⟩ : ∃ q : Nat, q1 / 11 = (q : Int) := ⟨(q1 / 11).toNat, by omega⟩
  have hq2 : q ≤ 2 := by omega
  have k5 : (3 + (q : Int)).toNat = 3 + q := by omega
  have k6 : (0 : Int) ≤ 3 + (q : Int) := by omega
  have k7 : 3 + (q : Int) ≤ 5 := by omega
  clear q2 q3
  go_wp2_with fail
  refine (among_any w.heap.size w.heap.size (0 + 18) _ (3 + q) 5 [0, 7, 40, (-1), 41] _ HC.out (HOP.out.fewer (by omega)) (by omega) (by omega) (by omega)).mono ?_
  rintro e w10 ⟨x5, rfl, _, hc, hg⟩
  have HG := hide (gr_trans HG.out hg)
  have hsz := hg.size
  have HC := hide hc
  clear hc hg
  have hsz10 := hsz
  clear hsz
  clear hq hq2 k5 k6 k7 HOP
  go_wp2
  refine bodyPost_ret (results_tmp5 rfl _ _ _) rfl ?_
  exact ⟨_, _, _, _, _, rfl, bl_gr (Below.refl _ _) HG.out (Nat.le_refl _) (Nat.le_refl _)⟩

end Go.Proofs.YtdgalehipgdhiaaDoor
