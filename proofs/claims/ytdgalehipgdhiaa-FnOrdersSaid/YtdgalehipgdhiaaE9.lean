/- The draws of FnOrders: pages. -/
import Derived.Test.YtdgalehipgdhiaaC14
import Derived.Test.YtdgalehipgdhiaaX1
import Derived.Test.YtdgalehipgdhiaaHI
namespace Go.Proofs.Ytdgalehipgdhiaa
open Go.RowKit
set_option linter.unusedVariables false
set_option linter.unusedSimpArgs false

set_option maxRecDepth 100000 in
theorem DrawIsAtlas_any (ao : Option Addr) (n c : Nat) (w : World) (hn : n ≤ 65536) (hnc : n ≤ c) (hby : Bytes w.heap.size w ao n) :
    Calls Try.prog 61 #[.slice ao n c] w fun e w' => ∃ v, ∃ zs : List Pg, e = .returned v ∧ (∃ gg vc, v = .slice (some ⟨gg, 0, none⟩) zs.length vc) ∧ zs.length ≤ 14 ∧ w'.ownsRow w.heap.size 48 4 v zs.length (zs.flatMap encPg) ∧ Below w.heap.size w w' := by
  have HCUR : Hid (Cur w.heap.size (w.alloc (.cells #[.slice ao n c, .int .i64 ((0 : Nat) : Int), .int .u64 0] 76)) w.heap.size 0) := hide ⟨ao, n, c, 0, 0, Blk.new w _ _, Nat.le_refl _, Nat.le_refl _, hn, hnc, hby.keep (by simp) (fun j hj _ => Below.heap_alloc w _ j hj)⟩
  clear hby
  have HA := hide (draw_atlas_any w.heap.size w.heap.size 0 9 _ HCUR.out (by omega) (by omega))
  go_enter Try.func61, Try.ntmps61
  go_wp2_with fail
  refine HA.out.mono ?_
  rintro e w1 ⟨v, zs, rfl, hfm, hl, ho, _, hg⟩
  have HO := hide (own_base0 (b2 := w.heap.size) ho (by simp))
  have HB := hide (bl_gr ((Below.refl _ w).alloc (Nat.le_refl _) _) hg (Nat.le_refl _) (by simp))
  have HFM := hide hfm
  clear ho hg hfm
  go_wp2
  go_ret
  exact ⟨_, zs, rfl, HFM.out, hl, HO.out, HB.out⟩

theorem DrawOrderedAtlas_any (ao : Option Addr) (n c : Nat) (w : World) (hn : n ≤ 65536) (hnc : n ≤ c) (hby : Bytes w.heap.size w ao n) :
    Calls Try.prog 29 #[.slice ao n c] w fun e w' => ∃ v, ∃ zs : List Pg, e = .returned v ∧ (∃ gg vc, v = .slice (some ⟨gg, 0, none⟩) zs.length vc) ∧ zs.length ≤ 14 ∧ w'.ownsRow w.heap.size 48 4 v zs.length (zs.flatMap encPg) ∧ Below w.heap.size w w' := by
  have H := hide (DrawIsAtlas_any ao n c w hn hnc hby)
  clear hby
  go_enter Try.func29, Try.ntmps29
  go_wp2_with fail
  refine H.out.mono ?_
  rintro e w1 ⟨v, zs, rfl, hfm, hl, ho, hb⟩
  have HO := hide ho
  have HB := hide hb
  have HFM := hide hfm
  clear ho hb hfm
  go_wp2
  go_ret
  exact ⟨_, zs, rfl, HFM.out, hl, HO.out, HB.out⟩

set_option maxRecDepth 100000 in
theorem DrawBestOrder_any (ao : Option Addr) (n c : Nat) (w : World) (hn : n ≤ 65536) (hnc : n ≤ c) (hby : Bytes w.heap.size w ao n) :
    Calls Try.prog 25 #[.slice ao n c] w fun e w' => ∃ v, ∃ zs : List Pg, e = .returned v ∧ (∃ gg vc, v = .slice (some ⟨gg, 0, none⟩) zs.length vc) ∧ zs.length ≤ 14 ∧ w'.ownsRow w.heap.size 48 4 v zs.length (zs.flatMap encPg) ∧ Below w.heap.size w w' := by
  have HCUR : Hid (Cur w.heap.size (w.alloc (.cells #[.slice ao n c, .int .i64 ((0 : Nat) : Int), .int .u64 0] 76)) w.heap.size 0) := hide ⟨ao, n, c, 0, 0, Blk.new w _ _, Nat.le_refl _, Nat.le_refl _, hn, hnc, hby.keep (by simp) (fun j hj _ => Below.heap_alloc w _ j hj)⟩
  clear hby
  have HA := hide (draw_atlas_any w.heap.size w.heap.size 0 7 _ HCUR.out (by omega) (by omega))
  go_enter Try.func25, Try.ntmps25
  go_wp2_with fail
  refine HA.out.mono ?_
  rintro e w1 ⟨v, zs, rfl, hfm, hl, ho, _, hg⟩
  have HO := hide (own_base0 (b2 := w.heap.size) ho (by simp))
  have HB := hide (bl_gr ((Below.refl _ w).alloc (Nat.le_refl _) _) hg (Nat.le_refl _) (by simp))
  have HFM := hide hfm
  clear ho hg hfm
  go_wp2
  go_ret
  exact ⟨_, zs, rfl, HFM.out, hl, HO.out, HB.out⟩

set_option maxRecDepth 100000 in
set_option maxHeartbeats 4000000 in
theorem DrawPageAt_any (ao : Option Addr) (n c : Nat) (w : World) (hn : n ≤ 65536) (hnc : n ≤ c) (hby : Bytes w.heap.size w ao n) :
    Calls Try.prog 35 #[.slice ao n c] w fun e w' => ∃ v, ∃ zs : List Pg, ∃ x y : Int, e = .returned (.tuple #[v, .int .i64 x, .int .i64 y]) ∧ zs.length ≤ 14 ∧ w'.ownsRow w.heap.size 48 4 v zs.length (zs.flatMap encPg) ∧ Below w.heap.size w w' := by
  have mixed : Try.prog.follows .mixedOrders = true := by kernel_rfl
  have HCUR : Hid (Cur w.heap.size (w.alloc (.cells #[.slice ao n c, .int .i64 ((0 : Nat) : Int), .int .u64 0] 76)) w.heap.size 0) := hide ⟨ao, n, c, 0, 0, Blk.new w _ _, Nat.le_refl _, Nat.le_refl _, hn, hnc, hby.keep (by simp) (fun j hj _ => Below.heap_alloc w _ j hj)⟩
  clear hby
  have HA := hide (draw_atlas_any w.heap.size w.heap.size 0 9 _ HCUR.out (by omega) (by omega))
  clear HCUR
  go_enter Try.func35, Try.ntmps35
  go_wp2_with fail
  refine HA.out.mono ?_
  rintro e w1 ⟨v, zs, rfl, ⟨gg, vc, rfl⟩, hl, ho, hc, hg⟩
  obtain ⟨N, hN⟩ : ∃ N, N = zs.length := ⟨_, rfl⟩
  rw [← hN] at ho hl ⊢
  have HZ := hide hN.symm
  have hsz1 := hg.size
  simp only [World.size_alloc] at hsz1
  have hg0 : w.heap.size < w.heap.size + 1 := by omega
  have HO : Hid (w1.ownsRow (w.heap.size + 1) 48 4 (.slice (some ⟨gg, 0, none⟩) N vc) N (zs.flatMap encPg)) := hide (own_base0 ho (by simp))
  have HC := hide hc
  have HG := hide (gr_trans (gr_alloc (gr_refl w (some w.heap.size)) _) hg)
  clear ho hc hg hN HA
  by_cases h0 : N = 0
  · have h0z : ((N : Int) == 0) = true := by simp [h0]
    have HN0 := hide h0
    subst h0
    have HOP : Hid (∀ cs : Array Value, cs = ([0, 99, (-1), 100].map (Value.int .i64)).toArray → Opts (w1.alloc (.cells cs 3)) w.heap.size (some ⟨w1.heap.size, 0, none⟩) 4 [0, 99, (-1), 100]) := hide (fun cs h => Opts.lit (H := w1.heap.size) [0, 99, (-1), 100] HC.out.lt h rfl)
    go_wp2_with fail
    refine (pick_any w.heap.size w.heap.size 500 24 _ (HC.out.alloc _) (by omega) (by omega) (by omega)).mono ?_
    rintro e w2 ⟨q1, rfl, q2, q3, hc, hg⟩
    have HOP := hide ((HOP.out _ rfl).grown hg)
    have HO := hide (own_gr (HO.out.alloc _) hg hg0)
    have HG := hide (gr_trans (gr_alloc HG.out _) hg)
    have hsz := hg.size
    simp only [World.size_alloc, World.size_setCell] at hsz
    have HC := hide hc
    clear hc hg
    have hsz2 := hsz
    clear hsz
    obtain ⟨q, hq⟩ : ∃ q : Nat, q1 / 11 = (q : Int) := ⟨(q1 / 11).toNat, by omega⟩
    have hq2 : q ≤ 2 := by omega
    have k5 : (2 + (q : Int)).toNat = 2 + q := by omega
    have k6 : (0 : Int) ≤ 2 + (q : Int) := by omega
    have k7 : 2 + (q : Int) ≤ 4 := by omega
    clear q2 q3
    go_wp2_with fail
    refine (among_any w.heap.size w.heap.size (500 + 2) _ (2 + q) 4 [0, 99, (-1), 100] _ HC.out (HOP.out.fewer (by omega)) (by omega) (by omega) (by omega)).mono ?_
    rintro e w3 ⟨za, rfl, _, hc, hg⟩
    have HO := hide (own_gr HO.out hg hg0)
    have HG := hide (gr_trans HG.out hg)
    have hsz := hg.size
    have HC := hide hc
    clear hc hg
    have hsz3 := hsz
    clear hsz
    clear hq hq2 k5 k6 k7 HOP
    have HOP : Hid (∀ cs : Array Value, cs = ([0, 99, (-1), 100].map (Value.int .i64)).toArray → Opts (w3.alloc (.cells cs 3)) w.heap.size (some ⟨w3.heap.size, 0, none⟩) 4 [0, 99, (-1), 100]) := hide (fun cs h => Opts.lit (H := w3.heap.size) [0, 99, (-1), 100] HC.out.lt h rfl)
    go_wp2_with fail
    refine (pick_any w.heap.size w.heap.size (500 + 4) 24 _ (HC.out.alloc _) (by omega) (by omega) (by omega)).mono ?_
    rintro e w4 ⟨q1, rfl, q2, q3, hc, hg⟩
    have HOP := hide ((HOP.out _ rfl).grown hg)
    have HO := hide (own_gr (HO.out.alloc _) hg hg0)
    have HG := hide (gr_trans (gr_alloc HG.out _) hg)
    have hsz := hg.size
    simp only [World.size_alloc, World.size_setCell] at hsz
    have HC := hide hc
    clear hc hg
    have hsz4 := hsz
    clear hsz
    obtain ⟨q, hq⟩ : ∃ q : Nat, q1 / 11 = (q : Int) := ⟨(q1 / 11).toNat, by omega⟩
    have hq2 : q ≤ 2 := by omega
    have k5 : (2 + (q : Int)).toNat = 2 + q := by omega
    have k6 : (0 : Int) ≤ 2 + (q : Int) := by omega
    have k7 : 2 + (q : Int) ≤ 4 := by omega
    clear q2 q3
    go_wp2_with fail
    refine (among_any w.heap.size w.heap.size (500 + 6) _ (2 + q) 4 [0, 99, (-1), 100] _ HC.out (HOP.out.fewer (by omega)) (by omega) (by omega) (by omega)).mono ?_
    rintro e w5 ⟨zb, rfl, _, hc, hg⟩
    have HO := hide (own_gr HO.out hg hg0)
    have HG := hide (gr_trans HG.out hg)
    have hsz := hg.size
    have HC := hide hc
    clear hc hg
    have hsz5 := hsz
    clear hsz
    clear hq hq2 k5 k6 k7 HOP
    go_wp2
    go_ret3
    exact ⟨_, zs, _, _, rfl, by rw [HZ.out]; exact hl, by rw [HZ.out]; exact own_base0 HO.out (by omega), bl_gr (Below.refl _ _) HG.out (Nat.le_refl _) (Nat.le_refl _)⟩
  · have h0z : ((N : Int) == 0) = false := by simp [h0]
    have h0d : decide ((N : Int) = 0) = false := by simp [h0]
    have h0e : decide (N = 0) = false := by simp [h0]
    have HN0 := hide h0
    have hNp : 0 < N := by omega
    clear h0
    go_wp2_with fail
    refine (one_any w.heap.size w.heap.size 500 4 _ HC.out (by omega) (by omega) (by omega)).mono ?_
    rintro e w2 ⟨bb, rfl, hc, hg⟩
    have HO := hide (own_gr HO.out hg hg0)
    have HG := hide (gr_trans HG.out hg)
    have hsz := hg.size
    have HC := hide hc
    clear hc hg
    have hsz2 := hsz
    clear hsz
    cases bb with
    | true =>
      have HOP : Hid (∀ cs : Array Value, cs = ([0, 99, (-1), 100].map (Value.int .i64)).toArray → Opts (w2.alloc (.cells cs 3)) w.heap.size (some ⟨w2.heap.size, 0, none⟩) 4 [0, 99, (-1), 100]) := hide (fun cs h => Opts.lit (H := w2.heap.size) [0, 99, (-1), 100] HC.out.lt h rfl)
      go_wp2_with fail
      refine (pick_any w.heap.size w.heap.size (500 + 2) 24 _ (HC.out.alloc _) (by omega) (by omega) (by omega)).mono ?_
      rintro e w3 ⟨q1, rfl, q2, q3, hc, hg⟩
      have HOP := hide ((HOP.out _ rfl).grown hg)
      have HO := hide (own_gr (HO.out.alloc _) hg hg0)
      have HG := hide (gr_trans (gr_alloc HG.out _) hg)
      have hsz := hg.size
      simp only [World.size_alloc, World.size_setCell] at hsz
      have HC := hide hc
      clear hc hg
      have hsz3 := hsz
      clear hsz
      obtain ⟨q, hq⟩ : ∃ q : Nat, q1 / 11 = (q : Int) := ⟨(q1 / 11).toNat, by omega⟩
      have hq2 : q ≤ 2 := by omega
      have k5 : (2 + (q : Int)).toNat = 2 + q := by omega
      have k6 : (0 : Int) ≤ 2 + (q : Int) := by omega
      have k7 : 2 + (q : Int) ≤ 4 := by omega
      clear q2 q3
      go_wp2_with fail
      refine (among_any w.heap.size w.heap.size (500 + 4) _ (2 + q) 4 [0, 99, (-1), 100] _ HC.out (HOP.out.fewer (by omega)) (by omega) (by omega) (by omega)).mono ?_
      rintro e w4 ⟨za, rfl, _, hc, hg⟩
      have HO := hide (own_gr HO.out hg hg0)
      have HG := hide (gr_trans HG.out hg)
      have hsz := hg.size
      have HC := hide hc
      clear hc hg
      have hsz4 := hsz
      clear hsz
      clear hq hq2 k5 k6 k7 HOP
      have HOP : Hid (∀ cs : Array Value, cs = ([0, 99, (-1), 100].map (Value.int .i64)).toArray → Opts (w4.alloc (.cells cs 3)) w.heap.size (some ⟨w4.heap.size, 0, none⟩) 4 [0, 99, (-1), 100]) := hide (fun cs h => Opts.lit (H := w4.heap.size) [0, 99, (-1), 100] HC.out.lt h rfl)
      go_wp2_with fail
      refine (pick_any w.heap.size w.heap.size (500 + 6) 24 _ (HC.out.alloc _) (by omega) (by omega) (by omega)).mono ?_
      rintro e w5 ⟨q1, rfl, q2, q3, hc, hg⟩
      have HOP := hide ((HOP.out _ rfl).grown hg)
      have HO := hide (own_gr (HO.out.alloc _) hg hg0)
      have HG := hide (gr_trans (gr_alloc HG.out _) hg)
      have hsz := hg.size
      simp only [World.size_alloc, World.size_setCell] at hsz
      have HC := hide hc
      clear hc hg
      have hsz5 := hsz
      clear hsz
      obtain ⟨q, hq⟩ : ∃ q : Nat, q1 / 11 = (q : Int) := ⟨(q1 / 11).toNat, by omega⟩
      have hq2 : q ≤ 2 := by omega
      have k5 : (2 + (q : Int)).toNat = 2 + q := by omega
      have k6 : (0 : Int) ≤ 2 + (q : Int) := by omega
      have k7 : 2 + (q : Int) ≤ 4 := by omega
      clear q2 q3
      go_wp2_with fail
      refine (among_any w.heap.size w.heap.size (500 + 8) _ (2 + q) 4 [0, 99, (-1), 100] _ HC.out (HOP.out.fewer (by omega)) (by omega) (by omega) (by omega)).mono ?_
      rintro e w6 ⟨zb, rfl, _, hc, hg⟩
      have HO := hide (own_gr HO.out hg hg0)
      have HG := hide (gr_trans HG.out hg)
      have hsz := hg.size
      have HC := hide hc
      clear hc hg
      have hsz6 := hsz
      clear hsz
      clear hq hq2 k5 k6 k7 HOP
      go_wp2
      go_ret3
      exact ⟨_, zs, _, _, rfl, by rw [HZ.out]; exact hl, by rw [HZ.out]; exact own_base0 HO.out (by omega), bl_gr (Below.refl _ _) HG.out (Nat.le_refl _) (Nat.le_refl _)⟩
    | false =>
      go_wp2_with fail
      refine (pick_any w.heap.size w.heap.size (500 + 2) (N : Int) _ HC.out (by omega) (by omega) (by omega)).mono ?_
      rintro e w3 ⟨jj, rfl, jj0, jj1, hc, hg⟩
      have HO := hide (own_gr HO.out hg hg0)
      have HG := hide (gr_trans HG.out hg)
      have hsz := hg.size
      have HC := hide hc
      clear hc hg
      have hsz3 := hsz
      clear hsz
      obtain ⟨j, rfl⟩ : ∃ j : Nat, jj = (j : Int) := ⟨jj.toNat, by omega⟩
      have hjN : j < N := by omega
      have hj1 : (j : Int) < (N : Int) := by omega
      have hj0 : (0 : Int) ≤ (j : Int) := by omega
      obtain ⟨b_, off_, hvo_, _, hat_⟩ := rdPg (own_rd' encPg_len HO.out HZ.out) (by rw [HZ.out]; omega)
      injection hvo_ with hvo_
      injection hvo_ with e1_ e2_ e3_
      subst e1_ e2_
      obtain ⟨x, _, hxc_⟩ := hat_ j (by rw [HZ.out]; omega)
      obtain ⟨_, c0, c1, c2, c3⟩ := hxc_ w3 (Below.refl _ _)
      simp only [Nat.zero_add, Nat.zero_mul] at c0 c1 c2 c3
      clear hxc_ hat_ jj0 jj1
      obtain ⟨V, hV⟩ : ∃ V, V = w3.alloc (.cells #[.int .i64 x.n, .int .i64 x.r, .int .i64 x.c, .int .i64 x.l] 48) := ⟨_, rfl⟩
      obtain ⟨X, hX⟩ : ∃ X, X = w3.heap.size := ⟨_, rfl⟩
      have HX : Hid (Blk V X 48 #[.int .i64 x.n, .int .i64 x.r, .int .i64 x.c, .int .i64 x.l]) := hide (by rw [hV, hX]; exact Blk.new _ _ _)
      have hXg : X ≠ w.heap.size := by omega
      have HC := hide (show Cur w.heap.size V w.heap.size (500 + 4) from by rw [hV]; exact HC.out.alloc _)
      have HG := hide (show w.grownBy V (some w.heap.size) from by rw [hV]; exact gr_alloc HG.out _)
      have HO := hide (show World.ownsRow V (w.heap.size + 1) 48 4 (.slice (some ⟨gg, 0, none⟩) N vc) N (zs.flatMap encPg) from by rw [hV]; exact HO.out.alloc _)
      have hszV : w3.heap.size ≤ V.heap.size := by rw [hV]; simp
      have HVV := hide hV
      have HXX := hide hX
      clear hV hX
      go_wp2_with fail
      rw [← HVV.out, ← HXX.out]
      clear c0 c1 c2 c3
      refine wp_region_held_drew (S := (fun w' => w'.cell? ⟨X, 1, none⟩ = some (.int .i64 x.r) ∧ w'.cell? ⟨X, 2, none⟩ = some (.int .i64 x.c) ∧ w'.cell? ⟨X, 3, none⟩ = some (.int .i64 x.l))) (by kernel_rfl) ⟨HX.out.drew.cell 1, HX.out.drew.cell 2, HX.out.drew.cell 3⟩ (fun hHeld => ?_)
      refine heldI_take 0 44 ?vv197 rfl (by kernel_rfl) (by kernel_rfl) (by kernel_rfl) rfl (fun _ _ _ h => h) (by rfl) ?hy197 (by assumption) ?rest197
      case hy197 => (intro w hSw; (try dsimp only at hSw); go_simp; try with_reducible rfl)
      try simp only [Act.put, List.setIfInBounds_toArray, List.set_cons_zero, List.set_cons_succ]
      refine heldI_take 1 45 ?vv198 rfl (by kernel_rfl) (by kernel_rfl) (by kernel_rfl) rfl (fun _ _ _ h => h) (by rfl) ?hy198 (by assumption) ?rest198
      case hy198 => (intro w hSw; (try dsimp only at hSw); go_simp; try with_reducible rfl)
      try simp only [Act.put, List.setIfInBounds_toArray, List.set_cons_zero, List.set_cons_succ]
      refine heldI_take 2 46 ?vv199 rfl (by kernel_rfl) (by kernel_rfl) (by kernel_rfl) rfl (fun _ _ _ h => h) (by rfl) ?hy199 (by assumption) ?rest199
      case hy199 => (intro w hSw; (try dsimp only at hSw); go_simp; try with_reducible rfl)
      try simp only [Act.put, List.setIfInBounds_toArray, List.set_cons_zero, List.set_cons_succ]
      refine heldI_take 3 47 ?vv200 rfl (by kernel_rfl) (by kernel_rfl) (by kernel_rfl) rfl (fun _ _ _ h => h) (by rfl) ?hy200 (by assumption) ?rest200
      case hy200 => (intro w hSw; (try dsimp only at hSw); go_simp; try with_reducible rfl)
      try simp only [Act.put, List.setIfInBounds_toArray, List.set_cons_zero, List.set_cons_succ]
      refine heldI_take 4 48 ?vv201 rfl (by kernel_rfl) (by kernel_rfl) (by kernel_rfl) rfl (fun _ _ _ h => h) (by rfl) ?hy201 (by assumption) ?rest201
      case hy201 => (intro w hSw; (try dsimp only at hSw); go_simp; try with_reducible rfl)
      try simp only [Act.put, List.setIfInBounds_toArray, List.set_cons_zero, List.set_cons_succ]
      refine heldI_take 5 49 ?vv202 rfl (by kernel_rfl) (by kernel_rfl) (by kernel_rfl) rfl (fun _ _ _ h => h) (by rfl) ?hy202 (by assumption) ?rest202
      case hy202 => (intro w hSw; (try dsimp only at hSw); go_simp; try with_reducible rfl)
      try simp only [Act.put, List.setIfInBounds_toArray, List.set_cons_zero, List.set_cons_succ]
      refine wpAnyH_ready (rs := [6]) (by kernel_rfl) (by simp) ?_
      refine AllReadyH.cons rfl (fun K hK => ?_) AllReadyH.nil
      go_simp
      refine (pick_any w.heap.size w.heap.size (500 + 4) 2 _ HC.out.drew (by omega) (by omega) (by omega)).mono ?_
      rintro e v4 ⟨z, rfl, z0, z1, hc, hg⟩
      go_wp2_with fail
      have HO := hide (own_gr HO.out.drew hg (by omega))
      have HG := hide (gr_trans (gr_drew HG.out) hg)
      have HX := hide (Blk.gr HX.out.drew hg hXg)
      clear hc hg z0 z1
      refine hK.out _ _ ⟨HX.out.cell 1, HX.out.cell 2, HX.out.cell 3⟩ (fun hHeld2 => ?_)
      clear hK K hHeld
      try simp only [Act.put, List.setIfInBounds_toArray, List.set_cons_zero, List.set_cons_succ]
      refine heldI_take 7 51 ?vv203 rfl (by kernel_rfl) (by kernel_rfl) (by kernel_rfl) rfl (fun _ _ _ h => h) (by rfl) ?hy203 (by assumption) ?rest203
      case hy203 => (intro w hSw; (try dsimp only at hSw); go_simp; try with_reducible rfl)
      try simp only [Act.put, List.setIfInBounds_toArray, List.set_cons_zero, List.set_cons_succ]
      refine heldI_take 8 2 ?vv204 rfl (by kernel_rfl) (by kernel_rfl) (by kernel_rfl) rfl (fun _ _ _ h => h) (by rfl) ?hy204 (by assumption) ?rest204
      case hy204 => (intro w hSw; (try dsimp only at hSw); go_simp; try with_reducible rfl)
      try simp only [Act.put, List.setIfInBounds_toArray, List.set_cons_zero, List.set_cons_succ]
      refine heldI_take 9 3 ?vv205 rfl (by kernel_rfl) (by kernel_rfl) (by kernel_rfl) rfl (fun _ _ _ h => h) (by rfl) ?hy205 (by assumption) ?rest205
      case hy205 => (intro w hSw; (try dsimp only at hSw); go_simp; try with_reducible rfl)
      try simp only [Act.put, List.setIfInBounds_toArray, List.set_cons_zero, List.set_cons_succ]
      refine heldI_take 10 4 ?vv206 rfl (by kernel_rfl) (by kernel_rfl) (by kernel_rfl) rfl (fun _ _ _ h => h) (by rfl) ?hy206 (by assumption) ?rest206
      case hy206 => (intro w hSw; (try dsimp only at hSw); go_simp; try with_reducible rfl)
      try simp only [Act.put, List.setIfInBounds_toArray, List.set_cons_zero, List.set_cons_succ]
      refine wpAnyH_done (by kernel_rfl) ?_ _
      clear hHeld2
      go_wp2
      go_ret3
      exact ⟨_, zs, _, _, rfl, by rw [HZ.out]; exact hl, by rw [HZ.out]; exact own_base0 HO.out (by omega), bl_gr (Below.refl _ _) HG.out (Nat.le_refl _) (Nat.le_refl _)⟩

end Go.Proofs.Ytdgalehipgdhiaa
