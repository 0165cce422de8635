/- The draws of FnOrders: a point. -/
import Derived.Test.YtdgalehipgdhiaaE9
namespace Go.Proofs.Ytdgalehipgdhiaa
open Go.RowKit
set_option linter.unusedVariables false
set_option linter.unusedSimpArgs false

theorem mostD_any (a b : Int) (w : World) : Calls Try.prog 69 #[.int .i64 a, .int .i64 b] w fun e w' => (∃ q : Int, e = .returned (.int .i64 q)) ∧ w = w' := by
  go_enter Try.func69, Try.ntmps69
  go_wp2
  all_goals
    go_ret
    exact ⟨⟨_, rfl⟩, rfl⟩

set_option maxRecDepth 100000 in
set_option maxHeartbeats 4000000 in
theorem DrawSeenOn_any (ao : Option Addr) (n c : Nat) (w : World) (hn : n ≤ 65536) (hnc : n ≤ c) (hby : Bytes w.heap.size w ao n) :
    Calls Try.prog 33 #[.slice ao n c] w fun e w' => ∃ v, ∃ zs : List Pg, ∃ x y : Int, e = .returned (.tuple #[v, .int .i64 x, .int .i64 y]) ∧ zs.length ≤ 14 ∧ w'.ownsRow w.heap.size 48 4 v zs.length (zs.flatMap encPg) ∧ Below w.heap.size w w' := by
  have mixed : Try.prog.follows .mixedOrders = true := by kernel_rfl
  have HCUR : Hid (Cur w.heap.size (w.alloc (.cells #[.slice ao n c, .int .i64 ((0 : Nat) : Int), .int .u64 0] 76)) w.heap.size 0) := hide ⟨ao, n, c, 0, 0, Blk.new w _ _, Nat.le_refl _, Nat.le_refl _, hn, hnc, hby.keep (by simp) (fun j hj _ => Below.heap_alloc w _ j hj)⟩
  clear hby
  have HA := hide (draw_atlas_any w.heap.size w.heap.size 0 9 _ HCUR.out (by omega) (by omega))
  clear HCUR
  go_enter Try.func33, Try.ntmps33
  go_wp2_with fail
  refine HA.out.mono ?_
  rintro e w1 ⟨v, zs, rfl, ⟨gg, vc, rfl⟩, hl, ho, hc, hg⟩
  obtain ⟨N, hN⟩ : ∃ N, N = zs.length := ⟨_, rfl⟩
  rw [← hN] at ho hl ⊢
  have HZ := hide hN.symm
  have hsz1 := hg.size
  simp only [World.size_alloc] at hsz1
  have hg0 : w.heap.size < w.heap.size + 1 := by omega
  have HO : Hid (w1.ownsRow (w.heap.size + 1) 48 4 (.slice (some ⟨gg, 0, none⟩) N vc) N (zs.flatMap encPg)) := hide (own_base0 ho (by simp))
  have HC := hide hc
  have HG := hide (gr_trans (gr_alloc (gr_refl w (some w.heap.size)) _) hg)
  clear ho hc hg hN HA
  by_cases h0 : N = 0
  · have h0z : ((N : Int) == 0) = true := by simp [h0]
    have HN0 := hide h0
    subst h0
    go_wp2_with fail
    refine (among_any w.heap.size w.heap.size 500 _ 4 4 [0, 10000, (-1), 10001] _ (HC.out.alloc _) (Opts.lit (H := w1.heap.size) [0, 10000, (-1), 10001] HC.out.lt rfl rfl) (by omega) (by omega) (by omega)).mono ?_
    rintro e w2 ⟨za, rfl, _, hc, hg⟩
    have HO := hide (own_gr (HO.out.alloc _) hg hg0)
    have HG := hide (gr_trans (gr_alloc HG.out _) hg)
    have hsz := hg.size
    simp only [World.size_alloc, World.size_setCell] at hsz
    have HC := hide hc
    clear hc hg
    have hsz2 := hsz
    clear hsz
    go_wp2_with fail
    refine (among_any w.heap.size w.heap.size (500 + 2) _ 3 3 [0, 100, 10000] _ (HC.out.alloc _) (Opts.lit (H := w2.heap.size) [0, 100, 10000] HC.out.lt rfl rfl) (by omega) (by omega) (by omega)).mono ?_
    rintro e w3 ⟨zb, rfl, _, hc, hg⟩
    have HO := hide (own_gr (HO.out.alloc _) hg hg0)
    have HG := hide (gr_trans (gr_alloc HG.out _) hg)
    have hsz := hg.size
    simp only [World.size_alloc, World.size_setCell] at hsz
    have HC := hide hc
    clear hc hg
    have hsz3 := hsz
    clear hsz
    go_wp2
    go_ret3
    exact ⟨_, zs, _, _, rfl, by rw [HZ.out]; exact hl, by rw [HZ.out]; exact own_base0 HO.out (by omega), bl_gr (Below.refl _ _) HG.out (Nat.le_refl _) (Nat.le_refl _)⟩
  · have h0z : ((N : Int) == 0) = false := by simp [h0]
    have h0d : decide ((N : Int) = 0) = false := by simp [h0]
    have h0e : decide (N = 0) = false := by simp [h0]
    have HN0 := hide h0
    have hNp : 0 < N := by omega
    clear h0
    go_wp2_with fail
    refine (one_any w.heap.size w.heap.size 500 6 _ HC.out (by omega) (by omega) (by omega)).mono ?_
    rintro e w2 ⟨bb, rfl, hc, hg⟩
    have HO := hide (own_gr HO.out hg hg0)
    have HG := hide (gr_trans HG.out hg)
    have hsz := hg.size
    have HC := hide hc
    clear hc hg
    have hsz2 := hsz
    clear hsz
    cases bb with
    | true =>
      go_wp2_with fail
      refine (among_any w.heap.size w.heap.size (500 + 2) _ 4 4 [0, 10000, (-1), 10001] _ (HC.out.alloc _) (Opts.lit (H := w2.heap.size) [0, 10000, (-1), 10001] HC.out.lt rfl rfl) (by omega) (by omega) (by omega)).mono ?_
      rintro e w3 ⟨za, rfl, _, hc, hg⟩
      have HO := hide (own_gr (HO.out.alloc _) hg hg0)
      have HG := hide (gr_trans (gr_alloc HG.out _) hg)
      have hsz := hg.size
      simp only [World.size_alloc, World.size_setCell] at hsz
      have HC := hide hc
      clear hc hg
      have hsz3 := hsz
      clear hsz
      go_wp2_with fail
      refine (among_any w.heap.size w.heap.size (500 + 4) _ 3 3 [0, 100, 10000] _ (HC.out.alloc _) (Opts.lit (H := w3.heap.size) [0, 100, 10000] HC.out.lt rfl rfl) (by omega) (by omega) (by omega)).mono ?_
      rintro e w4 ⟨zb, rfl, _, hc, hg⟩
      have HO := hide (own_gr (HO.out.alloc _) hg hg0)
      have HG := hide (gr_trans (gr_alloc HG.out _) hg)
      have hsz := hg.size
      simp only [World.size_alloc, World.size_setCell] at hsz
      have HC := hide hc
      clear hc hg
      have hsz4 := hsz
      clear hsz
      go_wp2
      go_ret3
      exact ⟨_, zs, _, _, rfl, by rw [HZ.out]; exact hl, by rw [HZ.out]; exact own_base0 HO.out (by omega), bl_gr (Below.refl _ _) HG.out (Nat.le_refl _) (Nat.le_refl _)⟩
    | false =>
      go_wp2_with fail
      refine (pick_any w.heap.size w.heap.size (500 + 2) (N : Int) _ HC.out (by omega) (by omega) (by omega)).mono ?_
      rintro e w3 ⟨jj, rfl, jj0, jj1, hc, hg⟩
      have HO := hide (own_gr HO.out hg hg0)
      have HG := hide (gr_trans HG.out hg)
      have hsz := hg.size
      have HC := hide hc
      clear hc hg
      have hsz3 := hsz
      clear hsz
      obtain ⟨j, rfl⟩ : ∃ j : Nat, jj = (j : Int) := ⟨jj.toNat, by omega⟩
      have hjN : j < N := by omega
      have hj1 : (j : Int) < (N : Int) := by omega
      have hj0 : (0 : Int) ≤ (j : Int) := by omega
      obtain ⟨b_, off_, hvo_, _, hat_⟩ := rdPg (own_rd' encPg_len HO.out HZ.out) (by rw [HZ.out]; omega)
      injection hvo_ with hvo_
      injection hvo_ with e1_ e2_ e3_
      subst e1_ e2_
      obtain ⟨x, _, hxc_⟩ := hat_ j (by rw [HZ.out]; omega)
      obtain ⟨_, c0, c1, c2, c3⟩ := hxc_ w3 (Below.refl _ _)
      simp only [Nat.zero_add, Nat.zero_mul] at c0 c1 c2 c3
      clear hxc_ hat_ jj0 jj1
      obtain ⟨V, hV⟩ : ∃ V, V = w3.alloc (.cells #[.int .i64 x.n, .int .i64 x.r, .int .i64 x.c, .int .i64 x.l] 48) := ⟨_, rfl⟩
      obtain ⟨X, hX⟩ : ∃ X, X = w3.heap.size := ⟨_, rfl⟩
      have HX : Hid (Blk V X 48 #[.int .i64 x.n, .int .i64 x.r, .int .i64 x.c, .int .i64 x.l]) := hide (by rw [hV, hX]; exact Blk.new _ _ _)
      have hXg : X ≠ w.heap.size := by omega
      have HC := hide (show Cur w.heap.size V w.heap.size (500 + 4) from by rw [hV]; exact HC.out.alloc _)
      have HG := hide (show w.grownBy V (some w.heap.size) from by rw [hV]; exact gr_alloc HG.out _)
      have HO := hide (show World.ownsRow V (w.heap.size + 1) 48 4 (.slice (some ⟨gg, 0, none⟩) N vc) N (zs.flatMap encPg) from by rw [hV]; exact HO.out.alloc _)
      have hszV : w3.heap.size ≤ V.heap.size := by rw [hV]; simp
      have HVV := hide hV
      have HXX := hide hX
      clear hV hX
      go_wp2_with fail
      rw [← HVV.out, ← HXX.out]
      clear c0 c1 c2 c3
      refine wp_region_held_drew (S := (fun w' => w'.cell? ⟨X, 1, none⟩ = some (.int .i64 x.r) ∧ w'.cell? ⟨X, 2, none⟩ = some (.int .i64 x.c) ∧ w'.cell? ⟨X, 3, none⟩ = some (.int .i64 x.l))) (by kernel_rfl) ⟨HX.out.drew.cell 1, HX.out.drew.cell 2, HX.out.drew.cell 3⟩ (fun hHeld => ?_)
      have HO := hide HO.out.drew
      have HG := hide (gr_drew HG.out)
      have HX := hide HX.out.drew
      have HC := hide HC.out.drew
      have hszD : V.heap.size ≤ V.drew.heap.size := Nat.le_refl _
      generalize V.drew = V0 at HO HG HX HC hHeld hszD ⊢
      refine heldI_take 0 36 ?vv155 rfl (by kernel_rfl) (by kernel_rfl) (by kernel_rfl) rfl (fun _ _ _ h => h) (by rfl) ?hy155 (by assumption) ?rest155
      case hy155 => (intro w hSw; (try dsimp only at hSw); go_simp; try with_reducible rfl)
      try simp only [Act.put, List.setIfInBounds_toArray, List.set_cons_zero, List.set_cons_succ]
      refine heldI_take 1 37 ?vv156 rfl (by kernel_rfl) (by kernel_rfl) (by kernel_rfl) rfl (fun _ _ _ h => h) (by rfl) ?hy156 (by assumption) ?rest156
      case hy156 => (intro w hSw; (try dsimp only at hSw); go_simp; try with_reducible rfl)
      try simp only [Act.put, List.setIfInBounds_toArray, List.set_cons_zero, List.set_cons_succ]
      refine heldI_take 2 38 ?vv157 rfl (by kernel_rfl) (by kernel_rfl) (by kernel_rfl) rfl (fun _ _ _ h => h) (by rfl) ?hy157 (by assumption) ?rest157
      case hy157 => (intro w hSw; (try dsimp only at hSw); go_simp; try with_reducible rfl)
      try simp only [Act.put, List.setIfInBounds_toArray, List.set_cons_zero, List.set_cons_succ]
      refine heldI_take 3 39 ?vv158 rfl (by kernel_rfl) (by kernel_rfl) (by kernel_rfl) rfl (fun _ _ _ h => h) (by rfl) ?hy158 (by assumption) ?rest158
      case hy158 => (intro w hSw; (try dsimp only at hSw); go_simp; try with_reducible rfl)
      try simp only [Act.put, List.setIfInBounds_toArray, List.set_cons_zero, List.set_cons_succ]
      refine heldI_take 4 40 ?vv159 rfl (by kernel_rfl) (by kernel_rfl) (by kernel_rfl) rfl (fun _ _ _ h => h) (by rfl) ?hy159 (by assumption) ?rest159
      case hy159 => (intro w hSw; (try dsimp only at hSw); go_simp; try with_reducible rfl)
      try simp only [Act.put, List.setIfInBounds_toArray, List.set_cons_zero, List.set_cons_succ]
      refine heldI_take 5 41 ?vv160 rfl (by kernel_rfl) (by kernel_rfl) (by kernel_rfl) rfl (fun _ _ _ h => h) (by rfl) ?hy160 (by assumption) ?rest160
      case hy160 => (intro w hSw; (try dsimp only at hSw); go_simp; try with_reducible rfl)
      try simp only [Act.put, List.setIfInBounds_toArray, List.set_cons_zero, List.set_cons_succ]
      refine heldI_take 6 42 ?vv161 rfl (by kernel_rfl) (by kernel_rfl) (by kernel_rfl) rfl (fun _ _ _ h => h) (by rfl) ?hy161 (by assumption) ?rest161
      case hy161 => (intro w hSw; (try dsimp only at hSw); go_simp; try with_reducible rfl)
      try simp only [Act.put, List.setIfInBounds_toArray, List.set_cons_zero, List.set_cons_succ]
      refine heldI_take 7 43 ?vv162 rfl (by kernel_rfl) (by kernel_rfl) (by kernel_rfl) rfl (fun _ _ _ h => h) (by rfl) ?hy162 (by assumption) ?rest162
      case hy162 => (intro w hSw; (try dsimp only at hSw); go_simp; try with_reducible rfl)
      try simp only [Act.put, List.setIfInBounds_toArray, List.set_cons_zero, List.set_cons_succ]
      refine heldI_take 8 44 ?vv163 rfl (by kernel_rfl) (by kernel_rfl) (by kernel_rfl) rfl (fun _ _ _ h => h) (by rfl) ?hy163 (by assumption) ?rest163
      case hy163 => (intro w hSw; (try dsimp only at hSw); go_simp; try with_reducible rfl)
      try simp only [Act.put, List.setIfInBounds_toArray, List.set_cons_zero, List.set_cons_succ]
      refine heldI_take 9 45 ?vv164 rfl (by kernel_rfl) (by kernel_rfl) (by kernel_rfl) rfl (fun _ _ _ h => h) (by rfl) ?hy164 (by assumption) ?rest164
      case hy164 => (intro w hSw; (try dsimp only at hSw); go_simp; try with_reducible rfl)
      try simp only [Act.put, List.setIfInBounds_toArray, List.set_cons_zero, List.set_cons_succ]
      refine heldI_take 10 46 ?vv165 rfl (by kernel_rfl) (by kernel_rfl) (by kernel_rfl) rfl (fun _ _ _ h => h) (by rfl) ?hy165 (by assumption) ?rest165
      case hy165 => (intro w hSw; (try dsimp only at hSw); go_simp; try with_reducible rfl)
      try simp only [Act.put, List.setIfInBounds_toArray, List.set_cons_zero, List.set_cons_succ]
      refine heldI_take 11 47 ?vv166 rfl (by kernel_rfl) (by kernel_rfl) (by kernel_rfl) rfl (fun _ _ _ h => h) (by rfl) ?hy166 (by assumption) ?rest166
      case hy166 => (intro w hSw; (try dsimp only at hSw); go_simp; try with_reducible rfl)
      try simp only [Act.put, List.setIfInBounds_toArray, List.set_cons_zero, List.set_cons_succ]
      refine heldI_take 12 48 ?vv167 rfl (by kernel_rfl) (by kernel_rfl) (by kernel_rfl) rfl (fun _ _ _ h => h) (by rfl) ?hy167 (by assumption) ?rest167
      case hy167 => (intro w hSw; (try dsimp only at hSw); go_simp; try with_reducible rfl)
      try simp only [Act.put, List.setIfInBounds_toArray, List.set_cons_zero, List.set_cons_succ]
      refine heldI_take 13 49 ?vv168 rfl (by kernel_rfl) (by kernel_rfl) (by kernel_rfl) rfl (fun _ _ _ h => h) (by rfl) ?hy168 (by assumption) ?rest168
      case hy168 => (intro w hSw; (try dsimp only at hSw); go_simp; try with_reducible rfl)
      try simp only [Act.put, List.setIfInBounds_toArray, List.set_cons_zero, List.set_cons_succ]
      refine heldI_take 14 50 ?vv169 rfl (by kernel_rfl) (by kernel_rfl) (by kernel_rfl) rfl (fun _ _ _ h => h) (by rfl) ?hy169 (by assumption) ?rest169
      case hy169 => (intro w hSw; (try dsimp only at hSw); go_simp; try with_reducible rfl)
      try simp only [Act.put, List.setIfInBounds_toArray, List.set_cons_zero, List.set_cons_succ]
      refine heldI_take 15 51 ?vv170 rfl (by kernel_rfl) (by kernel_rfl) (by kernel_rfl) rfl (fun _ _ _ h => h) (by rfl) ?hy170 (by assumption) ?rest170
      case hy170 => (intro w hSw; (try dsimp only at hSw); go_simp; try with_reducible rfl)
      try simp only [Act.put, List.setIfInBounds_toArray, List.set_cons_zero, List.set_cons_succ]
      refine heldI_take 16 52 ?vv171 rfl (by kernel_rfl) (by kernel_rfl) (by kernel_rfl) rfl (fun _ _ _ h => h) (by rfl) ?hy171 (by assumption) ?rest171
      case hy171 => (intro w hSw; (try dsimp only at hSw); go_simp; try with_reducible rfl)
      try simp only [Act.put, List.setIfInBounds_toArray, List.set_cons_zero, List.set_cons_succ]
      refine heldI_take 20 56 ?vv172 rfl (by kernel_rfl) (by kernel_rfl) (by kernel_rfl) rfl (fun _ _ _ h => h) (by rfl) ?hy172 (by assumption) ?rest172
      case hy172 => (intro w hSw; (try dsimp only at hSw); go_simp; try with_reducible rfl)
      try simp only [Act.put, List.setIfInBounds_toArray, List.set_cons_zero, List.set_cons_succ]
      refine heldI_take 21 57 ?vv173 rfl (by kernel_rfl) (by kernel_rfl) (by kernel_rfl) rfl (fun _ _ _ h => h) (by rfl) ?hy173 (by assumption) ?rest173
      case hy173 => (intro w hSw; (try dsimp only at hSw); go_simp; try with_reducible rfl)
      try simp only [Act.put, List.setIfInBounds_toArray, List.set_cons_zero, List.set_cons_succ]
      refine heldI_take 22 58 ?vv174 rfl (by kernel_rfl) (by kernel_rfl) (by kernel_rfl) rfl (fun _ _ _ h => h) (by rfl) ?hy174 (by assumption) ?rest174
      case hy174 => (intro w hSw; (try dsimp only at hSw); go_simp; try with_reducible rfl)
      try simp only [Act.put, List.setIfInBounds_toArray, List.set_cons_zero, List.set_cons_succ]
      refine heldI_take 23 59 ?vv175 rfl (by kernel_rfl) (by kernel_rfl) (by kernel_rfl) rfl (fun _ _ _ h => h) (by rfl) ?hy175 (by assumption) ?rest175
      case hy175 => (intro w hSw; (try dsimp only at hSw); go_simp; try with_reducible rfl)
      try simp only [Act.put, List.setIfInBounds_toArray, List.set_cons_zero, List.set_cons_succ]
      refine heldI_take 24 60 ?vv176 rfl (by kernel_rfl) (by kernel_rfl) (by kernel_rfl) rfl (fun _ _ _ h => h) (by rfl) ?hy176 (by assumption) ?rest176
      case hy176 => (intro w hSw; (try dsimp only at hSw); go_simp; try with_reducible rfl)
      try simp only [Act.put, List.setIfInBounds_toArray, List.set_cons_zero, List.set_cons_succ]
      refine heldI_take 25 61 ?vv177 rfl (by kernel_rfl) (by kernel_rfl) (by kernel_rfl) rfl (fun _ _ _ h => h) (by rfl) ?hy177 (by assumption) ?rest177
      case hy177 => (intro w hSw; (try dsimp only at hSw); go_simp; try with_reducible rfl)
      try simp only [Act.put, List.setIfInBounds_toArray, List.set_cons_zero, List.set_cons_succ]
      refine heldI_take 26 62 ?vv178 rfl (by kernel_rfl) (by kernel_rfl) (by kernel_rfl) rfl (fun _ _ _ h => h) (by rfl) ?hy178 (by assumption) ?rest178
      case hy178 => (intro w hSw; (try dsimp only at hSw); go_simp; try with_reducible rfl)
      try simp only [Act.put, List.setIfInBounds_toArray, List.set_cons_zero, List.set_cons_succ]
      refine heldI_take 27 63 ?vv179 rfl (by kernel_rfl) (by kernel_rfl) (by kernel_rfl) rfl (fun _ _ _ h => h) (by rfl) ?hy179 (by assumption) ?rest179
      case hy179 => (intro w hSw; (try dsimp only at hSw); go_simp; try with_reducible rfl)
      try simp only [Act.put, List.setIfInBounds_toArray, List.set_cons_zero, List.set_cons_succ]
      refine heldI_take 28 64 ?vv180 rfl (by kernel_rfl) (by kernel_rfl) (by kernel_rfl) rfl (fun _ _ _ h => h) (by rfl) ?hy180 (by assumption) ?rest180
      case hy180 => (intro w hSw; (try dsimp only at hSw); go_simp; try with_reducible rfl)
      try simp only [Act.put, List.setIfInBounds_toArray, List.set_cons_zero, List.set_cons_succ]
      refine heldI_take 29 65 ?vv181 rfl (by kernel_rfl) (by kernel_rfl) (by kernel_rfl) rfl (fun _ _ _ h => h) (by rfl) ?hy181 (by assumption) ?rest181
      case hy181 => (intro w hSw; (try dsimp only at hSw); go_simp; try with_reducible rfl)
      try simp only [Act.put, List.setIfInBounds_toArray, List.set_cons_zero, List.set_cons_succ]
      refine heldI_take 30 66 ?vv182 rfl (by kernel_rfl) (by kernel_rfl) (by kernel_rfl) rfl (fun _ _ _ h => h) (by rfl) ?hy182 (by assumption) ?rest182
      case hy182 => (intro w hSw; (try dsimp only at hSw); go_simp; try with_reducible rfl)
      try simp only [Act.put, List.setIfInBounds_toArray, List.set_cons_zero, List.set_cons_succ]
      refine heldI_take 31 67 ?vv183 rfl (by kernel_rfl) (by kernel_rfl) (by kernel_rfl) rfl (fun _ _ _ h => h) (by rfl) ?hy183 (by assumption) ?rest183
      case hy183 => (intro w hSw; (try dsimp only at hSw); go_simp; try with_reducible rfl)
      try simp only [Act.put, List.setIfInBounds_toArray, List.set_cons_zero, List.set_cons_succ]
      refine heldI_take 32 68 ?vv184 rfl (by kernel_rfl) (by kernel_rfl) (by kernel_rfl) rfl (fun _ _ _ h => h) (by rfl) ?hy184 (by assumption) ?rest184
      case hy184 => (intro w hSw; (try dsimp only at hSw); go_simp; try with_reducible rfl)
      try simp only [Act.put, List.setIfInBounds_toArray, List.set_cons_zero, List.set_cons_succ]
      refine wpAnyH_ready (rs := [17, 33]) (by kernel_rfl) (by simp) ?_
      refine AllReadyH.cons rfl (fun K hK => ?_) (AllReadyH.cons rfl (fun K hK => ?_) AllReadyH.nil)
      · go_simp
        obtain ⟨u1, hw1⟩ : ∃ w1, w1 = World.alloc V0 (.cells #[.int .i64 (IntKind.i64.wrap (-x.l)), .int .i64 (IntKind.i64.wrap (IntKind.i64.wrap (-x.l) - 1)), .int .i64 0, .int .i64 50, .int .i64 100, .int .i64 (IntKind.i64.wrap (100 + x.l)), .int .i64 (IntKind.i64.wrap (101 + x.l))] 3) := ⟨_, rfl⟩
        obtain ⟨AA, hA⟩ : ∃ A, A = V0.heap.size := ⟨_, rfl⟩
        have HPA : Hid (Opts u1 w.heap.size (some ⟨AA, 0, none⟩) 7 [(IntKind.i64.wrap (-x.l)), (IntKind.i64.wrap (IntKind.i64.wrap (-x.l) - 1)), 0, 50, 100, (IntKind.i64.wrap (100 + x.l)), (IntKind.i64.wrap (101 + x.l))]) := hide (by rw [hw1, hA]; exact Opts.lit (H := V0.heap.size) [(IntKind.i64.wrap (-x.l)), (IntKind.i64.wrap (IntKind.i64.wrap (-x.l) - 1)), 0, 50, 100, (IntKind.i64.wrap (100 + x.l)), (IntKind.i64.wrap (101 + x.l))] HC.out.lt rfl rfl)
        have HO := hide (show World.ownsRow u1 (w.heap.size + 1) 48 4 (.slice (some ⟨gg, 0, none⟩) N vc) N (zs.flatMap encPg) from by rw [hw1]; exact HO.out.alloc _)
        have HG := hide (show w.grownBy u1 (some w.heap.size) from by rw [hw1]; exact gr_alloc HG.out _)
        have HX := hide (show Blk u1 X 48 #[.int .i64 x.n, .int .i64 x.r, .int .i64 x.c, .int .i64 x.l] from by rw [hw1]; exact HX.out.alloc _)
        have HC := hide (show Cur w.heap.size u1 w.heap.size (500 + 4) from by rw [hw1]; exact HC.out.alloc _)
        rw [← hw1, ← hA]
        clear hw1 hA
        refine hK.out _ _ ⟨HX.out.cell 1, HX.out.cell 2, HX.out.cell 3⟩ (fun hHeld => ?_)
        clear hK K
        try simp only [Act.put, List.setIfInBounds_toArray, List.set_cons_zero, List.set_cons_succ]
        refine wpAnyH_ready (rs := [18, 33]) (by kernel_rfl) (by simp) ?_
        refine AllReadyH.cons rfl (fun K hK => ?_) (AllReadyH.cons rfl (fun K hK => ?_) AllReadyH.nil)
        · go_simp
          refine (among_any w.heap.size w.heap.size (500 + 4) (some ⟨AA, 0, none⟩) 7 7 [(IntKind.i64.wrap (-x.l)), (IntKind.i64.wrap (IntKind.i64.wrap (-x.l) - 1)), 0, 50, 100, (IntKind.i64.wrap (100 + x.l)), (IntKind.i64.wrap (101 + x.l))] _ HC.out HPA.out (by omega) (by omega) (by omega)).mono ?_
          rintro e u2 ⟨va, rfl, _, hc, hg⟩
          go_wp2_with fail
          have HO := hide (own_gr HO.out hg (by omega))
          have HG := hide (gr_trans HG.out hg)
          have HX := hide (Blk.gr HX.out hg hXg)
          have HC := hide (show Cur w.heap.size u2 w.heap.size (500 + 6) from hc)
          clear hc hg
          refine hK.out _ _ ⟨HX.out.cell 1, HX.out.cell 2, HX.out.cell 3⟩ (fun hHeld => ?_)
          clear hK K
          try simp only [Act.put, List.setIfInBounds_toArray, List.set_cons_zero, List.set_cons_succ]
          refine heldI_take 19 55 ?vv185 rfl (by kernel_rfl) (by kernel_rfl) (by kernel_rfl) rfl (fun _ _ _ h => h) (by rfl) ?hy185 (by assumption) ?rest185
          case hy185 => (intro w hSw; (try dsimp only at hSw); go_simp; try with_reducible rfl)
          try simp only [Act.put, List.setIfInBounds_toArray, List.set_cons_zero, List.set_cons_succ]
          refine wpAnyH_ready (rs := [33]) (by kernel_rfl) (by simp) ?_
          refine AllReadyH.cons rfl (fun K hK => ?_) AllReadyH.nil
          go_simp
          obtain ⟨u3, hw1⟩ : ∃ w1, w1 = World.alloc u2 (.cells #[.int .i64 (IntKind.i64.wrap (-x.l)), .int .i64 0, .int .i64 50, .int .i64 (IntKind.i64.wrap (100 + x.l)), .int .i64 (IntKind.i64.wrap (101 + x.l))] 3) := ⟨_, rfl⟩
          obtain ⟨AB, hA⟩ : ∃ A, A = u2.heap.size := ⟨_, rfl⟩
          have HPB : Hid (Opts u3 w.heap.size (some ⟨AB, 0, none⟩) 5 [(IntKind.i64.wrap (-x.l)), 0, 50, (IntKind.i64.wrap (100 + x.l)), (IntKind.i64.wrap (101 + x.l))]) := hide (by rw [hw1, hA]; exact Opts.lit (H := u2.heap.size) [(IntKind.i64.wrap (-x.l)), 0, 50, (IntKind.i64.wrap (100 + x.l)), (IntKind.i64.wrap (101 + x.l))] HC.out.lt rfl rfl)
          have HO := hide (show World.ownsRow u3 (w.heap.size + 1) 48 4 (.slice (some ⟨gg, 0, none⟩) N vc) N (zs.flatMap encPg) from by rw [hw1]; exact HO.out.alloc _)
          have HG := hide (show w.grownBy u3 (some w.heap.size) from by rw [hw1]; exact gr_alloc HG.out _)
          have HX := hide (show Blk u3 X 48 #[.int .i64 x.n, .int .i64 x.r, .int .i64 x.c, .int .i64 x.l] from by rw [hw1]; exact HX.out.alloc _)
          have HC := hide (show Cur w.heap.size u3 w.heap.size (500 + 6) from by rw [hw1]; exact HC.out.alloc _)
          rw [← hw1, ← hA]
          clear hw1 hA
          refine hK.out _ _ ⟨HX.out.cell 1, HX.out.cell 2, HX.out.cell 3⟩ (fun hHeld => ?_)
          clear hK K
          try simp only [Act.put, List.setIfInBounds_toArray, List.set_cons_zero, List.set_cons_succ]
          refine wpAnyH_ready (rs := [34]) (by kernel_rfl) (by simp) ?_
          refine AllReadyH.cons rfl (fun K hK => ?_) AllReadyH.nil
          go_simp
          refine (among_any w.heap.size w.heap.size (500 + 6) (some ⟨AB, 0, none⟩) 5 5 [(IntKind.i64.wrap (-x.l)), 0, 50, (IntKind.i64.wrap (100 + x.l)), (IntKind.i64.wrap (101 + x.l))] _ HC.out HPB.out (by omega) (by omega) (by omega)).mono ?_
          rintro e u4 ⟨vb, rfl, _, hc, hg⟩
          go_wp2_with fail
          have HO := hide (own_gr HO.out hg (by omega))
          have HG := hide (gr_trans HG.out hg)
          have HX := hide (Blk.gr HX.out hg hXg)
          have HC := hide (show Cur w.heap.size u4 w.heap.size (500 + 8) from hc)
          clear hc hg
          refine hK.out _ _ ⟨HX.out.cell 1, HX.out.cell 2, HX.out.cell 3⟩ (fun hHeld => ?_)
          clear hK K
          try simp only [Act.put, List.setIfInBounds_toArray, List.set_cons_zero, List.set_cons_succ]
          refine heldI_take 35 71 ?vv186 rfl (by kernel_rfl) (by kernel_rfl) (by kernel_rfl) rfl (fun _ _ _ h => h) (by rfl) ?hy186 (by assumption) ?rest186
          case hy186 => (intro w hSw; (try dsimp only at hSw); go_simp; try with_reducible rfl)
          try simp only [Act.put, List.setIfInBounds_toArray, List.set_cons_zero, List.set_cons_succ]
          refine heldI_take 36 8 ?vv187 rfl (by kernel_rfl) (by kernel_rfl) (by kernel_rfl) rfl (fun _ _ _ h => h) (by rfl) ?hy187 (by assumption) ?rest187
          case hy187 => (intro w hSw; (try dsimp only at hSw); go_simp; try with_reducible rfl)
          try simp only [Act.put, List.setIfInBounds_toArray, List.set_cons_zero, List.set_cons_succ]
          refine heldI_take 37 9 ?vv188 rfl (by kernel_rfl) (by kernel_rfl) (by kernel_rfl) rfl (fun _ _ _ h => h) (by rfl) ?hy188 (by assumption) ?rest188
          case hy188 => (intro w hSw; (try dsimp only at hSw); go_simp; try with_reducible rfl)
          try simp only [Act.put, List.setIfInBounds_toArray, List.set_cons_zero, List.set_cons_succ]
          refine wpAnyH_done (by kernel_rfl) ?_ _
          clear hHeld
          go_wp2_with (go_at_call 69; refine (mostD_any _ _ _).mono ?_; rintro e w' ⟨⟨q_, rfl⟩, rfl⟩)
          go_ret3
          exact ⟨_, zs, _, _, rfl, by rw [HZ.out]; exact hl, by rw [HZ.out]; exact own_base0 HO.out (by omega), bl_gr (Below.refl _ _) HG.out (Nat.le_refl _) (Nat.le_refl _)⟩
        · go_simp
          obtain ⟨u2, hw1⟩ : ∃ w1, w1 = World.alloc u1 (.cells #[.int .i64 (IntKind.i64.wrap (-x.l)), .int .i64 0, .int .i64 50, .int .i64 (IntKind.i64.wrap (100 + x.l)), .int .i64 (IntKind.i64.wrap (101 + x.l))] 3) := ⟨_, rfl⟩
          obtain ⟨AB, hA⟩ : ∃ A, A = u1.heap.size := ⟨_, rfl⟩
          have HPB : Hid (Opts u2 w.heap.size (some ⟨AB, 0, none⟩) 5 [(IntKind.i64.wrap (-x.l)), 0, 50, (IntKind.i64.wrap (100 + x.l)), (IntKind.i64.wrap (101 + x.l))]) := hide (by rw [hw1, hA]; exact Opts.lit (H := u1.heap.size) [(IntKind.i64.wrap (-x.l)), 0, 50, (IntKind.i64.wrap (100 + x.l)), (IntKind.i64.wrap (101 + x.l))] HC.out.lt rfl rfl)
          have HPA := hide (show Opts u2 w.heap.size (some ⟨AA, 0, none⟩) 7 [(IntKind.i64.wrap (-x.l)), (IntKind.i64.wrap (IntKind.i64.wrap (-x.l) - 1)), 0, 50, 100, (IntKind.i64.wrap (100 + x.l)), (IntKind.i64.wrap (101 + x.l))] from by rw [hw1]; exact HPA.out.grown (gr_alloc (gr_refl _ _) _))
          have HO := hide (show World.ownsRow u2 (w.heap.size + 1) 48 4 (.slice (some ⟨gg, 0, none⟩) N vc) N (zs.flatMap encPg) from by rw [hw1]; exact HO.out.alloc _)
          have HG := hide (show w.grownBy u2 (some w.heap.size) from by rw [hw1]; exact gr_alloc HG.out _)
          have HX := hide (show Blk u2 X 48 #[.int .i64 x.n, .int .i64 x.r, .int .i64 x.c, .int .i64 x.l] from by rw [hw1]; exact HX.out.alloc _)
          have HC := hide (show Cur w.heap.size u2 w.heap.size (500 + 4) from by rw [hw1]; exact HC.out.alloc _)
          rw [← hw1, ← hA]
          clear hw1 hA
          refine hK.out _ _ ⟨HX.out.cell 1, HX.out.cell 2, HX.out.cell 3⟩ (fun hHeld => ?_)
          clear hK K
          try simp only [Act.put, List.setIfInBounds_toArray, List.set_cons_zero, List.set_cons_succ]
          refine wpAnyH_ready (rs := [18]) (by kernel_rfl) (by simp) ?_
          refine AllReadyH.cons rfl (fun K hK => ?_) AllReadyH.nil
          go_simp
          refine (among_any w.heap.size w.heap.size (500 + 4) (some ⟨AA, 0, none⟩) 7 7 [(IntKind.i64.wrap (-x.l)), (IntKind.i64.wrap (IntKind.i64.wrap (-x.l) - 1)), 0, 50, 100, (IntKind.i64.wrap (100 + x.l)), (IntKind.i64.wrap (101 + x.l))] _ HC.out HPA.out (by omega) (by omega) (by omega)).mono ?_
          rintro e u3 ⟨va, rfl, _, hc, hg⟩
          go_wp2_with fail
          have HO := hide (own_gr HO.out hg (by omega))
          have HG := hide (gr_trans HG.out hg)
          have HX := hide (Blk.gr HX.out hg hXg)
          have HPB := hide (HPB.out.grown hg)
          have HC := hide (show Cur w.heap.size u3 w.heap.size (500 + 6) from hc)
          clear hc hg
          refine hK.out _ _ ⟨HX.out.cell 1, HX.out.cell 2, HX.out.cell 3⟩ (fun hHeld => ?_)
          clear hK K
          try simp only [Act.put, List.setIfInBounds_toArray, List.set_cons_zero, List.set_cons_succ]
          refine heldI_take 19 55 ?vv189 rfl (by kernel_rfl) (by kernel_rfl) (by kernel_rfl) rfl (fun _ _ _ h => h) (by rfl) ?hy189 (by assumption) ?rest189
          case hy189 => (intro w hSw; (try dsimp only at hSw); go_simp; try with_reducible rfl)
          try simp only [Act.put, List.setIfInBounds_toArray, List.set_cons_zero, List.set_cons_succ]
          refine wpAnyH_ready (rs := [34]) (by kernel_rfl) (by simp) ?_
          refine AllReadyH.cons rfl (fun K hK => ?_) AllReadyH.nil
          go_simp
          refine (among_any w.heap.size w.heap.size (500 + 6) (some ⟨AB, 0, none⟩) 5 5 [(IntKind.i64.wrap (-x.l)), 0, 50, (IntKind.i64.wrap (100 + x.l)), (IntKind.i64.wrap (101 + x.l))] _ HC.out HPB.out (by omega) (by omega) (by omega)).mono ?_
          rintro e u4 ⟨vb, rfl, _, hc, hg⟩
          go_wp2_with fail
          have HO := hide (own_gr HO.out hg (by omega))
          have HG := hide (gr_trans HG.out hg)
          have HX := hide (Blk.gr HX.out hg hXg)
          have HC := hide (show Cur w.heap.size u4 w.heap.size (500 + 8) from hc)
          clear hc hg
          refine hK.out _ _ ⟨HX.out.cell 1, HX.out.cell 2, HX.out.cell 3⟩ (fun hHeld => ?_)
          clear hK K
          try simp only [Act.put, List.setIfInBounds_toArray, List.set_cons_zero, List.set_cons_succ]
          refine heldI_take 35 71 ?vv190 rfl (by kernel_rfl) (by kernel_rfl) (by kernel_rfl) rfl (fun _ _ _ h => h) (by rfl) ?hy190 (by assumption) ?rest190
          case hy190 => (intro w hSw; (try dsimp only at hSw); go_simp; try with_reducible rfl)
          try simp only [Act.put, List.setIfInBounds_toArray, List.set_cons_zero, List.set_cons_succ]
          refine heldI_take 36 8 ?vv191 rfl (by kernel_rfl) (by kernel_rfl) (by kernel_rfl) rfl (fun _ _ _ h => h) (by rfl) ?hy191 (by assumption) ?rest191
          case hy191 => (intro w hSw; (try dsimp only at hSw); go_simp; try with_reducible rfl)
          try simp only [Act.put, List.setIfInBounds_toArray, List.set_cons_zero, List.set_cons_succ]
          refine heldI_take 37 9 ?vv192 rfl (by kernel_rfl) (by kernel_rfl) (by kernel_rfl) rfl (fun _ _ _ h => h) (by rfl) ?hy192 (by assumption) ?rest192
          case hy192 => (intro w hSw; (try dsimp only at hSw); go_simp; try with_reducible rfl)
          try simp only [Act.put, List.setIfInBounds_toArray, List.set_cons_zero, List.set_cons_succ]
          refine wpAnyH_done (by kernel_rfl) ?_ _
          clear hHeld
          go_wp2_with (go_at_call 69; refine (mostD_any _ _ _).mono ?_; rintro e w' ⟨⟨q_, rfl⟩, rfl⟩)
          go_ret3
          exact ⟨_, zs, _, _, rfl, by rw [HZ.out]; exact hl, by rw [HZ.out]; exact own_base0 HO.out (by omega), bl_gr (Below.refl _ _) HG.out (Nat.le_refl _) (Nat.le_refl _)⟩
      · go_simp
        obtain ⟨u1, hw1⟩ : ∃ w1, w1 = World.alloc V0 (.cells #[.int .i64 (IntKind.i64.wrap (-x.l)), .int .i64 0, .int .i64 50, .int .i64 (IntKind.i64.wrap (100 + x.l)), .int .i64 (IntKind.i64.wrap (101 + x.l))] 3) := ⟨_, rfl⟩
        obtain ⟨AB, hA⟩ : ∃ A, A = V0.heap.size := ⟨_, rfl⟩
        have HPB : Hid (Opts u1 w.heap.size (some ⟨AB, 0, none⟩) 5 [(IntKind.i64.wrap (-x.l)), 0, 50, (IntKind.i64.wrap (100 + x.l)), (IntKind.i64.wrap (101 + x.l))]) := hide (by rw [hw1, hA]; exact Opts.lit (H := V0.heap.size) [(IntKind.i64.wrap (-x.l)), 0, 50, (IntKind.i64.wrap (100 + x.l)), (IntKind.i64.wrap (101 + x.l))] HC.out.lt rfl rfl)
        have HO := hide (show World.ownsRow u1 (w.heap.size + 1) 48 4 (.slice (some ⟨gg, 0, none⟩) N vc) N (zs.flatMap encPg) from by rw [hw1]; exact HO.out.alloc _)
        have HG := hide (show w.grownBy u1 (some w.heap.size) from by rw [hw1]; exact gr_alloc HG.out _)
        have HX := hide (show Blk u1 X 48 #[.int .i64 x.n, .int .i64 x.r, .int .i64 x.c, .int .i64 x.l] from by rw [hw1]; exact HX.out.alloc _)
        have HC := hide (show Cur w.heap.size u1 w.heap.size (500 + 4) from by rw [hw1]; exact HC.out.alloc _)
        rw [← hw1, ← hA]
        clear hw1 hA
        refine hK.out _ _ ⟨HX.out.cell 1, HX.out.cell 2, HX.out.cell 3⟩ (fun hHeld => ?_)
        clear hK K
        try simp only [Act.put, List.setIfInBounds_toArray, List.set_cons_zero, List.set_cons_succ]
        refine wpAnyH_ready (rs := [17]) (by kernel_rfl) (by simp) ?_
        refine AllReadyH.cons rfl (fun K hK => ?_) AllReadyH.nil
        go_simp
        obtain ⟨u2, hw1⟩ : ∃ w1, w1 = World.alloc u1 (.cells #[.int .i64 (IntKind.i64.wrap (-x.l)), .int .i64 (IntKind.i64.wrap (IntKind.i64.wrap (-x.l) - 1)), .int .i64 0, .int .i64 50, .int .i64 100, .int .i64 (IntKind.i64.wrap (100 + x.l)), .int .i64 (IntKind.i64.wrap (101 + x.l))] 3) := ⟨_, rfl⟩
        obtain ⟨AA, hA⟩ : ∃ A, A = u1.heap.size := ⟨_, rfl⟩
        have HPA : Hid (Opts u2 w.heap.size (some ⟨AA, 0, none⟩) 7 [(IntKind.i64.wrap (-x.l)), (IntKind.i64.wrap (IntKind.i64.wrap (-x.l) - 1)), 0, 50, 100, (IntKind.i64.wrap (100 + x.l)), (IntKind.i64.wrap (101 + x.l))]) := hide (by rw [hw1, hA]; exact Opts.lit (H := u1.heap.size) [(IntKind.i64.wrap (-x.l)), (IntKind.i64.wrap (IntKind.i64.wrap (-x.l) - 1)), 0, 50, 100, (IntKind.i64.wrap (100 + x.l)), (IntKind.i64.wrap (101 + x.l))] HC.out.lt rfl rfl)
        have HPB := hide (show Opts u2 w.heap.size (some ⟨AB, 0, none⟩) 5 [(IntKind.i64.wrap (-x.l)), 0, 50, (IntKind.i64.wrap (100 + x.l)), (IntKind.i64.wrap (101 + x.l))] from by rw [hw1]; exact HPB.out.grown (gr_alloc (gr_refl _ _) _))
        have HO := hide (show World.ownsRow u2 (w.heap.size + 1) 48 4 (.slice (some ⟨gg, 0, none⟩) N vc) N (zs.flatMap encPg) from by rw [hw1]; exact HO.out.alloc _)
        have HG := hide (show w.grownBy u2 (some w.heap.size) from by rw [hw1]; exact gr_alloc HG.out _)
        have HX := hide (show Blk u2 X 48 #[.int .i64 x.n, .int .i64 x.r, .int .i64 x.c, .int .i64 x.l] from by rw [hw1]; exact HX.out.alloc _)
        have HC := hide (show Cur w.heap.size u2 w.heap.size (500 + 4) from by rw [hw1]; exact HC.out.alloc _)
        rw [← hw1, ← hA]
        clear hw1 hA
        refine hK.out _ _ ⟨HX.out.cell 1, HX.out.cell 2, HX.out.cell 3⟩ (fun hHeld => ?_)
        clear hK K
        try simp only [Act.put, List.setIfInBounds_toArray, List.set_cons_zero, List.set_cons_succ]
        refine wpAnyH_ready (rs := [18]) (by kernel_rfl) (by simp) ?_
        refine AllReadyH.cons rfl (fun K hK => ?_) AllReadyH.nil
        go_simp
        refine (among_any w.heap.size w.heap.size (500 + 4) (some ⟨AA, 0, none⟩) 7 7 [(IntKind.i64.wrap (-x.l)), (IntKind.i64.wrap (IntKind.i64.wrap (-x.l) - 1)), 0, 50, 100, (IntKind.i64.wrap (100 + x.l)), (IntKind.i64.wrap (101 + x.l))] _ HC.out HPA.out (by omega) (by omega) (by omega)).mono ?_
        rintro e u3 ⟨va, rfl, _, hc, hg⟩
        go_wp2_with fail
        have HO := hide (own_gr HO.out hg (by omega))
        have HG := hide (gr_trans HG.out hg)
        have HX := hide (Blk.gr HX.out hg hXg)
        have HPB := hide (HPB.out.grown hg)
        have HC := hide (show Cur w.heap.size u3 w.heap.size (500 + 6) from hc)
        clear hc hg
        refine hK.out _ _ ⟨HX.out.cell 1, HX.out.cell 2, HX.out.cell 3⟩ (fun hHeld => ?_)
        clear hK K
        try simp only [Act.put, List.setIfInBounds_toArray, List.set_cons_zero, List.set_cons_succ]
        refine heldI_take 19 55 ?vv193 rfl (by kernel_rfl) (by kernel_rfl) (by kernel_rfl) rfl (fun _ _ _ h => h) (by rfl) ?hy193 (by assumption) ?rest193
        case hy193 => (intro w hSw; (try dsimp only at hSw); go_simp; try with_reducible rfl)
        try simp only [Act.put, List.setIfInBounds_toArray, List.set_cons_zero, List.set_cons_succ]
        refine wpAnyH_ready (rs := [34]) (by kernel_rfl) (by simp) ?_
        refine AllReadyH.cons rfl (fun K hK => ?_) AllReadyH.nil
        go_simp
        refine (among_any w.heap.size w.heap.size (500 + 6) (some ⟨AB, 0, none⟩) 5 5 [(IntKind.i64.wrap (-x.l)), 0, 50, (IntKind.i64.wrap (100 + x.l)), (IntKind.i64.wrap (101 + x.l))] _ HC.out HPB.out (by omega) (by omega) (by omega)).mono ?_
        rintro e u4 ⟨vb, rfl, _, hc, hg⟩
        go_wp2_with fail
        have HO := hide (own_gr HO.out hg (by omega))
        have HG := hide (gr_trans HG.out hg)
        have HX := hide (Blk.gr HX.out hg hXg)
        have HC := hide (show Cur w.heap.size u4 w.heap.size (500 + 8) from hc)
        clear hc hg
        refine hK.out _ _ ⟨HX.out.cell 1, HX.out.cell 2, HX.out.cell 3⟩ (fun hHeld => ?_)
        clear hK K
        try simp only [Act.put, List.setIfInBounds_toArray, List.set_cons_zero, List.set_cons_succ]
        refine heldI_take 35 71 ?vv194 rfl (by kernel_rfl) (by kernel_rfl) (by kernel_rfl) rfl (fun _ _ _ h => h) (by rfl) ?hy194 (by assumption) ?rest194
        case hy194 => (intro w hSw; (try dsimp only at hSw); go_simp; try with_reducible rfl)
        try simp only [Act.put, List.setIfInBounds_toArray, List.set_cons_zero, List.set_cons_succ]
        refine heldI_take 36 8 ?vv195 rfl (by kernel_rfl) (by kernel_rfl) (by kernel_rfl) rfl (fun _ _ _ h => h) (by rfl) ?hy195 (by assumption) ?rest195
        case hy195 => (intro w hSw; (try dsimp only at hSw); go_simp; try with_reducible rfl)
        try simp only [Act.put, List.setIfInBounds_toArray, List.set_cons_zero, List.set_cons_succ]
        refine heldI_take 37 9 ?vv196 rfl (by kernel_rfl) (by kernel_rfl) (by kernel_rfl) rfl (fun _ _ _ h => h) (by rfl) ?hy196 (by assumption) ?rest196
        case hy196 => (intro w hSw; (try dsimp only at hSw); go_simp; try with_reducible rfl)
        try simp only [Act.put, List.setIfInBounds_toArray, List.set_cons_zero, List.set_cons_succ]
        refine wpAnyH_done (by kernel_rfl) ?_ _
        clear hHeld
        go_wp2_with (go_at_call 69; refine (mostD_any _ _ _).mono ?_; rintro e w' ⟨⟨q_, rfl⟩, rfl⟩)
        go_ret3
        exact ⟨_, zs, _, _, rfl, by rw [HZ.out]; exact hl, by rw [HZ.out]; exact own_base0 HO.out (by omega), bl_gr (Below.refl _ _) HG.out (Nat.le_refl _) (Nat.le_refl _)⟩

end Go.Proofs.Ytdgalehipgdhiaa
