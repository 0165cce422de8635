/- Walls drawn. -/
import Derived.Test.YtpdfbijfklmonaaC7
import Derived.Test.YtpdfbijfklmonaaFCover
import Derived.Deep.RegionWith
namespace Go.Proofs.Ytpdfbijfklmonaa
open Go.RowKit
set_option linter.unusedVariables false
set_option linter.unusedSimpArgs false

theorem heldW_skip {P : Program} {md : Region.Mode} {ops : Array Oper} {Q : Exit → Act → World → Prop} {S : World → Prop} (i : Nat) (d : Tmp) {oi : Oper} {fuel : Nat} {listed : Array Bool} {a : Act} {w : World} (hi : ops[i]? = some oi)
    (hs : Region.noSelect ops = true) (hf : Region.free md ops listed i = true) (hr : (Region.ready md ops listed).contains i = true) (hd : oi.dst = some d) (hQ : ∀ c a w, Q (.panic c) (a.put (some d) undef) w → Q (.panic c) a w)
    (hw : Region.wanted oi (yielded ops a.tmps) = false) (hS : S w) (h : wpAnyH P md ops Q S fuel (listed.setIfInBounds i true) (a.put (some d) undef) w) : wpAnyH P md ops Q S (fuel + 1) listed a w :=
  wpAnyH_take hi hs hf hr (by rw [hd]; exact hQ) (Or.inr ⟨hw, rfl⟩) hS (by rw [hd]; exact h)
theorem heldW_take {P : Program} {md : Region.Mode} {ops : Array Oper} {Q : Exit → Act → World → Prop} {S : World → Prop} (i : Nat) (d : Tmp) {oi : Oper} (v : Value) {fuel : Nat} {listed : Array Bool} {a : Act} {w : World} (hi : ops[i]? = some oi)
    (hs : Region.noSelect ops = true) (hf : Region.free md ops listed i = true) (hr : (Region.ready md ops listed).contains i = true) (hd : oi.dst = some d) (hQ : ∀ c a w, Q (.panic c) (a.put (some d) v) w → Q (.panic c) a w)
    (hw : Region.wanted oi (yielded ops a.tmps) = true) (hy : ∀ w, S w → (execOp a.eval oi).run P w = .ok (.value v) w) (hS : S w) (h : wpAnyH P md ops Q S fuel (listed.setIfInBounds i true) (a.put (some d) v) w) : wpAnyH P md ops Q S (fuel + 1) listed a w :=
  wpAnyH_take hi hs hf hr (by rw [hd]; exact hQ) (Or.inl ⟨hw, hy⟩) hS (by rw [hd]; exact h)

set_option maxRecDepth 100000 in
set_option maxHeartbeats 4000000 in
theorem draw_wall_any (B g m : Nat) (w : World) (hc : Cur B w g m) (hm : m ≤ 100000) :
    Calls Try.prog 76 #[.pointer (some ⟨g, 0, none⟩)] w fun e w' => ∃ (a b : Int) (v : Value) (zs : List Cv), e = .returned (.tuple #[.int .i64 a, .int .i64 b, v]) ∧ zs.length ≤ 12 ∧ w'.ownsRow w.heap.size 60 6 v zs.length (zs.flatMap encCv) ∧ a ≤ 60 ∧ (0 ≤ b ∧ b ≤ 60) ∧ Cur B w' g (m + 400) ∧ w.grownBy w' (some g) := by
  have HC := hide hc
  have hg0 := hc.lt
  have hB0 := hc.base
  have HG := hide (gr_refl w (some g))
  clear hc
  obtain ⟨i0HI, hi, hz0, hz1, hz2⟩ := info_parts infoCv
  have HI := hide (And.intro hi (And.intro hz0 (And.intro hz1 hz2)))
  clear hi hz0 hz1 hz2
  go_enter Try.func76, Try.ntmps76
  go_wp2_with fail
  refine (among_any B g m _ 6 6 [1, 2, 3, 4, 4, 5] _ (HC.out.alloc _) (Opts.lit (H := w.heap.size) [1, 2, 3, 4, 4, 5] HC.out.lt rfl rfl) (by omega) (by omega) (by omega)).mono ?_
  rintro e w1 ⟨a, rfl, ha, hc, hg⟩
  have HG := hide (gr_trans (gr_alloc HG.out _) hg)
  have hsz := hg.size
  simp only [World.size_alloc, World.size_setCell] at hsz
  have HC := hide hc
  clear hc hg
  have hsz1 := hsz
  clear hsz
  go_wp2_with fail
  refine (among_any B g (m + 2) _ 5 5 [1, 2, 2, 3, 4] _ (HC.out.alloc _) (Opts.lit (H := w1.heap.size) [1, 2, 2, 3, 4] HC.out.lt rfl rfl) (by omega) (by omega) (by omega)).mono ?_
  rintro e w2 ⟨b, rfl, hb, hc, hg⟩
  have HG := hide (gr_trans (gr_alloc HG.out _) hg)
  have hsz := hg.size
  simp only [World.size_alloc, World.size_setCell] at hsz
  have HC := hide hc
  clear hc hg
  have hsz2 := hsz
  clear hsz
  have ha1 : a ≤ 60 := by simp at ha; omega
  have hb1 : 0 ≤ b ∧ b ≤ 60 := by simp at hb; omega
  clear ha hb
  have HO := hide (World.ownsRow_made (e := 60) (size := 6) w2 #[] 0 (show w.heap.size ≤ _ by omega) (by simp [maxLen]) (by simp))
  go_wp2_with fail
  go_loopg [7, 8] 7 (fun gk v i wr => ∃ k : Nat, k ≤ 7 ∧ 7 - k ≤ gk ∧ i = .int .i64 ((k : Int) + 1) ∧ Aside (Cur B wr g (m + 4 + 30 * k)) ∧ Aside (w.grownBy wr (some g)) ∧ Aside (∃ zs : List Cv, zs.length ≤ k ∧ wr.ownsRow w.heap.size 60 6 v zs.length (zs.flatMap encCv)))
  case atStart => exact ⟨0, by omega, by omega, rfl, (HC.out.alloc _).mono (by omega), (gr_alloc HG.out _), ⟨[], by simp, HO.out⟩⟩
  case round =>
    obtain ⟨k, hk, hgk, rfl, CW, GW, OW⟩ := hrel
    obtain ⟨zs, hzl, ho⟩ := OW.out
    obtain ⟨L, hL⟩ : ∃ L, L = zs.length := ⟨_, rfl⟩
    rw [← hL] at ho hzl
    obtain ⟨ao, cc, rfl, hcc, hcm, _⟩ := own_rd encCv_len ho hL.symm
    have HLL := hide hL
    have hszr := GW.out.size
    clear HC HG HO
    have HC := hide CW.out
    have HG := hide GW.out
    have HO := hide ho
    clear OW ho hL CW GW
    by_cases hlt : k < 7
    · have hk1 : (k : Int) + 1 < 8 := by omega
      go_wp2_with fail
      refine (one_any B g (m + 4 + 30 * k) 3 _ HC.out (by omega) (by omega) (by omega)).mono ?_
      rintro e w3 ⟨b3, rfl, hc, hg⟩
      have HO := hide (own_gr HO.out hg hg0)
      have HG := hide (gr_trans HG.out hg)
      have hsz := hg.size
      have HC := hide hc
      clear hc hg
      have hsz3 := hsz
      clear hsz
      cases b3 with
      | true =>
        go_wp2
        go_roundg (7 - (k + 1))
        case measure => omega
        case rel => exact ⟨k + 1, by omega, by omega, by go_num, HC.out.mono (by omega), HG.out, ⟨zs, by rw [← HLL.out]; omega, by rw [← HLL.out]; exact HO.out⟩⟩
      | false =>
        go_wp2_with fail
        refine (among_any B g ((m + 4 + 30 * k) + 2) _ 5 5 [(-1), 0, 0, 1, 2] _ (HC.out.alloc _) (Opts.lit (H := w3.heap.size) [(-1), 0, 0, 1, 2] HC.out.lt rfl rfl) (by omega) (by omega) (by omega)).mono ?_
        rintro e w4 ⟨x1, rfl, _, hc, hg⟩
        have HO := hide (own_gr (HO.out.alloc _) hg hg0)
        have HG := hide (gr_trans (gr_alloc HG.out _) hg)
        have hsz := hg.size
        simp only [World.size_alloc, World.size_setCell] at hsz
        have HC := hide hc
        clear hc hg
        have hsz4 := hsz
        clear hsz
        go_wp2_with fail
        refine (among_any B g ((m + 4 + 30 * k) + 4) _ 4 4 [(-2), 0, 0, 1] _ (HC.out.alloc _) (Opts.lit (H := w4.heap.size) [(-2), 0, 0, 1] HC.out.lt rfl rfl) (by omega) (by omega) (by omega)).mono ?_
        rintro e w5 ⟨x2, rfl, _, hc, hg⟩
        have HO := hide (own_gr (HO.out.alloc _) hg hg0)
        have HG := hide (gr_trans (gr_alloc HG.out _) hg)
        have hsz := hg.size
        simp only [World.size_alloc, World.size_setCell] at hsz
        have HC := hide hc
        clear hc hg
        have hsz5 := hsz
        clear hsz
        go_wp2_with fail
        refine (among_any B g ((m + 4 + 30 * k) + 6) _ 5 5 [1, 5, 10, 12, 40] _ (HC.out.alloc _) (Opts.lit (H := w5.heap.size) [1, 5, 10, 12, 40] HC.out.lt rfl rfl) (by omega) (by omega) (by omega)).mono ?_
        rintro e w6 ⟨x5, rfl, _, hc, hg⟩
        have HO := hide (own_gr (HO.out.alloc _) hg hg0)
        have HG := hide (gr_trans (gr_alloc HG.out _) hg)
        have hsz := hg.size
        simp only [World.size_alloc, World.size_setCell] at hsz
        have HC := hide hc
        clear hc hg
        have hsz6 := hsz
        clear hsz
        have HOl := hide (own_lt2 HO.out (N := w6.heap.size) (by omega))
        have hX2 : w.heap.size ≤ w6.heap.size := by omega
        have hX3 : w6.heap.size ≠ g := by omega
        have HX := hide (Blk.new w6 60 #[.int .i64 (10 * ((k : Int) + 1)), .int .i64 x1, .int .i64 x2, .int .i64 0, .int .i64 0, .int .i64 x5])
        obtain ⟨W1, hW1⟩ : ∃ W1, W1 = w6.alloc (.cells #[.int .i64 (10 * ((k : Int) + 1)), .int .i64 x1, .int .i64 x2, .int .i64 0, .int .i64 0, .int .i64 x5] 60) := ⟨_, rfl⟩
        have HO := hide ((HO.out.alloc (.cells #[.int .i64 (10 * ((k : Int) + 1)), .int .i64 x1, .int .i64 x2, .int .i64 0, .int .i64 0, .int .i64 x5] 60)))
        have HG := hide (gr_alloc HG.out (.cells #[.int .i64 (10 * ((k : Int) + 1)), .int .i64 x1, .int .i64 x2, .int .i64 0, .int .i64 0, .int .i64 x5] 60))
        have HC := hide (HC.out.alloc (.cells #[.int .i64 (10 * ((k : Int) + 1)), .int .i64 x1, .int .i64 x2, .int .i64 0, .int .i64 0, .int .i64 x5] 60))
        rw [← hW1] at HO
        rw [← hW1] at HG
        rw [← hW1] at HC
        have HEW1 := hide hW1
        clear hW1
        rw [← HEW1.out] at HX
        have hXw : w6.heap.size < W1.heap.size := by rw [HEW1.out]; simp
        have HS := hide (HX.out.cell 1)
        have HF := hide (HX.out.frozen 3)
        have hs1 := HS.out
        simp only [List.getElem?_toArray, List.getElem?_cons_zero, List.getElem?_cons_succ] at hs1
        go_wp2_with fail
        rw [← HEW1.out]
        refine wp_region_held_drew (S := fun w' => w'.cell? ⟨w6.heap.size, 1, none⟩ = some (.int .i64 x1)) (by kernel_rfl) hs1 (fun hHeld => ?_)
        refine heldW_take 0 36 ?vv1 rfl (by kernel_rfl) (by kernel_rfl) (by kernel_rfl) rfl (fun _ _ _ h => h) (by rfl) ?hy1 (by assumption) ?rest1
        case hy1 => (intro w hSw; (try dsimp only at hSw); go_simp; try with_reducible rfl)
        try simp only [Act.put, List.setIfInBounds_toArray, List.set_cons_zero, List.set_cons_succ]
        refine heldW_take 1 37 ?vv2 rfl (by kernel_rfl) (by kernel_rfl) (by kernel_rfl) rfl (fun _ _ _ h => h) (by rfl) ?hy2 (by assumption) ?rest2
        case hy2 => (intro w hSw; (try dsimp only at hSw); go_simp; try with_reducible rfl)
        try simp only [Act.put, List.setIfInBounds_toArray, List.set_cons_zero, List.set_cons_succ]
        refine heldW_take 2 38 ?vv3 rfl (by kernel_rfl) (by kernel_rfl) (by kernel_rfl) rfl (fun _ _ _ h => h) (by rfl) ?hy3 (by assumption) ?rest3
        case hy3 => (intro w hSw; (try dsimp only at hSw); go_simp; try with_reducible rfl)
        try simp only [Act.put, List.setIfInBounds_toArray, List.set_cons_zero, List.set_cons_succ]
        refine wpAnyH_ready (rs := [3]) (by kernel_rfl) (by simp) ?_
        refine AllReadyH.cons rfl (fun K hK => ?_) AllReadyH.nil
        go_simp
        refine hK.out _ _ (((HX.out.alloc _).drew).cell 1) (fun hHeld1 => ?_)
        clear hK K hHeld
        try simp only [Act.put, List.setIfInBounds_toArray, List.set_cons_zero, List.set_cons_succ]
        refine wpAnyH_ready (rs := [4]) (by kernel_rfl) (by simp) ?_
        refine AllReadyH.cons rfl (fun K hK => ?_) AllReadyH.nil
        go_simp
        refine (among_any B g ((m + 4 + 30 * k) + 8) _ 4 4 [1, 2, 3, 6] _ ((HC.out.alloc _).drew) (Opts.drew (Opts.lit (w := W1) (H := W1.heap.size) [1, 2, 3, 6] HC.out.lt rfl rfl)) (by omega) (by omega) (by omega)).mono ?_
        rintro e w7 ⟨z1, rfl, _, hc, hg⟩
        go_wp2_with fail
        have HO := hide (own_gr ((HO.out.alloc _).drew) hg hg0)
        have HX := hide (Blk.gr ((HX.out.alloc _).drew) hg (by omega))
        have HG := hide (gr_trans (gr_drew (gr_alloc HG.out _)) hg)
        have HC := hide hc
        have hsz := hg.size
        simp only [World.size_alloc, World.size_drew] at hsz
        have hsz7 := hsz
        have c1 := HX.out.cell 1
        simp only [List.getElem?_toArray, List.getElem?_cons_zero, List.getElem?_cons_succ] at c1
        refine hK.out _ _ c1 (fun hHeld2 => ?_)
        clear hK K hHeld1 hc hg hsz
        try simp only [Act.put, List.setIfInBounds_toArray, List.set_cons_zero, List.set_cons_succ]
        obtain ⟨q1, hq1⟩ : ∃ q1, IntKind.i64.wrap (x1 + z1) = q1 := ⟨_, rfl⟩
        refine heldW_take 5 41 ?vv4 rfl (by kernel_rfl) (by kernel_rfl) (by kernel_rfl) rfl (fun _ _ _ h => h) (by rfl) ?hy4 (by assumption) ?rest4
        case hy4 => (intro w hSw; (try dsimp only at hSw); go_simp; try with_reducible rfl)
        try simp only [Act.put, List.setIfInBounds_toArray, List.set_cons_zero, List.set_cons_succ]
        refine heldW_take 6 42 ?vv5 rfl (by kernel_rfl) (by kernel_rfl) (by kernel_rfl) rfl (fun _ _ _ h => h) (by rfl) ?hy5 (by assumption) ?rest5
        case hy5 => (intro w hSw; (try dsimp only at hSw); go_simp; try with_reducible rfl)
        try simp only [Act.put, List.setIfInBounds_toArray, List.set_cons_zero, List.set_cons_succ]
        have d3 := HX.out.cell 3
        have f3 := HX.out.frozen 3
        simp only [List.getElem?_toArray, List.getElem?_cons_zero, List.getElem?_cons_succ] at d3
        refine wpAnyH_ready (rs := [7]) (by kernel_rfl) (by simp) ?_
        refine AllReadyH.cons rfl (fun K hK => ?_) AllReadyH.nil
        go_simp
        refine hK.out _ _ ((HX.out.set_ 3 _).cell 1) (fun hHeld3 => ?_)
        clear hK K hHeld2 c1 d3 f3 hs1
        try simp only [Act.put, List.setIfInBounds_toArray, List.set_cons_zero, List.set_cons_succ]
        refine wpAnyH_done (by kernel_rfl) ?_ _
        clear hHeld3
        have HX := hide (show Blk (w7.setCell ⟨w6.heap.size, 3, none⟩ (.int .i64 q1)) w6.heap.size 60 #[.int .i64 (10 * ((k : Int) + 1)), .int .i64 x1, .int .i64 x2, .int .i64 q1, .int .i64 0, .int .i64 x5] from HX.out.set_ 3 (.int .i64 q1))
        obtain ⟨W2, hW2⟩ : ∃ W2, W2 = w7.setCell ⟨w6.heap.size, 3, none⟩ (.int .i64 q1) := ⟨_, rfl⟩
        have HO := hide ((own_set (p := ⟨w6.heap.size, 3, none⟩) HO.out (own_ne (by dsimp only; omega) HOl.out) (.int .i64 q1)))
        have HG := hide (gr_far (p := ⟨w6.heap.size, 3, none⟩) HG.out (by dsimp only; omega) (.int .i64 q1))
        have HC := hide (Cur.set (p := ⟨w6.heap.size, 3, none⟩) HC.out ⟨by dsimp only; omega, by dsimp only; omega⟩ (.int .i64 q1))
        rw [← hW2] at HO
        rw [← hW2] at HG
        rw [← hW2] at HC
        have HEW2 := hide hW2
        clear hW2
        rw [← HEW2.out] at HX
        have hXw2 : w6.heap.size < W2.heap.size := by rw [HEW2.out]; simp only [World.size_setCell]; omega
        have HS := hide (HX.out.cell 2)
        have HF := hide (HX.out.frozen 4)
        have hs1 := HS.out
        simp only [List.getElem?_toArray, List.getElem?_cons_zero, List.getElem?_cons_succ] at hs1
        go_wp2_with fail
        rw [← HEW2.out]
        refine wp_region_held_drew (S := fun w' => w'.cell? ⟨w6.heap.size, 2, none⟩ = some (.int .i64 x2)) (by kernel_rfl) hs1 (fun hHeld => ?_)
        refine heldW_take 0 43 ?vv6 rfl (by kernel_rfl) (by kernel_rfl) (by kernel_rfl) rfl (fun _ _ _ h => h) (by rfl) ?hy6 (by assumption) ?rest6
        case hy6 => (intro w hSw; (try dsimp only at hSw); go_simp; try with_reducible rfl)
        try simp only [Act.put, List.setIfInBounds_toArray, List.set_cons_zero, List.set_cons_succ]
        refine heldW_take 1 44 ?vv7 rfl (by kernel_rfl) (by kernel_rfl) (by kernel_rfl) rfl (fun _ _ _ h => h) (by rfl) ?hy7 (by assumption) ?rest7
        case hy7 => (intro w hSw; (try dsimp only at hSw); go_simp; try with_reducible rfl)
        try simp only [Act.put, List.setIfInBounds_toArray, List.set_cons_zero, List.set_cons_succ]
        refine heldW_take 2 45 ?vv8 rfl (by kernel_rfl) (by kernel_rfl) (by kernel_rfl) rfl (fun _ _ _ h => h) (by rfl) ?hy8 (by assumption) ?rest8
        case hy8 => (intro w hSw; (try dsimp only at hSw); go_simp; try with_reducible rfl)
        try simp only [Act.put, List.setIfInBounds_toArray, List.set_cons_zero, List.set_cons_succ]
        refine wpAnyH_ready (rs := [3]) (by kernel_rfl) (by simp) ?_
        refine AllReadyH.cons rfl (fun K hK => ?_) AllReadyH.nil
        go_simp
        refine hK.out _ _ (((HX.out.alloc _).drew).cell 2) (fun hHeld1 => ?_)
        clear hK K hHeld
        try simp only [Act.put, List.setIfInBounds_toArray, List.set_cons_zero, List.set_cons_succ]
        refine wpAnyH_ready (rs := [4]) (by kernel_rfl) (by simp) ?_
        refine AllReadyH.cons rfl (fun K hK => ?_) AllReadyH.nil
        go_simp
        refine (among_any B g ((m + 4 + 30 * k) + 10) _ 4 4 [1, 2, 4, 6] _ ((HC.out.alloc _).drew) (Opts.drew (Opts.lit (w := W2) (H := W2.heap.size) [1, 2, 4, 6] HC.out.lt rfl rfl)) (by omega) (by omega) (by omega)).mono ?_
        rintro e w8 ⟨z2, rfl, _, hc, hg⟩
        go_wp2_with fail
        have HO := hide (own_gr ((HO.out.alloc _).drew) hg hg0)
        have HX := hide (Blk.gr ((HX.out.alloc _).drew) hg (by omega))
        have HG := hide (gr_trans (gr_drew (gr_alloc HG.out _)) hg)
        have HC := hide hc
        have hsz := hg.size
        simp only [World.size_alloc, World.size_drew] at hsz
        have hsz8 := hsz
        have c1 := HX.out.cell 2
        simp only [List.getElem?_toArray, List.getElem?_cons_zero, List.getElem?_cons_succ] at c1
        refine hK.out _ _ c1 (fun hHeld2 => ?_)
        clear hK K hHeld1 hc hg hsz
        try simp only [Act.put, List.setIfInBounds_toArray, List.set_cons_zero, List.set_cons_succ]
        obtain ⟨q2, hq2⟩ : ∃ q2, IntKind.i64.wrap (x2 + z2) = q2 := ⟨_, rfl⟩
        refine heldW_take 5 48 ?vv9 rfl (by kernel_rfl) (by kernel_rfl) (by kernel_rfl) rfl (fun _ _ _ h => h) (by rfl) ?hy9 (by assumption) ?rest9
        case hy9 => (intro w hSw; (try dsimp only at hSw); go_simp; try with_reducible rfl)
        try simp only [Act.put, List.setIfInBounds_toArray, List.set_cons_zero, List.set_cons_succ]
        refine heldW_take 6 49 ?vv10 rfl (by kernel_rfl) (by kernel_rfl) (by kernel_rfl) rfl (fun _ _ _ h => h) (by rfl) ?hy10 (by assumption) ?rest10
        case hy10 => (intro w hSw; (try dsimp only at hSw); go_simp; try with_reducible rfl)
        try simp only [Act.put, List.setIfInBounds_toArray, List.set_cons_zero, List.set_cons_succ]
        have d3 := HX.out.cell 4
        have f3 := HX.out.frozen 4
        simp only [List.getElem?_toArray, List.getElem?_cons_zero, List.getElem?_cons_succ] at d3
        refine wpAnyH_ready (rs := [7]) (by kernel_rfl) (by simp) ?_
        refine AllReadyH.cons rfl (fun K hK => ?_) AllReadyH.nil
        go_simp
        refine hK.out _ _ ((HX.out.set_ 4 _).cell 2) (fun hHeld3 => ?_)
        clear hK K hHeld2 c1 d3 f3 hs1
        try simp only [Act.put, List.setIfInBounds_toArray, List.set_cons_zero, List.set_cons_succ]
        refine wpAnyH_done (by kernel_rfl) ?_ _
        clear hHeld3
        have HX := hide (show Blk (w8.setCell ⟨w6.heap.size, 4, none⟩ (.int .i64 q2)) w6.heap.size 60 #[.int .i64 (10 * ((k : Int) + 1)), .int .i64 x1, .int .i64 x2, .int .i64 q1, .int .i64 q2, .int .i64 x5] from HX.out.set_ 4 (.int .i64 q2))
        obtain ⟨W3, hW3⟩ : ∃ W3, W3 = w8.setCell ⟨w6.heap.size, 4, none⟩ (.int .i64 q2) := ⟨_, rfl⟩
        have HO := hide ((own_set (p := ⟨w6.heap.size, 4, none⟩) HO.out (own_ne (by dsimp only; omega) HOl.out) (.int .i64 q2)))
        have HG := hide (gr_far (p := ⟨w6.heap.size, 4, none⟩) HG.out (by dsimp only; omega) (.int .i64 q2))
        have HC := hide (Cur.set (p := ⟨w6.heap.size, 4, none⟩) HC.out ⟨by dsimp only; omega, by dsimp only; omega⟩ (.int .i64 q2))
        rw [← hW3] at HO
        rw [← hW3] at HG
        rw [← hW3] at HC
        have HEW3 := hide hW3
        clear hW3
        rw [← HEW3.out] at HX
        have hXw3 : w6.heap.size < W3.heap.size := by rw [HEW3.out]; simp only [World.size_setCell]; omega
        have e0 := HX.out.cell 0
        have e1 := HX.out.cell 1
        have e2 := HX.out.cell 2
        have e3 := HX.out.cell 3
        have e4 := HX.out.cell 4
        have e5 := HX.out.cell 5
        simp only [List.getElem?_toArray, List.getElem?_cons_zero, List.getElem?_cons_succ] at e0 e1 e2 e3 e4 e5
        rw [← HEW3.out]
        obtain ⟨hi, hz0, hz1, hz2⟩ := HI.out
        go_wp2_with (at_builtin; refine wpList_append_own _ rfl _ _ 26 rfl w.heap.size 60 i0HI (.agg #[.int .i64 0, .int .i64 0, .int .i64 0, .int .i64 0, .int .i64 0, .int .i64 0]) 6 48 Try.underlying26 hi hz0 hz1 hz2 rfl (by decide) _ L _ rfl (HO.out.alloc _) ⟨W3.heap.size, 0, none⟩ 1 1 [.int .i64 (10 * ((k : Int) + 1)), .int .i64 x1, .int .i64 x2, .int .i64 q1, .int .i64 q2, .int .i64 x5] rfl rfl ?c1 ?c2 ?c3 ?c4 ?c5 ?_)
        case c1 => exact news_atN #[.int .i64 (10 * ((k : Int) + 1)), .int .i64 x1, .int .i64 x2, .int .i64 q1, .int .i64 q2, .int .i64 x5] (by first | rfl | simp)
        case c2 => intro u hu; simp only [List.mem_cons, List.not_mem_nil, or_false] at hu; rcases hu with rfl | rfl | rfl | rfl | rfl | rfl <;> rfl
        case c3 => unfold maxLen; omega
        case c4 => omega
        case c5 => (try simp only [World.size_alloc, World.size_setCell]); omega
        intro v' w9 hown' hgrow _
        have HC := hide (cur_app (HC.out.alloc _) (HO.out.alloc _) hgrow hg0)
        have HG := hide (gr_app (gr_alloc HG.out _) (HO.out.alloc _) hgrow (by omega))
        have hsz := hgrow.size
        simp only [World.size_alloc, World.size_setCell] at hsz
        have HO := hide hown'
        clear hown' hgrow hi hz0 hz1 hz2
        have hsz9 := hsz
        clear hsz
        go_wp2
        go_roundg (7 - (k + 1))
        case measure => omega
        case rel => exact ⟨k + 1, by omega, by omega, by go_num, HC.out.mono (by omega), HG.out, ⟨zs ++ [Cv.mk (10 * ((k : Int) + 1)) x1 x2 q1 q2 x5], by simp only [List.length_append, List.length_cons, List.length_nil, ← HLL.out]; omega, by rw [flat_snoc, List.length_append, ← HLL.out]; exact HO.out⟩⟩
    · have hk1 : ¬ (k : Int) + 1 < 8 := by omega
      go_wp2_with fail
      refine (pick_any B g (m + 4 + 30 * k) 32 _ HC.out (by omega) (by omega) (by omega)).mono ?_
      rintro e w3 ⟨y, rfl, y0, y1, hc, hg⟩
      have HO := hide (own_gr HO.out hg hg0)
      have HG := hide (gr_trans HG.out hg)
      have hsz := hg.size
      have HC := hide hc
      clear hc hg
      have hsz3 := hsz
      clear hsz
      have hcs : y = 0 ∨ y = 1 ∨ y = 2 ∨ (¬ y = 0 ∧ ¬ y = 1 ∧ ¬ y = 2) := by omega
      clear y1
      rcases hcs with rfl | rfl | rfl | ⟨z0, z1, z2⟩
      · go_wp2_with fail
        refine (among_any B g ((m + 4 + 30 * k) + 2) _ 3 3 [0, 11, 10] _ (HC.out.alloc _) (Opts.lit (H := w3.heap.size) [0, 11, 10] HC.out.lt rfl rfl) (by omega) (by omega) (by omega)).mono ?_
        rintro e w4 ⟨a2, rfl, ha, hc, hg⟩
        have HO := hide (own_gr (HO.out.alloc _) hg hg0)
        have HG := hide (gr_trans (gr_alloc HG.out _) hg)
        have hsz := hg.size
        simp only [World.size_alloc, World.size_setCell] at hsz
        have HC := hide hc
        clear hc hg
        have hsz4 := hsz
        clear hsz
        have ha2 : a2 ≤ 60 := by simp at ha; omega
        clear ha
        go_wp2
        go_ret3
        exact ⟨a2, b, _, zs, rfl, by rw [← HLL.out]; omega, by rw [← HLL.out]; exact HO.out, ha2, hb1, HC.out.mono (by omega), HG.out⟩
      · go_wp2_with fail
        refine (among_any B g ((m + 4 + 30 * k) + 2) _ 3 3 [0, 10, 99] _ (HC.out.alloc _) (Opts.lit (H := w3.heap.size) [0, 10, 99] HC.out.lt rfl rfl) (by omega) (by omega) (by omega)).mono ?_
        rintro e w4 ⟨u0, rfl, _, hc, hg⟩
        have HO := hide (own_gr (HO.out.alloc _) hg hg0)
        have HG := hide (gr_trans (gr_alloc HG.out _) hg)
        have hsz := hg.size
        simp only [World.size_alloc, World.size_setCell] at hsz
        have HC := hide hc
        clear hc hg
        have hsz4 := hsz
        clear hsz
        go_wp2_with fail
        refine (among_any B g ((m + 4 + 30 * k) + 4) _ 3 3 [(-21), 0, 3] _ (HC.out.alloc _) (Opts.lit (H := w4.heap.size) [(-21), 0, 3] HC.out.lt rfl rfl) (by omega) (by omega) (by omega)).mono ?_
        rintro e w5 ⟨u1, rfl, _, hc, hg⟩
        have HO := hide (own_gr (HO.out.alloc _) hg hg0)
        have HG := hide (gr_trans (gr_alloc HG.out _) hg)
        have hsz := hg.size
        simp only [World.size_alloc, World.size_setCell] at hsz
        have HC := hide hc
        clear hc hg
        have hsz5 := hsz
        clear hsz
        go_wp2_with fail
        refine (among_any B g ((m + 4 + 30 * k) + 6) _ 2 2 [3, 21] _ (HC.out.alloc _) (Opts.lit (H := w5.heap.size) [3, 21] HC.out.lt rfl rfl) (by omega) (by omega) (by omega)).mono ?_
        rintro e w6 ⟨u3, rfl, _, hc, hg⟩
        have HO := hide (own_gr (HO.out.alloc _) hg hg0)
        have HG := hide (gr_trans (gr_alloc HG.out _) hg)
        have hsz := hg.size
        simp only [World.size_alloc, World.size_setCell] at hsz
        have HC := hide hc
        clear hc hg
        have hsz6 := hsz
        clear hsz
        go_wp2_with fail
        refine (among_any B g ((m + 4 + 30 * k) + 8) _ 3 3 [0, 1, 1001] _ (HC.out.alloc _) (Opts.lit (H := w6.heap.size) [0, 1, 1001] HC.out.lt rfl rfl) (by omega) (by omega) (by omega)).mono ?_
        rintro e w7 ⟨u5, rfl, _, hc, hg⟩
        have HO := hide (own_gr (HO.out.alloc _) hg hg0)
        have HG := hide (gr_trans (gr_alloc HG.out _) hg)
        have hsz := hg.size
        simp only [World.size_alloc, World.size_setCell] at hsz
        have HC := hide hc
        clear hc hg
        have hsz7 := hsz
        clear hsz
        obtain ⟨hi, hz0, hz1, hz2⟩ := HI.out
        go_wp2_with (at_builtin; refine wpList_append_own _ rfl _ _ 26 rfl w.heap.size 60 i0HI (.agg #[.int .i64 0, .int .i64 0, .int .i64 0, .int .i64 0, .int .i64 0, .int .i64 0]) 6 48 Try.underlying26 hi hz0 hz1 hz2 rfl (by decide) _ L _ rfl (HO.out.alloc _) ⟨w7.heap.size, 0, none⟩ 1 1 [.int .i64 u0, .int .i64 u1, .int .i64 0, .int .i64 u3, .int .i64 1, .int .i64 u5] rfl rfl ?c1 ?c2 ?c3 ?c4 ?c5 ?_)
        case c1 => exact news_atN #[.int .i64 u0, .int .i64 u1, .int .i64 0, .int .i64 u3, .int .i64 1, .int .i64 u5] (by first | rfl | simp)
        case c2 => intro u hu; simp only [List.mem_cons, List.not_mem_nil, or_false] at hu; rcases hu with rfl | rfl | rfl | rfl | rfl | rfl <;> rfl
        case c3 => unfold maxLen; omega
        case c4 => omega
        case c5 => (try simp only [World.size_alloc, World.size_setCell]); omega
        intro v' w8 hown' hgrow _
        have HC := hide (cur_app (HC.out.alloc _) (HO.out.alloc _) hgrow hg0)
        have HG := hide (gr_app (gr_alloc HG.out _) (HO.out.alloc _) hgrow (by omega))
        have hsz := hgrow.size
        simp only [World.size_alloc, World.size_setCell] at hsz
        have HO := hide hown'
        clear hown' hgrow hi hz0 hz1 hz2
        have hsz8 := hsz
        clear hsz
        go_wp2
        go_ret3
        exact ⟨a, b, _, (zs ++ [Cv.mk u0 u1 0 u3 1 u5]), rfl, by simp only [List.length_append, List.length_cons, List.length_nil, ← HLL.out]; omega, by rw [flat_snoc, List.length_append, ← HLL.out]; exact HO.out, ha1, hb1, HC.out.mono (by omega), HG.out⟩
      · go_wp2_with fail
        go_loopg [7] 12 (fun gk v wr => ∃ ys : List Cv, ys.length ≤ 12 ∧ 12 - ys.length ≤ gk ∧ Aside (Cur B wr g (m + 300 + 2 * ys.length)) ∧ Aside (w.grownBy wr (some g)) ∧ Aside (wr.ownsRow w.heap.size 60 6 v ys.length (ys.flatMap encCv)))
        case atStart => exact ⟨zs, by rw [← HLL.out]; omega, by omega, HC.out.mono (by omega), HG.out, by rw [← HLL.out]; exact HO.out⟩
        case round =>
          obtain ⟨ys, hyl, hgk2, CW, GW, OW⟩ := hrel
          clear HLL HO HC HG
          have ho := OW.out
          obtain ⟨L, hL⟩ : ∃ L, L = ys.length := ⟨_, rfl⟩
          have HC := hide CW.out
          have HG := hide GW.out
          rw [← hL] at ho hyl hgk2 HC
          obtain ⟨ao, cc, rfl, hcc, hcm, _⟩ := own_rd encCv_len ho hL.symm
          have HO := hide ho
          have HLL := hide hL
          have hszr2 := GW.out.size
          clear OW ho hL CW GW
          go_wp2_with fail
          refine (pick_any B g (m + 300 + 2 * L) 2 _ HC.out (by omega) (by omega) (by omega)).mono ?_
          rintro e w21 ⟨p, rfl, p0, p1, hc, hg⟩
          have HO := hide (own_gr HO.out hg hg0)
          have HG := hide (gr_trans HG.out hg)
          have hsz := hg.size
          have HC := hide hc
          clear hc hg
          have hsz21 := hsz
          clear hsz
          by_cases hlt2 : (L : Int) < 10 + p
          · obtain ⟨hi, hz0, hz1, hz2⟩ := HI.out
            go_wp2_with (at_builtin; refine wpList_append_own _ rfl _ _ 26 rfl w.heap.size 60 i0HI (.agg #[.int .i64 0, .int .i64 0, .int .i64 0, .int .i64 0, .int .i64 0, .int .i64 0]) 6 48 Try.underlying26 hi hz0 hz1 hz2 rfl (by decide) _ L _ rfl (HO.out.alloc _) ⟨w21.heap.size, 0, none⟩ 1 1 [.int .i64 (80 + (L : Int)), .int .i64 0, .int .i64 0, .int .i64 2, .int .i64 1, .int .i64 3] rfl rfl ?c1 ?c2 ?c3 ?c4 ?c5 ?_)
            case c1 => exact news_atN #[.int .i64 (80 + (L : Int)), .int .i64 0, .int .i64 0, .int .i64 2, .int .i64 1, .int .i64 3] (by first | rfl | simp)
            case c2 => intro u hu; simp only [List.mem_cons, List.not_mem_nil, or_false] at hu; rcases hu with rfl | rfl | rfl | rfl | rfl | rfl <;> rfl
            case c3 => unfold maxLen; omega
            case c4 => omega
            case c5 => (try simp only [World.size_alloc, World.size_setCell]); omega
            intro v' w22 hown' hgrow _
            have HC := hide (cur_app (HC.out.alloc _) (HO.out.alloc _) hgrow hg0)
            have HG := hide (gr_app (gr_alloc HG.out _) (HO.out.alloc _) hgrow (by omega))
            have hsz := hgrow.size
            simp only [World.size_alloc, World.size_setCell] at hsz
            have HO := hide hown'
            clear hown' hgrow hi hz0 hz1 hz2
            have hsz22 := hsz
            clear hsz
            go_wp2
            go_roundg (12 - (L + 1))
            case measure => omega
            case rel => exact ⟨ys ++ [Cv.mk (80 + (L : Int)) 0 0 2 1 3], by simp only [List.length_append, List.length_cons, List.length_nil, ← HLL.out]; omega, by simp only [List.length_append, List.length_cons, List.length_nil, ← HLL.out]; omega, HC.out.mono (by simp only [List.length_append, List.length_cons, List.length_nil, ← HLL.out]; omega), HG.out, by rw [flat_snoc, List.length_append, ← HLL.out]; exact HO.out⟩
          · go_wp2
            go_ret3
            exact ⟨a, b, _, ys, rfl, by rw [← HLL.out]; omega, by rw [← HLL.out]; exact HO.out, ha1, hb1, HC.out.mono (by omega), HG.out⟩
      · go_wp2
        go_ret3
        exact ⟨a, b, _, zs, rfl, by rw [← HLL.out]; omega, by rw [← HLL.out]; exact HO.out, ha1, hb1, HC.out.mono (by omega), HG.out⟩

end Go.Proofs.Ytpdfbijfklmonaa
