/- A copying drawn with its rights. -/
import Derived.Test.YtpghdjehagamlaaE5
namespace Go.Proofs.Ytpghdjehagamlaa
open Go.RowKit
set_option linter.unusedVariables false
set_option linter.unusedSimpArgs false

theorem results_ttc {P : Program} {fn : Func} {t u p : Tmp} {ty : TypeId} (h : fn.results = #[.tmp t, .tmp u, .cell p ty]) (tmps : Array Value) (w : World) (g : Nat) (t2 : TypeId) (cs : Array Value) (fr : Nat × Nat) (d : TypeDesc)
    (hp : tmps.getD p undef = .pointer (some ⟨g, 0, none⟩)) (hg : w.heap[g]? = some (.cells cs t2 fr))
    (hu : P.underlying ty = some d) (hd : (match d with | .struct _ | .array _ _ => true | _ => false) = true) (hi : (P.info? ty).map (·.size) = some cs.size) :
    (results fn tmps).run P w = .ok (.tuple #[tmps.getD t undef, tmps.getD u undef, .agg cs]) w := by
  have hp' : tmps[p]?.getD undef = .pointer (some ⟨g, 0, none⟩) := by simpa using hp
  simp [results, h, hp', asAddr, Go.run_loadVar_row w g t2 ty cs fr d hg hu hd hi]

theorem heldE_skip {P : Program} {md : Region.Mode} {ops : Array Oper} {Q : Exit → Act → World → Prop} {S : World → Prop} (i : Nat) (d : Tmp) {oi : Oper} {fuel : Nat} {listed : Array Bool} {a : Act} {w : World} (hi : ops[i]? = some oi)
    (hs : Region.noSelect ops = true) (hf : Region.free md ops listed i = true) (hr : (Region.ready md ops listed).contains i = true) (hd : oi.dst = some d) (hQ : ∀ c a w, Q (.panic c) (a.put (some d) undef) w → Q (.panic c) a w)
    (hw : Region.wanted oi (yielded ops a.tmps) = false) (hS : S w) (h : wpAnyH P md ops Q S fuel (listed.setIfInBounds i true) (a.put (some d) undef) w) : wpAnyH P md ops Q S (fuel + 1) listed a w :=
  wpAnyH_take hi hs hf hr (by rw [hd]; exact hQ) (Or.inr ⟨hw, rfl⟩) hS (by rw [hd]; exact h)
theorem heldE_take {P : Program} {md : Region.Mode} {ops : Array Oper} {Q : Exit → Act → World → Prop} {S : World → Prop} (i : Nat) (d : Tmp) {oi : Oper} (v : Value) {fuel : Nat} {listed : Array Bool} {a : Act} {w : World} (hi : ops[i]? = some oi)
    (hs : Region.noSelect ops = true) (hf : Region.free md ops listed i = true) (hr : (Region.ready md ops listed).contains i = true) (hd : oi.dst = some d) (hQ : ∀ c a w, Q (.panic c) (a.put (some d) v) w → Q (.panic c) a w)
    (hw : Region.wanted oi (yielded ops a.tmps) = true) (hy : ∀ w, S w → (execOp a.eval oi).run P w = .ok (.value v) w) (hS : S w) (h : wpAnyH P md ops Q S fuel (listed.setIfInBounds i true) (a.put (some d) v) w) : wpAnyH P md ops Q S (fuel + 1) listed a w :=
  wpAnyH_take hi hs hf hr (by rw [hd]; exact hQ) (Or.inl ⟨hw, hy⟩) hS (by rw [hd]; exact h)

set_option maxRecDepth 100000 in
set_option maxHeartbeats 4000000 in
theorem DrawCopySheet_any (ao : Option Addr) (n c : Nat) (w : World) (hn : n ≤ 65536) (hnc : n ≤ c) (hby : Bytes w.heap.size w ao n) :
    Calls Try.prog 20 #[.slice ao n c] w (CSpost w) := by
  obtain ⟨W0, hW0⟩ : ∃ W0, W0 = w.alloc (.cells #[.int .i64 0, .int .i64 0, .int .i64 0, .int .i64 0] 34) := ⟨_, rfl⟩
  have hs0 : W0.heap.size = w.heap.size + 1 := by rw [hW0]; simp
  have hbw : Below w.heap.size w W0 := by rw [hW0]; exact (Below.refl _ _).alloc (Nat.le_refl _) _
  have HX0 : Hid (Blk W0 w.heap.size 34 #[.int .i64 0, .int .i64 0, .int .i64 0, .int .i64 0]) := hide (by rw [hW0]; exact Blk.new w _ _)
  have hby0 := hby.later hbw
  have HCUR : Hid (Cur (w.heap.size + 1) (W0.alloc (.cells #[.slice ao n c, .int .i64 ((0 : Nat) : Int), .int .u64 0] 81)) (w.heap.size + 1) 0) := hide (by
    have h : Cur W0.heap.size (W0.alloc (.cells #[.slice ao n c, .int .i64 ((0 : Nat) : Int), .int .u64 0] 81)) W0.heap.size 0 := ⟨ao, n, c, 0, 0, Blk.new W0 _ _, Nat.le_refl _, Nat.le_refl _, hn, hnc, hby0.keep (by simp) (fun j hj _ => Below.heap_alloc W0 _ j hj)⟩
    rw [hs0] at h; exact h)
  have HX := hide (HX0.out.alloc (.cells #[.slice ao n c, .int .i64 ((0 : Nat) : Int), .int .u64 0] 81))
  have HB0 := hide (hbw.alloc hbw.size (.cells #[.slice ao n c, .int .i64 ((0 : Nat) : Int), .int .u64 0] 81))
  have HW0 := hide hW0
  have HS0 := hide hs0
  clear hby hby0 hbw hW0 hs0 HX0
  go_enter Try.func20, Try.ntmps20
  go_wp2_with fail
  rw [← HW0.out]
  refine (draw_rights_any (w.heap.size + 1) (w.heap.size + 1) 0 _ HCUR.out (by omega)).mono ?_
  rintro e w1 ⟨v, rz, rfl, hMr, hor, hc, hg⟩
  obtain ⟨Mr, hM⟩ : ∃ Mr, Mr = rz.length := ⟨_, rfl⟩
  rw [← hM] at hor hMr
  obtain ⟨ro, mc, rfl, hmc, _, _⟩ := own_rd encRt_len hor hM.symm
  have HRZ := hide hM.symm
  have hsz := hg.size
  simp only [World.size_alloc, HS0.out] at hsz
  have HR : Hid (w1.ownsRow (w.heap.size + 2) 72 4 (.slice ro Mr mc) Mr (rz.flatMap encRt)) := hide (own_base0 hor (by simp [HS0.out]))
  have HC := hide hc
  have HG := hide hg
  have hg0 : w.heap.size + 1 < w.heap.size + 2 := by omega
  have HX := hide (HX.out.gr hg (by omega))
  clear hor hc hg hM HCUR HW0
  go_wp2_with fail
  refine (draw_copyings_any (w.heap.size + 1) (w.heap.size + 1) _ ro Mr mc (w.heap.size + 2) rz _ HC.out (by omega) HRZ.out hMr HR.out hg0).mono ?_
  rintro e w2 ⟨v, zs, rfl, ⟨zb, zc, hv⟩, hl, ho, hc, hg⟩
  have HZ0 := hide ho
  have HR := hide (own_gr HR.out hg hg0)
  have HX := hide (HX.out.gr hg (by omega))
  have HG := hide (gr_trans HG.out hg)
  have HC := hide hc
  have hsz2 := hg.size
  have hgZ : w.heap.size + 1 < w1.heap.size := by omega
  obtain ⟨N, hN⟩ : ∃ N, N = zs.length := ⟨_, rfl⟩
  rw [← hN] at ho hl hv
  subst hv
  obtain ⟨zo', zc', hv', hzc, _, _⟩ := own_rd encCp_len ho hN.symm
  injection hv' with hv1 hv2 hv3
  subst hv3
  clear hv1 hv2
  have HZ := hide hN.symm
  have HO := hide ho
  clear ho hc hg hN HZ0
  go_wp2_with fail
  refine (draw_day14_any (w.heap.size + 1) (w.heap.size + 1) (0 + 800) _ HC.out (by omega)).mono ?_
  rintro e w3 ⟨dd, rfl, hc, hg⟩
  have HR := hide (own_gr HR.out hg hg0)
  have HO := hide (own_gr HO.out hg hgZ)
  have HX := hide (Blk.gr HX.out hg (by omega))
  have HG := hide (gr_trans HG.out hg)
  have hsz := hg.size
  have HC := hide hc
  clear hc hg
  have hsz3 := hsz
  clear hsz
  by_cases hN0 : 0 < N
  · have hN1 : (0 : Int) < (N : Int) := by omega
    go_wp2_with fail
    refine (one_any (w.heap.size + 1) (w.heap.size + 1) (0 + 804) 4 _ HC.out (by omega) (by omega) (by omega)).mono ?_
    rintro e w4 ⟨bb, rfl, hc, hg⟩
    have HR := hide (own_gr HR.out hg hg0)
    have HO := hide (own_gr HO.out hg hgZ)
    have HX := hide (Blk.gr HX.out hg (by omega))
    have HG := hide (gr_trans HG.out hg)
    have hsz := hg.size
    have HC := hide hc
    clear hc hg
    have hsz4 := hsz
    clear hsz
    cases bb with
    | true =>
      go_wp2_with fail
      refine (draw_copying_any (w.heap.size + 1) (w.heap.size + 1) (0 + 806) _ _ HC.out (by omega)).mono ?_
      rintro e w5 ⟨x, rfl, hc, hg⟩
      have HR := hide (own_gr HR.out hg hg0)
      have HO := hide (own_gr HO.out hg hgZ)
      have HX := hide (Blk.gr HX.out hg (by omega))
      have HG := hide (gr_trans HG.out hg)
      have hsz := hg.size
      have HC := hide hc
      clear hc hg
      have hsz5 := hsz
      clear hsz
      have e0 := HX.out.cell 0
      have f0 := HX.out.frozen 0
      have e1 := HX.out.cell 1
      have f1 := HX.out.frozen 1
      have e2 := HX.out.cell 2
      have f2 := HX.out.frozen 2
      have e3 := HX.out.cell 3
      have f3 := HX.out.frozen 3
      simp only [List.getElem?_toArray, List.getElem?_cons_zero, List.getElem?_cons_succ] at e0 e1 e2 e3
      have HB := hide (bl_gr HB0.out HG.out (by omega) (by simp [HS0.out]; try omega))
      have HX2 : Hid (Blk ((((w5.setCell ⟨w.heap.size, 0, none⟩ (.int .i64 x.s)).setCell ⟨w.heap.size, 1, none⟩ (.int .i64 x.r)).setCell ⟨w.heap.size, 2, none⟩ (.int .i64 x.d)).setCell ⟨w.heap.size, 3, none⟩ (.int .i64 x.p)) w.heap.size 34 #[.int .i64 x.s, .int .i64 x.r, .int .i64 x.d, .int .i64 x.p]) := hide (by have h := (((HX.out.set_ 0 (.int .i64 x.s)).set_ 1 (.int .i64 x.r)).set_ 2 (.int .i64 x.d)).set_ 3 (.int .i64 x.p); exact h)
      have HR2 : Hid (World.ownsRow ((((w5.setCell ⟨w.heap.size, 0, none⟩ (.int .i64 x.s)).setCell ⟨w.heap.size, 1, none⟩ (.int .i64 x.r)).setCell ⟨w.heap.size, 2, none⟩ (.int .i64 x.d)).setCell ⟨w.heap.size, 3, none⟩ (.int .i64 x.p)) (w.heap.size + 2) 72 4 (.slice ro Mr mc) Mr (rz.flatMap encRt)) := hide (own_set (p := ⟨w.heap.size, 3, none⟩) (own_set (p := ⟨w.heap.size, 2, none⟩) (own_set (p := ⟨w.heap.size, 1, none⟩) (own_set (p := ⟨w.heap.size, 0, none⟩) HR.out (fun j hj => by have := (HR.out.lt j hj).1; dsimp only; omega) (.int .i64 x.s)) (fun j hj => by have := (HR.out.lt j hj).1; dsimp only; omega) (.int .i64 x.r)) (fun j hj => by have := (HR.out.lt j hj).1; dsimp only; omega) (.int .i64 x.d)) (fun j hj => by have := (HR.out.lt j hj).1; dsimp only; omega) (.int .i64 x.p))
      have HO2 : Hid (World.ownsRow ((((w5.setCell ⟨w.heap.size, 0, none⟩ (.int .i64 x.s)).setCell ⟨w.heap.size, 1, none⟩ (.int .i64 x.r)).setCell ⟨w.heap.size, 2, none⟩ (.int .i64 x.d)).setCell ⟨w.heap.size, 3, none⟩ (.int .i64 x.p)) w1.heap.size 34 4 (.slice _ N zc) N (zs.flatMap encCp)) := hide (own_set (p := ⟨w.heap.size, 3, none⟩) (own_set (p := ⟨w.heap.size, 2, none⟩) (own_set (p := ⟨w.heap.size, 1, none⟩) (own_set (p := ⟨w.heap.size, 0, none⟩) HO.out (fun j hj => by have := (HO.out.lt j hj).1; dsimp only; omega) (.int .i64 x.s)) (fun j hj => by have := (HO.out.lt j hj).1; dsimp only; omega) (.int .i64 x.r)) (fun j hj => by have := (HO.out.lt j hj).1; dsimp only; omega) (.int .i64 x.d)) (fun j hj => by have := (HO.out.lt j hj).1; dsimp only; omega) (.int .i64 x.p))
      have HB2 : Hid (Below w.heap.size w ((((w5.setCell ⟨w.heap.size, 0, none⟩ (.int .i64 x.s)).setCell ⟨w.heap.size, 1, none⟩ (.int .i64 x.r)).setCell ⟨w.heap.size, 2, none⟩ (.int .i64 x.d)).setCell ⟨w.heap.size, 3, none⟩ (.int .i64 x.p))) := hide ((((HB.out.setCell (Nat.le_refl _) _).setCell (Nat.le_refl _) _).setCell (Nat.le_refl _) _).setCell (Nat.le_refl _) _)
      go_wp2
      refine bodyPost_ret (results_ttc rfl _ _ w.heap.size 34 _ (0, 0) _ rfl HX2.out Try.underlying34 rfl (by kernel_rfl)) rfl ?_
      exact ⟨ro, Mr, mc, rz, _, N, zc, zs, x, rfl, HRZ.out, HZ.out, hMr, hl, hmc, hzc, own_rd' encRt_len HR2.out HRZ.out, own_rd' encCp_len HO2.out HZ.out, HB2.out⟩
    | false =>
      obtain ⟨j0, hj0⟩ : ∃ j0, N = j0 + 1 := ⟨N - 1, by omega⟩
      have k5 : IntKind.i64.wrap (j0 : Int) = (j0 : Int) := IntWalk.i64_in _ (by omega)
      have k7 : (0 : Int) ≤ (j0 : Int) := by omega
      have k8 : (j0 : Int) < (N : Int) := by omega
      have k9 : (N : Int) - 1 = (j0 : Int) := by omega
      obtain ⟨b5, off5, hvo5, _, hat5⟩ := rdCp (own_rd' encCp_len HO.out HZ.out) (by rw [HZ.out]; omega)
      injection hvo5 with hvo5
      injection hvo5 with e51 e52 e53
      subst e51 e52
      obtain ⟨y, hy, hyc⟩ := hat5 j0 (by rw [HZ.out]; omega)
      have HY := hide hy
      obtain ⟨_, _, _, c2, _⟩ := hyc w4 (Below.refl _ _)
      simp only [Nat.zero_add] at c2
      clear hy hyc hat5
      clear hj0
      go_wp2_with fail
      refine wp_region_held_drew (S := fun w' => w'.cell? ⟨zb, j0 * 4 + 2, none⟩ = some (.int .i64 y.d)) (by kernel_rfl) c2 (fun hHeld => ?_)
      refine heldE_take 0 29 ?vv1 rfl (by kernel_rfl) (by kernel_rfl) (by kernel_rfl) rfl (fun _ _ _ h => h) (by rfl) ?hy1 (by assumption) ?rest1
      case hy1 => (intro w hSw; (try dsimp only at hSw); go_simp; try with_reducible rfl)
      try simp only [Act.put, List.setIfInBounds_toArray, List.set_cons_zero, List.set_cons_succ]
      refine heldE_take 1 30 ?vv2 rfl (by kernel_rfl) (by kernel_rfl) (by kernel_rfl) rfl (fun _ _ _ h => h) (by rfl) ?hy2 (by assumption) ?rest2
      case hy2 => (intro w hSw; (try dsimp only at hSw); go_simp; try with_reducible rfl)
      try simp only [Act.put, List.setIfInBounds_toArray, List.set_cons_zero, List.set_cons_succ]
      refine heldE_take 2 31 ?vv3 rfl (by kernel_rfl) (by kernel_rfl) (by kernel_rfl) rfl (fun _ _ _ h => h) (by rfl) ?hy3 (by assumption) ?rest3
      case hy3 => (intro w hSw; (try dsimp only at hSw); go_simp; try with_reducible rfl)
      try simp only [Act.put, List.setIfInBounds_toArray, List.set_cons_zero, List.set_cons_succ]
      refine heldE_take 3 32 ?vv4 rfl (by kernel_rfl) (by kernel_rfl) (by kernel_rfl) rfl (fun _ _ _ h => h) (by rfl) ?hy4 (by assumption) ?rest4
      case hy4 => (intro w hSw; (try dsimp only at hSw); go_simp; try with_reducible rfl)
      try simp only [Act.put, List.setIfInBounds_toArray, List.set_cons_zero, List.set_cons_succ]
      refine heldE_take 4 33 ?vv5 rfl (by kernel_rfl) (by kernel_rfl) (by kernel_rfl) rfl (fun _ _ _ h => h) (by rfl) ?hy5 (by assumption) ?rest5
      case hy5 => (intro w hSw; (try dsimp only at hSw); go_simp; try with_reducible rfl)
      try simp only [Act.put, List.setIfInBounds_toArray, List.set_cons_zero, List.set_cons_succ]
      refine heldE_take 5 34 ?vv6 rfl (by kernel_rfl) (by kernel_rfl) (by kernel_rfl) rfl (fun _ _ _ h => h) (by rfl) ?hy6 (by assumption) ?rest6
      case hy6 => (intro w hSw; (try dsimp only at hSw); go_simp; try with_reducible rfl)
      try simp only [Act.put, List.setIfInBounds_toArray, List.set_cons_zero, List.set_cons_succ]
      refine heldE_take 6 35 ?vv7 rfl (by kernel_rfl) (by kernel_rfl) (by kernel_rfl) rfl (fun _ _ _ h => h) (by rfl) ?hy7 (by assumption) ?rest7
      case hy7 => (intro w hSw; (try dsimp only at hSw); go_simp; try with_reducible rfl)
      try simp only [Act.put, List.setIfInBounds_toArray, List.set_cons_zero, List.set_cons_succ]
      refine wpAnyH_ready (rs := [7]) (by kernel_rfl) (by simp) ?_
      refine AllReadyH.cons rfl (fun K hK => ?_) AllReadyH.nil
      go_simp
      refine (pick_any (w.heap.size + 1) (w.heap.size + 1) _ 2 _ HC.out.drew (by omega) (by omega) (by omega)).mono ?_
      rintro e w5 ⟨pp, rfl, p0, p1, hc, hg⟩
      go_wp2_with fail
      have HR := hide (own_gr HR.out.drew hg hg0)
      have HO := hide (own_gr HO.out.drew hg hgZ)
      have HX := hide (Blk.gr HX.out.drew hg (by omega))
      have HG := hide (gr_trans (gr_drew HG.out) hg)
      have HC := hide hc
      have hsz5 := hg.size
      simp only [World.size_drew] at hsz5
      clear hc hg c2
      obtain ⟨b5, off5, hvo5, _, hat5⟩ := rdCp (own_rd' encCp_len HO.out HZ.out) (by rw [HZ.out]; omega)
      injection hvo5 with hvo5
      injection hvo5 with e51 e52 e53
      subst e51 e52
      obtain ⟨y5, hy, hyc⟩ := hat5 j0 (by rw [HZ.out]; omega)
      obtain ⟨_, _, _, c2, _⟩ := hyc w5 (Below.refl _ _)
      simp only [Nat.zero_add] at c2
      obtain rfl : y = y5 := by rw [HY.out] at hy; injection hy
      clear hy hyc hat5
      refine hK.out _ _ c2 (fun hHeld2 => ?_)
      clear hK K hHeld
      try simp only [Act.put, List.setIfInBounds_toArray, List.set_cons_zero, List.set_cons_succ]
      refine heldE_take 8 37 ?vv8 rfl (by kernel_rfl) (by kernel_rfl) (by kernel_rfl) rfl (fun _ _ _ h => h) (by rfl) ?hy8 (by assumption) ?rest8
      case hy8 => (intro w hSw; (try dsimp only at hSw); go_simp; try with_reducible rfl)
      try simp only [Act.put, List.setIfInBounds_toArray, List.set_cons_zero, List.set_cons_succ]
      refine heldE_take 9 8 ?vv9 rfl (by kernel_rfl) (by kernel_rfl) (by kernel_rfl) rfl (fun _ _ _ h => h) (by rfl) ?hy9 (by assumption) ?rest9
      case hy9 => (intro w hSw; (try dsimp only at hSw); go_simp; try with_reducible rfl)
      try simp only [Act.put, List.setIfInBounds_toArray, List.set_cons_zero, List.set_cons_succ]
      refine wpAnyH_done (by kernel_rfl) ?_ _
      clear hHeld2 c2
      go_wp2_with fail
      refine (draw_copying_any (w.heap.size + 1) (w.heap.size + 1) (0 + 808) _ _ HC.out (by omega)).mono ?_
      rintro e w6 ⟨x, rfl, hc, hg⟩
      have HR := hide (own_gr HR.out hg hg0)
      have HO := hide (own_gr HO.out hg hgZ)
      have HX := hide (Blk.gr HX.out hg (by omega))
      have HG := hide (gr_trans HG.out hg)
      have hsz := hg.size
      have HC := hide hc
      clear hc hg
      have hsz6 := hsz
      clear hsz
      have e0 := HX.out.cell 0
      have f0 := HX.out.frozen 0
      have e1 := HX.out.cell 1
      have f1 := HX.out.frozen 1
      have e2 := HX.out.cell 2
      have f2 := HX.out.frozen 2
      have e3 := HX.out.cell 3
      have f3 := HX.out.frozen 3
      simp only [List.getElem?_toArray, List.getElem?_cons_zero, List.getElem?_cons_succ] at e0 e1 e2 e3
      have HB := hide (bl_gr HB0.out HG.out (by omega) (by simp [HS0.out]; try omega))
      have HX2 : Hid (Blk ((((w6.setCell ⟨w.heap.size, 0, none⟩ (.int .i64 x.s)).setCell ⟨w.heap.size, 1, none⟩ (.int .i64 x.r)).setCell ⟨w.heap.size, 2, none⟩ (.int .i64 x.d)).setCell ⟨w.heap.size, 3, none⟩ (.int .i64 x.p)) w.heap.size 34 #[.int .i64 x.s, .int .i64 x.r, .int .i64 x.d, .int .i64 x.p]) := hide (by have h := (((HX.out.set_ 0 (.int .i64 x.s)).set_ 1 (.int .i64 x.r)).set_ 2 (.int .i64 x.d)).set_ 3 (.int .i64 x.p); exact h)
      have HR2 : Hid (World.ownsRow ((((w6.setCell ⟨w.heap.size, 0, none⟩ (.int .i64 x.s)).setCell ⟨w.heap.size, 1, none⟩ (.int .i64 x.r)).setCell ⟨w.heap.size, 2, none⟩ (.int .i64 x.d)).setCell ⟨w.heap.size, 3, none⟩ (.int .i64 x.p)) (w.heap.size + 2) 72 4 (.slice ro Mr mc) Mr (rz.flatMap encRt)) := hide (own_set (p := ⟨w.heap.size, 3, none⟩) (own_set (p := ⟨w.heap.size, 2, none⟩) (own_set (p := ⟨w.heap.size, 1, none⟩) (own_set (p := ⟨w.heap.size, 0, none⟩) HR.out (fun j hj => by have := (HR.out.lt j hj).1; dsimp only; omega) (.int .i64 x.s)) (fun j hj => by have := (HR.out.lt j hj).1; dsimp only; omega) (.int .i64 x.r)) (fun j hj => by have := (HR.out.lt j hj).1; dsimp only; omega) (.int .i64 x.d)) (fun j hj => by have := (HR.out.lt j hj).1; dsimp only; omega) (.int .i64 x.p))
      have HO2 : Hid (World.ownsRow ((((w6.setCell ⟨w.heap.size, 0, none⟩ (.int .i64 x.s)).setCell ⟨w.heap.size, 1, none⟩ (.int .i64 x.r)).setCell ⟨w.heap.size, 2, none⟩ (.int .i64 x.d)).setCell ⟨w.heap.size, 3, none⟩ (.int .i64 x.p)) w1.heap.size 34 4 (.slice _ N zc) N (zs.flatMap encCp)) := hide (own_set (p := ⟨w.heap.size, 3, none⟩) (own_set (p := ⟨w.heap.size, 2, none⟩) (own_set (p := ⟨w.heap.size, 1, none⟩) (own_set (p := ⟨w.heap.size, 0, none⟩) HO.out (fun j hj => by have := (HO.out.lt j hj).1; dsimp only; omega) (.int .i64 x.s)) (fun j hj => by have := (HO.out.lt j hj).1; dsimp only; omega) (.int .i64 x.r)) (fun j hj => by have := (HO.out.lt j hj).1; dsimp only; omega) (.int .i64 x.d)) (fun j hj => by have := (HO.out.lt j hj).1; dsimp only; omega) (.int .i64 x.p))
      have HB2 : Hid (Below w.heap.size w ((((w6.setCell ⟨w.heap.size, 0, none⟩ (.int .i64 x.s)).setCell ⟨w.heap.size, 1, none⟩ (.int .i64 x.r)).setCell ⟨w.heap.size, 2, none⟩ (.int .i64 x.d)).setCell ⟨w.heap.size, 3, none⟩ (.int .i64 x.p))) := hide ((((HB.out.setCell (Nat.le_refl _) _).setCell (Nat.le_refl _) _).setCell (Nat.le_refl _) _).setCell (Nat.le_refl _) _)
      go_wp2
      refine bodyPost_ret (results_ttc rfl _ _ w.heap.size 34 _ (0, 0) _ rfl HX2.out Try.underlying34 rfl (by kernel_rfl)) rfl ?_
      exact ⟨ro, Mr, mc, rz, _, N, zc, zs, x, rfl, HRZ.out, HZ.out, hMr, hl, hmc, hzc, own_rd' encRt_len HR2.out HRZ.out, own_rd' encCp_len HO2.out HZ.out, HB2.out⟩
  · have hN1 : ¬ (0 : Int) < (N : Int) := by omega
    go_wp2_with fail
    refine (draw_copying_any (w.heap.size + 1) (w.heap.size + 1) (0 + 804) _ _ HC.out (by omega)).mono ?_
    rintro e w4 ⟨x, rfl, hc, hg⟩
    have HR := hide (own_gr HR.out hg hg0)
    have HO := hide (own_gr HO.out hg hgZ)
    have HX := hide (Blk.gr HX.out hg (by omega))
    have HG := hide (gr_trans HG.out hg)
    have hsz := hg.size
    have HC := hide hc
    clear hc hg
    have hsz4 := hsz
    clear hsz
    have e0 := HX.out.cell 0
    have f0 := HX.out.frozen 0
    have e1 := HX.out.cell 1
    have f1 := HX.out.frozen 1
    have e2 := HX.out.cell 2
    have f2 := HX.out.frozen 2
    have e3 := HX.out.cell 3
    have f3 := HX.out.frozen 3
    simp only [List.getElem?_toArray, List.getElem?_cons_zero, List.getElem?_cons_succ] at e0 e1 e2 e3
    have HB := hide (bl_gr HB0.out HG.out (by omega) (by simp [HS0.out]; try omega))
    have HX2 : Hid (Blk ((((w4.setCell ⟨w.heap.size, 0, none⟩ (.int .i64 x.s)).setCell ⟨w.heap.size, 1, none⟩ (.int .i64 x.r)).setCell ⟨w.heap.size, 2, none⟩ (.int .i64 x.d)).setCell ⟨w.heap.size, 3, none⟩ (.int .i64 x.p)) w.heap.size 34 #[.int .i64 x.s, .int .i64 x.r, .int .i64 x.d, .int .i64 x.p]) := hide (by have h := (((HX.out.set_ 0 (.int .i64 x.s)).set_ 1 (.int .i64 x.r)).set_ 2 (.int .i64 x.d)).set_ 3 (.int .i64 x.p); exact h)
    have HR2 : Hid (World.ownsRow ((((w4.setCell ⟨w.heap.size, 0, none⟩ (.int .i64 x.s)).setCell ⟨w.heap.size, 1, none⟩ (.int .i64 x.r)).setCell ⟨w.heap.size, 2, none⟩ (.int .i64 x.d)).setCell ⟨w.heap.size, 3, none⟩ (.int .i64 x.p)) (w.heap.size + 2) 72 4 (.slice ro Mr mc) Mr (rz.flatMap encRt)) := hide (own_set (p := ⟨w.heap.size, 3, none⟩) (own_set (p := ⟨w.heap.size, 2, none⟩) (own_set (p := ⟨w.heap.size, 1, none⟩) (own_set (p := ⟨w.heap.size, 0, none⟩) HR.out (fun j hj => by have := (HR.out.lt j hj).1; dsimp only; omega) (.int .i64 x.s)) (fun j hj => by have := (HR.out.lt j hj).1; dsimp only; omega) (.int .i64 x.r)) (fun j hj => by have := (HR.out.lt j hj).1; dsimp only; omega) (.int .i64 x.d)) (fun j hj => by have := (HR.out.lt j hj).1; dsimp only; omega) (.int .i64 x.p))
    have HO2 : Hid (World.ownsRow ((((w4.setCell ⟨w.heap.size, 0, none⟩ (.int .i64 x.s)).setCell ⟨w.heap.size, 1, none⟩ (.int .i64 x.r)).setCell ⟨w.heap.size, 2, none⟩ (.int .i64 x.d)).setCell ⟨w.heap.size, 3, none⟩ (.int .i64 x.p)) w1.heap.size 34 4 (.slice _ N zc) N (zs.flatMap encCp)) := hide (own_set (p := ⟨w.heap.size, 3, none⟩) (own_set (p := ⟨w.heap.size, 2, none⟩) (own_set (p := ⟨w.heap.size, 1, none⟩) (own_set (p := ⟨w.heap.size, 0, none⟩) HO.out (fun j hj => by have := (HO.out.lt j hj).1; dsimp only; omega) (.int .i64 x.s)) (fun j hj => by have := (HO.out.lt j hj).1; dsimp only; omega) (.int .i64 x.r)) (fun j hj => by have := (HO.out.lt j hj).1; dsimp only; omega) (.int .i64 x.d)) (fun j hj => by have := (HO.out.lt j hj).1; dsimp only; omega) (.int .i64 x.p))
    have HB2 : Hid (Below w.heap.size w ((((w4.setCell ⟨w.heap.size, 0, none⟩ (.int .i64 x.s)).setCell ⟨w.heap.size, 1, none⟩ (.int .i64 x.r)).setCell ⟨w.heap.size, 2, none⟩ (.int .i64 x.d)).setCell ⟨w.heap.size, 3, none⟩ (.int .i64 x.p))) := hide ((((HB.out.setCell (Nat.le_refl _) _).setCell (Nat.le_refl _) _).setCell (Nat.le_refl _) _).setCell (Nat.le_refl _) _)
    go_wp2
    refine bodyPost_ret (results_ttc rfl _ _ w.heap.size 34 _ (0, 0) _ rfl HX2.out Try.underlying34 rfl (by kernel_rfl)) rfl ?_
    exact ⟨ro, Mr, mc, rz, _, N, zc, zs, x, rfl, HRZ.out, HZ.out, hMr, hl, hmc, hzc, own_rd' encRt_len HR2.out HRZ.out, own_rd' encCp_len HO2.out HZ.out, HB2.out⟩

end Go.Proofs.Ytpghdjehagamlaa
