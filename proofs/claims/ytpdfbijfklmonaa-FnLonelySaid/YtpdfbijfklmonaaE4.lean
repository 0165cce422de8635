/- The draws of FnLonely. -/
import Derived.Test.YtpdfbijfklmonaaE3
import Derived.Test.YtpdfbijfklmonaaC10
namespace Go.Proofs.Ytpdfbijfklmonaa
open Go.RowKit
set_option linter.unusedVariables false
set_option linter.unusedSimpArgs false

theorem Rd.takeA {α : Type} {enc : α → List Value} {k B : Nat} {w : World} {ao : Option Addr} {zs : List α} (j : Nat) (h : Rd enc k B w ao zs) : Rd enc k B w ao (zs.take j) := by
  rcases h with h | ⟨b, off, rfl, h1, h2, h3⟩
  · exact .inl (by simp [h])
  · refine .inr ⟨b, off, rfl, h1, h2, fun i x hx => h3 i x ?_⟩
    rw [List.getElem?_take] at hx
    split at hx
    · exact hx
    · cases hx
def PFpost (w : World) (e : Ending) (w' : World) : Prop := ∃ (a b : Int) (so : Option Addr) (N sc : Nat) (zs : List Cv) (io : Option Addr) (M ic : Nat) (is : List Int) (qo : Option Addr) (K qc : Nat) (zq : List Ar2), e = .returned (.tuple #[.int .i64 a, .int .i64 b, .slice so N sc, .slice io M ic, .slice qo K qc]) ∧ zs.length = N ∧ is.length = M ∧ zq.length = K ∧ N ≤ 12 ∧ M ≤ 13 ∧ K ≤ 61 ∧ Rd encCv 6 w'.heap.size w' so zs ∧ Rd encI 1 w'.heap.size w' io is ∧ Rd encAr2 2 w'.heap.size w' qo zq ∧ Below w.heap.size w w'
theorem results_tmp5 {fn : Func} {t u v x y : Tmp} (h : fn.results = #[.tmp t, .tmp u, .tmp v, .tmp x, .tmp y]) (tmps : Array Value) (P : Program) (w : World) :
    (results fn tmps).run P w = .ok (.tuple #[tmps.getD t undef, tmps.getD u undef, tmps.getD v undef, tmps.getD x undef, tmps.getD y undef]) w := by simp [results, h]

set_option maxRecDepth 100000 in
theorem DrawAreLonely_any (ao : Option Addr) (n c : Nat) (w : World) (hn : n ≤ 65536) (hnc : n ≤ c) (hby : Bytes w.heap.size w ao n) :
    Calls Try.prog 46 #[.slice ao n c] w fun e w' => ∃ (a b : Int) (v : Value) (zs : List Cv) (u : Value) (zq : List Ar2), e = .returned (.tuple #[.int .i64 a, .int .i64 b, v, u]) ∧ zs.length ≤ 12 ∧ zq.length ≤ 61 ∧ w'.ownsRow w.heap.size 60 6 v zs.length (zs.flatMap encCv) ∧
      w'.ownsRow w.heap.size 80 2 u zq.length (zq.flatMap encAr2) ∧ Below w.heap.size w w' := by
  have HCUR : Hid (Cur w.heap.size (w.alloc (.cells #[.slice ao n c, .int .i64 ((0 : Nat) : Int), .int .u64 0] 92)) w.heap.size 0) := hide ⟨ao, n, c, 0, 0, Blk.new w _ _, Nat.le_refl _, Nat.le_refl _, hn, hnc, hby.keep (by simp) (fun j hj _ => Below.heap_alloc w _ j hj)⟩
  clear hby
  go_enter Try.func46, Try.ntmps46
  go_wp2_with fail
  refine (draw_wall_any w.heap.size w.heap.size 0 _ HCUR.out (by omega)).mono ?_
  rintro e w1 ⟨a, b, v, zs, rfl, hl, ho, ha, hb, hc, hg⟩
  obtain ⟨N, hN⟩ : ∃ N, N = zs.length := ⟨_, rfl⟩
  rw [← hN] at ho hl
  obtain ⟨so, sc, rfl, hsc, _, _⟩ := own_rd encCv_len ho hN.symm
  have HZ := hide hN.symm
  have HO := hide ho
  have HC := hide hc
  have HB := hide (bl_gr ((Below.refl _ w).alloc (Nat.le_refl _) _) hg (Nat.le_refl _) (by simp))
  have hsz := hg.size
  simp only [World.size_alloc] at hsz
  clear ho hg hc hN
  go_wp2_with fail
  refine (draw_squares_any w.heap.size w.heap.size _ a b _ HC.out (by omega) ha hb).mono ?_
  rintro e w2 ⟨u, zq, rfl, hql, hoq, _, hg⟩
  have HO := hide (own_gr HO.out hg (by simp))
  have HQ := hide (own_base0 (b2 := w.heap.size) hoq (by omega))
  have HB := hide (bl_gr HB.out hg (Nat.le_refl _) (by omega))
  clear hoq hg
  go_wp2
  refine bodyPost_ret (results_tmp4 rfl _ _ _) rfl ?_
  exact ⟨a, b, _, zs, _, zq, rfl, by rw [HZ.out]; exact hl, hql, by rw [HZ.out]; exact own_base0 HO.out (by simp), HQ.out, HB.out⟩
set_option maxRecDepth 100000 in
theorem DrawProvesFewest_any (ao : Option Addr) (n c : Nat) (w : World) (hn : n ≤ 65536) (hnc : n ≤ c) (hby : Bytes w.heap.size w ao n) :
    Calls Try.prog 47 #[.slice ao n c] w (PFpost w) := by
  have HCUR : Hid (Cur w.heap.size (w.alloc (.cells #[.slice ao n c, .int .i64 ((0 : Nat) : Int), .int .u64 0] 92)) w.heap.size 0) := hide ⟨ao, n, c, 0, 0, Blk.new w _ _, Nat.le_refl _, Nat.le_refl _, hn, hnc, hby.keep (by simp) (fun j hj _ => Below.heap_alloc w _ j hj)⟩
  clear hby
  go_enter Try.func47, Try.ntmps47
  go_wp2_with fail
  refine (draw_wall_any w.heap.size w.heap.size 0 _ HCUR.out (by omega)).mono ?_
  rintro e w1 ⟨a, b, v, zs, rfl, hl, ho, ha, hb, hc, hg⟩
  obtain ⟨N, hN⟩ : ∃ N, N = zs.length := ⟨_, rfl⟩
  rw [← hN] at ho hl
  obtain ⟨so, sc, rfl, hsc, _, _⟩ := own_rd encCv_len ho hN.symm
  have HZ := hide hN.symm
  have HO := hide ho
  have HC := hide hc
  have HB := hide (bl_gr ((Below.refl _ w).alloc (Nat.le_refl _) _) hg (Nat.le_refl _) (by simp))
  have hsz := hg.size
  simp only [World.size_alloc] at hsz
  clear ho hg hc hN
  go_wp2_with fail
  refine (draw_mosaic_any w.heap.size w.heap.size _ a b so N sc _ zs _ HC.out (by omega) HZ.out hl HO.out (by simp)).mono ?_
  rintro e w2 ⟨ui, is, rfl, hil, hoi, hc, hg⟩
  obtain ⟨M, hM⟩ : ∃ M, M = is.length := ⟨_, rfl⟩
  rw [← hM] at hoi hil
  obtain ⟨io, ic, rfl, hic, _, _⟩ := own_rd encI_len hoi hM.symm
  have HM := hide hM.symm
  have HO := hide (own_gr HO.out hg (by simp))
  have HI := hide hoi
  have HB := hide (bl_gr HB.out hg (Nat.le_refl _) (by omega))
  have HC := hide hc
  have hsz2 := hg.size
  clear hoi hg hc hM
  go_wp2_with fail
  refine (draw_squares_any w.heap.size w.heap.size _ a b _ HC.out (by omega) ha hb).mono ?_
  rintro e w3 ⟨u, zq, rfl, hql, hoq, _, hg⟩
  have HO := hide (own_gr HO.out hg (by simp))
  have HQ := hide (own_base0 (b2 := w.heap.size) hoq (by omega))
  have HB := hide (bl_gr HB.out hg (Nat.le_refl _) (by omega))
  have HI := hide (own_gr HI.out hg (by omega))
  clear hg
  obtain ⟨L, hL⟩ : ∃ L, L = zq.length := ⟨_, rfl⟩
  rw [← hL] at hoq hql
  obtain ⟨qo, qc, rfl, hqc, hqm, hrq⟩ := own_rd encAr2_len hoq hL.symm
  unfold maxLen at hqm
  have HL := hide hL.symm
  have HRQ := hide hrq
  clear hoq hL hrq HQ
  go_wp2_with fail
  go_loopg [12] L (fun gk v wr => ∃ k : Nat, k ≤ L ∧ k ≤ gk ∧ v = .slice qo k qc ∧ w3 = wr)
  case atStart => exact ⟨L, Nat.le_refl _, Nat.le_refl _, rfl, rfl⟩
  case round =>
    obtain ⟨k, hk, hgk, rfl, rfl⟩ := hrel
    by_cases hlt : M < k
    · have h1 : (M : Int) < (k : Int) := by omega
      have k5 : IntKind.i64.wrap ((k : Int) - 1) = (k : Int) - 1 := IntWalk.i64_in _ (by omega)
      have k6 : ((k : Int) - 1).toNat = k - 1 := by omega
      have k7 : (0 : Int) ≤ (k : Int) - 1 := by omega
      have k8 : (k : Int) - 1 ≤ (qc : Int) := by omega
      have k9 : (1 : Int) ≤ (k : Int) := by omega
      go_wp2
      go_roundg (k - 1)
      case measure => omega
      case rel => exact ⟨k - 1, by omega, by omega, by first | rfl | (congr 1; omega) | simp, rfl⟩
    · have h1 : ¬ (M : Int) < (k : Int) := by omega
      go_wp2
      refine bodyPost_ret (results_tmp5 rfl _ _ _) rfl ?_
      exact ⟨a, b, _, N, _, zs, _, M, _, is, _, k, _, zq.take k, rfl, HZ.out, HM.out, by rw [List.length_take, HL.out]; omega, hl, hil, by omega, own_rd' encCv_len HO.out HZ.out, own_rd' encI_len HI.out HM.out, HRQ.out.takeA k, HB.out⟩
set_option maxRecDepth 100000 in
theorem DrawOnlyShownBy_any (ao : Option Addr) (n c : Nat) (w : World) (hn : n ≤ 65536) (hnc : n ≤ c) (hby : Bytes w.heap.size w ao n) :
    Calls Try.prog 48 #[.slice ao n c] w fun e w' => ∃ (a b : Int) (v : Value) (zs : List Cv) (i : Int), e = .returned (.tuple #[.int .i64 a, .int .i64 b, v, .int .i64 i]) ∧ zs.length ≤ 12 ∧ w'.ownsRow w.heap.size 60 6 v zs.length (zs.flatMap encCv) ∧ Below w.heap.size w w' := by
  have HCUR : Hid (Cur w.heap.size (w.alloc (.cells #[.slice ao n c, .int .i64 ((0 : Nat) : Int), .int .u64 0] 92)) w.heap.size 0) := hide ⟨ao, n, c, 0, 0, Blk.new w _ _, Nat.le_refl _, Nat.le_refl _, hn, hnc, hby.keep (by simp) (fun j hj _ => Below.heap_alloc w _ j hj)⟩
  clear hby
  go_enter Try.func48, Try.ntmps48
  go_wp2_with fail
  refine (draw_wall_any w.heap.size w.heap.size 0 _ HCUR.out (by omega)).mono ?_
  rintro e w1 ⟨a, b, v, zs, rfl, hl, ho, ha, hb, hc, hg⟩
  obtain ⟨N, hN⟩ : ∃ N, N = zs.length := ⟨_, rfl⟩
  rw [← hN] at ho hl
  obtain ⟨so, sc, rfl, hsc, _, _⟩ := own_rd encCv_len ho hN.symm
  have HZ := hide hN.symm
  have HO := hide ho
  have HC := hide hc
  have HB := hide (bl_gr ((Below.refl _ w).alloc (Nat.le_refl _) _) hg (Nat.le_refl _) (by simp))
  have hsz := hg.size
  simp only [World.size_alloc] at hsz
  clear ho hg hc hN
  have hgw : w.heap.size < w1.heap.size := by omega
  by_cases h0 : N = 0
  · subst h0
    go_wp2_with fail
    refine (among_any w.heap.size w.heap.size _ _ 3 3 [0, 1, 10] _ (HC.out.alloc _) (Opts.lit (H := w1.heap.size) [0, 1, 10] HC.out.lt rfl rfl) (by omega) (by omega) (by omega)).mono ?_
    rintro e w2 ⟨z, rfl, _, _, hg⟩
    have HO := hide (own_gr (HO.out.alloc _) hg (by simp))
    have HB := hide (bl_gr (HB.out.alloc (by omega) _) hg (Nat.le_refl _) (by simp; omega))
    clear hg
    go_wp2
    refine bodyPost_ret (results_tmp4 rfl _ _ _) rfl ?_
    exact ⟨a, b, _, zs, z, rfl, by rw [HZ.out]; exact hl, by rw [HZ.out]; exact own_base0 HO.out (by simp), HB.out⟩
  · have h1 : ¬ (N : Int) = 0 := by omega
    have h2 : decide (N = 0) = false := by simpa using h0
    have hN0 : 0 < N := by omega
    have HN0 := hide h0
    clear h0
    go_wp2_with fail
    refine (one_any w.heap.size w.heap.size _ 10 _ HC.out (by omega) (by omega) (by omega)).mono ?_
    rintro e w2 ⟨b1, rfl, hc, hg⟩
    have HO := hide (own_gr HO.out hg (by simp))
    have HB := hide (bl_gr HB.out hg (Nat.le_refl _) (by omega))
    have HC := hide hc
    have hsz2 := hg.size
    clear hg hc
    cases b1 with
    | true =>
      go_wp2_with fail
      refine (among_any w.heap.size w.heap.size _ _ 3 3 [0, 1, 10] _ (HC.out.alloc _) (Opts.lit (H := w2.heap.size) [0, 1, 10] HC.out.lt rfl rfl) (by omega) (by omega) (by omega)).mono ?_
      rintro e w3 ⟨z, rfl, _, _, hg⟩
      have HO := hide (own_gr (HO.out.alloc _) hg (by simp))
      have HB := hide (bl_gr (HB.out.alloc (by omega) _) hg (Nat.le_refl _) (by simp; omega))
      clear hg
      go_wp2
      refine bodyPost_ret (results_tmp4 rfl _ _ _) rfl ?_
      exact ⟨a, b, _, zs, z, rfl, by rw [HZ.out]; exact hl, by rw [HZ.out]; exact own_base0 HO.out (by simp), HB.out⟩
    | false =>
      have hrd := own_rd' encCv_len HO.out HZ.out
      have h12 : N ≤ 12 := hl
      go_wp2_with fail
      refine wp_region_held_drew (S := fun _ => True) (by kernel_rfl) trivial (fun hHeld => ?_)
      refine heldW_take 0 32 ?vv1 rfl (by kernel_rfl) (by kernel_rfl) (by kernel_rfl) rfl (fun _ _ _ h => h) (by rfl) ?hy1 (by assumption) ?rest1
      case hy1 => (intro w hSw; (try dsimp only at hSw); go_simp; try with_reducible rfl)
      try simp only [Act.put, List.setIfInBounds_toArray, List.set_cons_zero, List.set_cons_succ]
      refine heldW_take 1 33 ?vv2 rfl (by kernel_rfl) (by kernel_rfl) (by kernel_rfl) rfl (fun _ _ _ h => h) (by rfl) ?hy2 (by assumption) ?rest2
      case hy2 => (intro w hSw; (try dsimp only at hSw); go_simp; try with_reducible rfl)
      try simp only [Act.put, List.setIfInBounds_toArray, List.set_cons_zero, List.set_cons_succ]
      refine heldW_take 2 34 ?vv3 rfl (by kernel_rfl) (by kernel_rfl) (by kernel_rfl) rfl (fun _ _ _ h => h) (by rfl) ?hy3 (by assumption) ?rest3
      case hy3 => (intro w hSw; (try dsimp only at hSw); go_simp; try with_reducible rfl)
      try simp only [Act.put, List.setIfInBounds_toArray, List.set_cons_zero, List.set_cons_succ]
      refine heldW_take 3 35 ?vv4 rfl (by kernel_rfl) (by kernel_rfl) (by kernel_rfl) rfl (fun _ _ _ h => h) (by rfl) ?hy4 (by assumption) ?rest4
      case hy4 => (intro w hSw; (try dsimp only at hSw); go_simp; try with_reducible rfl)
      try simp only [Act.put, List.setIfInBounds_toArray, List.set_cons_zero, List.set_cons_succ]
      refine heldW_take 4 36 ?vv5 rfl (by kernel_rfl) (by kernel_rfl) (by kernel_rfl) rfl (fun _ _ _ h => h) (by rfl) ?hy5 (by assumption) ?rest5
      case hy5 => (intro w hSw; (try dsimp only at hSw); go_simp; try with_reducible rfl)
      try simp only [Act.put, List.setIfInBounds_toArray, List.set_cons_zero, List.set_cons_succ]
      refine heldW_take 5 37 ?vv6 rfl (by kernel_rfl) (by kernel_rfl) (by kernel_rfl) rfl (fun _ _ _ h => h) (by rfl) ?hy6 (by assumption) ?rest6
      case hy6 => (intro w hSw; (try dsimp only at hSw); go_simp; try with_reducible rfl)
      try simp only [Act.put, List.setIfInBounds_toArray, List.set_cons_zero, List.set_cons_succ]
      refine heldW_take 6 38 ?vv7 rfl (by kernel_rfl) (by kernel_rfl) (by kernel_rfl) rfl (fun _ _ _ h => h) (by rfl) ?hy7 (by assumption) ?rest7
      case hy7 => (intro w hSw; (try dsimp only at hSw); go_simp; try with_reducible rfl)
      try simp only [Act.put, List.setIfInBounds_toArray, List.set_cons_zero, List.set_cons_succ]
      refine wpAnyH_ready (rs := [7]) (by kernel_rfl) (by simp) ?_
      refine AllReadyH.cons rfl (fun K hK => ?_) AllReadyH.nil
      go_simp
      refine (pick_any w.heap.size w.heap.size _ N _ HC.out.drew (by omega) (by omega) (by omega)).mono ?_
      rintro e w3 ⟨p, rfl, p0, p1, hcx, hg⟩
      go_wp2_with fail
      have HO := hide (own_gr HO.out.drew hg (by simp))
      have HB := hide (bl_gr (Below.drew HB.out) hg (Nat.le_refl _) (by simp; omega))
      obtain ⟨j, rfl⟩ : ∃ j : Nat, p = (j : Int) := ⟨p.toNat, by omega⟩
      have hj : j < N := by omega
      have hj1 : (j : Int) < (N : Int) := by omega
      have hj0 : (0 : Int) ≤ (j : Int) := by omega
      obtain ⟨bb, off, rfl, hbl, hat⟩ := rdCv (own_rd' encCv_len HO.out HZ.out) (by rw [HZ.out]; omega)
      obtain ⟨x, hx, hxc⟩ := hat j (by rw [HZ.out]; exact hj)
      obtain ⟨_, c0, _, _, _, _, _⟩ := hxc w3 (Below.refl _ _)
      clear hx hxc hat p0 p1 hcx hg hrd
      refine hK.out _ _ trivial (fun hHeld2 => ?_)
      clear hK K
      try simp only [Act.put, List.setIfInBounds_toArray, List.set_cons_zero, List.set_cons_succ]
      refine heldW_take 11 2 ?vv8 rfl (by kernel_rfl) (by kernel_rfl) (by kernel_rfl) rfl (fun _ _ _ h => h) (by rfl) ?hy8 (by assumption) ?rest8
      case hy8 => (intro w hSw; (try dsimp only at hSw); go_simp; try with_reducible rfl)
      try simp only [Act.put, List.setIfInBounds_toArray, List.set_cons_zero, List.set_cons_succ]
      refine heldW_take 12 3 ?vv9 rfl (by kernel_rfl) (by kernel_rfl) (by kernel_rfl) rfl (fun _ _ _ h => h) (by rfl) ?hy9 (by assumption) ?rest9
      case hy9 => (intro w hSw; (try dsimp only at hSw); go_simp; try with_reducible rfl)
      try simp only [Act.put, List.setIfInBounds_toArray, List.set_cons_zero, List.set_cons_succ]
      refine heldW_take 13 4 ?vv10 rfl (by kernel_rfl) (by kernel_rfl) (by kernel_rfl) rfl (fun _ _ _ h => h) (by rfl) ?hy10 (by assumption) ?rest10
      case hy10 => (intro w hSw; (try dsimp only at hSw); go_simp; try with_reducible rfl)
      try simp only [Act.put, List.setIfInBounds_toArray, List.set_cons_zero, List.set_cons_succ]
      refine wpAnyH_ready (rs := [8]) (by kernel_rfl) (by simp) ?_
      refine AllReadyH.cons rfl (fun K hK => ?_) AllReadyH.nil
      go_simp
      refine hK.out _ _ trivial (fun hHeld3 => ?_)
      clear hK K
      try simp only [Act.put, List.setIfInBounds_toArray, List.set_cons_zero, List.set_cons_succ]
      refine wpAnyH_ready (rs := [9]) (by kernel_rfl) (by simp) ?_
      refine AllReadyH.cons rfl (fun K hK => ?_) AllReadyH.nil
      go_simp
      refine hK.out _ _ trivial (fun hHeld3 => ?_)
      clear hK K
      try simp only [Act.put, List.setIfInBounds_toArray, List.set_cons_zero, List.set_cons_succ]
      refine wpAnyH_ready (rs := [10]) (by kernel_rfl) (by simp) ?_
      refine AllReadyH.cons rfl (fun K hK => ?_) AllReadyH.nil
      go_simp
      refine hK.out _ _ trivial (fun hHeld3 => ?_)
      clear hK K
      try simp only [Act.put, List.setIfInBounds_toArray, List.set_cons_zero, List.set_cons_succ]
      refine heldW_take 14 5 ?vv11 rfl (by kernel_rfl) (by kernel_rfl) (by kernel_rfl) rfl (fun _ _ _ h => h) (by rfl) ?hy11 (by assumption) ?rest11
      case hy11 => (intro w hSw; (try dsimp only at hSw); go_simp; try with_reducible rfl)
      try simp only [Act.put, List.setIfInBounds_toArray, List.set_cons_zero, List.set_cons_succ]
      refine wpAnyH_done (by kernel_rfl) ?_ _
      go_wp2
      refine bodyPost_ret (results_tmp4 rfl _ _ _) rfl ?_
      exact ⟨a, b, _, zs, _, rfl, by rw [HZ.out]; exact hl, by rw [HZ.out]; exact own_base0 HO.out (by simp), HB.out⟩

end Go.Proofs.Ytpdfbijfklmonaa
