/- The draws of FnEarned. -/
import Derived.Test.YtpghdjehagamlaaE6
namespace Go.Proofs.Ytpghdjehagamlaa
open Go.RowKit
set_option linter.unusedVariables false
set_option linter.unusedSimpArgs false

theorem results_tmpE4 {fn : Func} {t u v x : Tmp} (h : fn.results = #[.tmp t, .tmp u, .tmp v, .tmp x]) (tmps : Array Value) (P : Program) (w : World) :
    (results fn tmps).run P w = .ok (.tuple #[tmps.getD t undef, tmps.getD u undef, tmps.getD v undef, tmps.getD x undef]) w := by simp [results, h]
theorem results_tmpE3 {fn : Func} {t u v : Tmp} (h : fn.results = #[.tmp t, .tmp u, .tmp v]) (tmps : Array Value) (P : Program) (w : World) :
    (results fn tmps).run P w = .ok (.tuple #[tmps.getD t undef, tmps.getD u undef, tmps.getD v undef]) w := by simp [results, h]
def P2post (w : World) (e : Ending) (w' : World) : Prop := ∃ (ro : Option Addr) (M mc : Nat) (rz : List Rt) (zo : Option Addr) (N zc : Nat) (zs : List Cp) (a b : Int), e = .returned (.tuple #[.slice ro M mc, .slice zo N zc, .int .i64 a, .int .i64 b]) ∧ rz.length = M ∧ zs.length = N ∧ M ≤ 12 ∧ N ≤ 17 ∧ M ≤ mc ∧ N ≤ zc ∧ Rd encRt 4 w'.heap.size w' ro rz ∧ Rd encCp 4 w'.heap.size w' zo zs ∧ Below w.heap.size w w'
def P1post (w : World) (e : Ending) (w' : World) : Prop := ∃ (ro : Option Addr) (M mc : Nat) (rz : List Rt) (zo : Option Addr) (N zc : Nat) (zs : List Cp) (a : Int), e = .returned (.tuple #[.slice ro M mc, .slice zo N zc, .int .i64 a]) ∧ rz.length = M ∧ zs.length = N ∧ M ≤ 12 ∧ N ≤ 17 ∧ M ≤ mc ∧ N ≤ zc ∧ Rd encRt 4 w'.heap.size w' ro rz ∧ Rd encCp 4 w'.heap.size w' zo zs ∧ Below w.heap.size w w'

set_option maxRecDepth 100000 in
set_option maxHeartbeats 2000000 in
theorem DrawClosedFor_any (ao : Option Addr) (n c : Nat) (w : World) (hn : n ≤ 65536) (hnc : n ≤ c) (hby : Bytes w.heap.size w ao n) :
    Calls Try.prog 40 #[.slice ao n c] w (P2post w) := by
  have HCUR : Hid (Cur w.heap.size (w.alloc (.cells #[.slice ao n c, .int .i64 ((0 : Nat) : Int), .int .u64 0] 81)) w.heap.size 0) := hide ⟨ao, n, c, 0, 0, Blk.new w _ _, Nat.le_refl _, Nat.le_refl _, hn, hnc, hby.keep (by simp) (fun j hj _ => Below.heap_alloc w _ j hj)⟩
  clear hby
  go_enter Try.func40, Try.ntmps40
  go_wp2_with fail
  refine (draw_rights_any w.heap.size w.heap.size 0 _ HCUR.out (by omega)).mono ?_
  rintro e w1 ⟨v, rz, rfl, hMr, hor, hc, hg⟩
  obtain ⟨Mr, hM⟩ : ∃ Mr, Mr = rz.length := ⟨_, rfl⟩
  rw [← hM] at hor hMr
  obtain ⟨ro, mc, rfl, hmc, _, _⟩ := own_rd encRt_len hor hM.symm
  have HRZ := hide hM.symm
  have hsz := hg.size
  simp only [World.size_alloc] at hsz
  have HR : Hid (w1.ownsRow (w.heap.size + 1) 72 4 (.slice ro Mr mc) Mr (rz.flatMap encRt)) := hide (own_base0 hor (by simp))
  have HC := hide hc
  have HG := hide hg
  have HB0 := hide ((Below.refl w.heap.size w).alloc (Nat.le_refl _) (.cells #[.slice ao n c, .int .i64 ((0 : Nat) : Int), .int .u64 0] 81))
  have hg0 : w.heap.size < w.heap.size + 1 := Nat.lt_succ_self _
  clear hor hc hg hM
  go_wp2_with fail
  refine (draw_copyings_any w.heap.size w.heap.size _ ro Mr mc (w.heap.size + 1) rz _ HC.out (by omega) HRZ.out hMr HR.out hg0).mono ?_
  rintro e w2 ⟨v, zs, rfl, ⟨zb, zc, hv⟩, hl, ho, hc, hg⟩
  have HZ0 := hide ho
  have HR := hide (own_gr HR.out hg hg0)
  have HG := hide (gr_trans HG.out hg)
  have HC := hide hc
  have hsz2 := hg.size
  have hgZ : w.heap.size < w1.heap.size := by omega
  obtain ⟨N, hN⟩ : ∃ N, N = zs.length := ⟨_, rfl⟩
  rw [← hN] at ho hl hv
  subst hv
  obtain ⟨zo', zc', hv', hzc, _, _⟩ := own_rd encCp_len ho hN.symm
  injection hv' with hv1 hv2 hv3
  subst hv3
  clear hv1 hv2
  have HZ := hide hN.symm
  have HO := hide ho
  clear ho hc hg hN HZ0
  go_wp2_with fail
  refine (draw_reader14_any w.heap.size w.heap.size (0 + 800) _ HC.out (by omega)).mono ?_
  rintro e w3 ⟨a, rfl, hc, hg⟩
  have HR := hide (own_gr HR.out hg hg0)
  have HO := hide (own_gr HO.out hg hgZ)
  have HG := hide (gr_trans HG.out hg)
  have hsz := hg.size
  have HC := hide hc
  clear hc hg
  have hsz3 := hsz
  clear hsz
  go_wp2_with fail
  refine (draw_day14_any w.heap.size w.heap.size (0 + 804) _ HC.out (by omega)).mono ?_
  rintro e w4 ⟨b, rfl, hc, hg⟩
  have HR := hide (own_gr HR.out hg hg0)
  have HO := hide (own_gr HO.out hg hgZ)
  have HG := hide (gr_trans HG.out hg)
  have hsz := hg.size
  have HC := hide hc
  clear hc hg
  have hsz4 := hsz
  clear hsz
  have HB := hide (bl_gr HB0.out HG.out (Nat.le_refl _) (by simp))
  go_wp2
  refine bodyPost_ret (results_tmpE4 rfl _ _ _) rfl ?_
  exact ⟨ro, Mr, mc, rz, _, N, zc, zs, a, b, rfl, HRZ.out, HZ.out, hMr, hl, hmc, hzc, own_rd' encRt_len HR.out HRZ.out, own_rd' encCp_len HO.out HZ.out, HB.out⟩

set_option maxRecDepth 100000 in
set_option maxHeartbeats 2000000 in
theorem DrawExtendRight_any (ao : Option Addr) (n c : Nat) (w : World) (hn : n ≤ 65536) (hnc : n ≤ c) (hby : Bytes w.heap.size w ao n) :
    Calls Try.prog 44 #[.slice ao n c] w (P2post w) := by
  have HCUR : Hid (Cur w.heap.size (w.alloc (.cells #[.slice ao n c, .int .i64 ((0 : Nat) : Int), .int .u64 0] 81)) w.heap.size 0) := hide ⟨ao, n, c, 0, 0, Blk.new w _ _, Nat.le_refl _, Nat.le_refl _, hn, hnc, hby.keep (by simp) (fun j hj _ => Below.heap_alloc w _ j hj)⟩
  clear hby
  go_enter Try.func44, Try.ntmps44
  go_wp2_with fail
  refine (draw_rights_any w.heap.size w.heap.size 0 _ HCUR.out (by omega)).mono ?_
  rintro e w1 ⟨v, rz, rfl, hMr, hor, hc, hg⟩
  obtain ⟨Mr, hM⟩ : ∃ Mr, Mr = rz.length := ⟨_, rfl⟩
  rw [← hM] at hor hMr
  obtain ⟨ro, mc, rfl, hmc, _, _⟩ := own_rd encRt_len hor hM.symm
  have HRZ := hide hM.symm
  have hsz := hg.size
  simp only [World.size_alloc] at hsz
  have HR : Hid (w1.ownsRow (w.heap.size + 1) 72 4 (.slice ro Mr mc) Mr (rz.flatMap encRt)) := hide (own_base0 hor (by simp))
  have HC := hide hc
  have HG := hide hg
  have HB0 := hide ((Below.refl w.heap.size w).alloc (Nat.le_refl _) (.cells #[.slice ao n c, .int .i64 ((0 : Nat) : Int), .int .u64 0] 81))
  have hg0 : w.heap.size < w.heap.size + 1 := Nat.lt_succ_self _
  clear hor hc hg hM
  go_wp2_with fail
  refine (draw_copyings_any w.heap.size w.heap.size _ ro Mr mc (w.heap.size + 1) rz _ HC.out (by omega) HRZ.out hMr HR.out hg0).mono ?_
  rintro e w2 ⟨v, zs, rfl, ⟨zb, zc, hv⟩, hl, ho, hc, hg⟩
  have HZ0 := hide ho
  have HR := hide (own_gr HR.out hg hg0)
  have HG := hide (gr_trans HG.out hg)
  have HC := hide hc
  have hsz2 := hg.size
  have hgZ : w.heap.size < w1.heap.size := by omega
  obtain ⟨N, hN⟩ : ∃ N, N = zs.length := ⟨_, rfl⟩
  rw [← hN] at ho hl hv
  subst hv
  obtain ⟨zo', zc', hv', hzc, _, _⟩ := own_rd encCp_len ho hN.symm
  injection hv' with hv1 hv2 hv3
  subst hv3
  clear hv1 hv2
  have HZ := hide hN.symm
  have HO := hide ho
  clear ho hc hg hN HZ0
  go_wp2_with fail
  refine (draw_sheet14_any w.heap.size w.heap.size (0 + 800) _ HC.out (by omega)).mono ?_
  rintro e w3 ⟨a, rfl, hc, hg⟩
  have HR := hide (own_gr HR.out hg hg0)
  have HO := hide (own_gr HO.out hg hgZ)
  have HG := hide (gr_trans HG.out hg)
  have hsz := hg.size
  have HC := hide hc
  clear hc hg
  have hsz3 := hsz
  clear hsz
  go_wp2_with fail
  refine (draw_day14_any w.heap.size w.heap.size (0 + 804) _ HC.out (by omega)).mono ?_
  rintro e w4 ⟨b, rfl, hc, hg⟩
  have HR := hide (own_gr HR.out hg hg0)
  have HO := hide (own_gr HO.out hg hgZ)
  have HG := hide (gr_trans HG.out hg)
  have hsz := hg.size
  have HC := hide hc
  clear hc hg
  have hsz4 := hsz
  clear hsz
  have HB := hide (bl_gr HB0.out HG.out (Nat.le_refl _) (by simp))
  go_wp2
  refine bodyPost_ret (results_tmpE4 rfl _ _ _) rfl ?_
  exact ⟨ro, Mr, mc, rz, _, N, zc, zs, a, b, rfl, HRZ.out, HZ.out, hMr, hl, hmc, hzc, own_rd' encRt_len HR.out HRZ.out, own_rd' encCp_len HO.out HZ.out, HB.out⟩

set_option maxRecDepth 100000 in
set_option maxHeartbeats 2000000 in
theorem DrawPaidBy_any (ao : Option Addr) (n c : Nat) (w : World) (hn : n ≤ 65536) (hnc : n ≤ c) (hby : Bytes w.heap.size w ao n) :
    Calls Try.prog 49 #[.slice ao n c] w (P1post w) := by
  have HCUR : Hid (Cur w.heap.size (w.alloc (.cells #[.slice ao n c, .int .i64 ((0 : Nat) : Int), .int .u64 0] 81)) w.heap.size 0) := hide ⟨ao, n, c, 0, 0, Blk.new w _ _, Nat.le_refl _, Nat.le_refl _, hn, hnc, hby.keep (by simp) (fun j hj _ => Below.heap_alloc w _ j hj)⟩
  clear hby
  go_enter Try.func49, Try.ntmps49
  go_wp2_with fail
  refine (draw_rights_any w.heap.size w.heap.size 0 _ HCUR.out (by omega)).mono ?_
  rintro e w1 ⟨v, rz, rfl, hMr, hor, hc, hg⟩
  obtain ⟨Mr, hM⟩ : ∃ Mr, Mr = rz.length := ⟨_, rfl⟩
  rw [← hM] at hor hMr
  obtain ⟨ro, mc, rfl, hmc, _, _⟩ := own_rd encRt_len hor hM.symm
  have HRZ := hide hM.symm
  have hsz := hg.size
  simp only [World.size_alloc] at hsz
  have HR : Hid (w1.ownsRow (w.heap.size + 1) 72 4 (.slice ro Mr mc) Mr (rz.flatMap encRt)) := hide (own_base0 hor (by simp))
  have HC := hide hc
  have HG := hide hg
  have HB0 := hide ((Below.refl w.heap.size w).alloc (Nat.le_refl _) (.cells #[.slice ao n c, .int .i64 ((0 : Nat) : Int), .int .u64 0] 81))
  have hg0 : w.heap.size < w.heap.size + 1 := Nat.lt_succ_self _
  clear hor hc hg hM
  go_wp2_with fail
  refine (draw_copyings_any w.heap.size w.heap.size _ ro Mr mc (w.heap.size + 1) rz _ HC.out (by omega) HRZ.out hMr HR.out hg0).mono ?_
  rintro e w2 ⟨v, zs, rfl, ⟨zb, zc, hv⟩, hl, ho, hc, hg⟩
  have HZ0 := hide ho
  have HR := hide (own_gr HR.out hg hg0)
  have HG := hide (gr_trans HG.out hg)
  have HC := hide hc
  have hsz2 := hg.size
  have hgZ : w.heap.size < w1.heap.size := by omega
  obtain ⟨N, hN⟩ : ∃ N, N = zs.length := ⟨_, rfl⟩
  rw [← hN] at ho hl hv
  subst hv
  obtain ⟨zo', zc', hv', hzc, _, _⟩ := own_rd encCp_len ho hN.symm
  injection hv' with hv1 hv2 hv3
  subst hv3
  clear hv1 hv2
  have HZ := hide hN.symm
  have HO := hide ho
  clear ho hc hg hN HZ0
  go_wp2_with fail
  refine (draw_reader14_any w.heap.size w.heap.size (0 + 800) _ HC.out (by omega)).mono ?_
  rintro e w3 ⟨a, rfl, hc, hg⟩
  have HR := hide (own_gr HR.out hg hg0)
  have HO := hide (own_gr HO.out hg hgZ)
  have HG := hide (gr_trans HG.out hg)
  have hsz := hg.size
  have HC := hide hc
  clear hc hg
  have hsz3 := hsz
  clear hsz
  have HB := hide (bl_gr HB0.out HG.out (Nat.le_refl _) (by simp))
  go_wp2
  refine bodyPost_ret (results_tmpE3 rfl _ _ _) rfl ?_
  exact ⟨ro, Mr, mc, rz, _, N, zc, zs, a, rfl, HRZ.out, HZ.out, hMr, hl, hmc, hzc, own_rd' encRt_len HR.out HRZ.out, own_rd' encCp_len HO.out HZ.out, HB.out⟩

set_option maxRecDepth 100000 in
set_option maxHeartbeats 2000000 in
theorem DrawBestEarners_any (ao : Option Addr) (n c : Nat) (w : World) (hn : n ≤ 65536) (hnc : n ≤ c) (hby : Bytes w.heap.size w ao n) :
    Calls Try.prog 48 #[.slice ao n c] w (P1post w) := by
  have HCUR : Hid (Cur w.heap.size (w.alloc (.cells #[.slice ao n c, .int .i64 ((0 : Nat) : Int), .int .u64 0] 81)) w.heap.size 0) := hide ⟨ao, n, c, 0, 0, Blk.new w _ _, Nat.le_refl _, Nat.le_refl _, hn, hnc, hby.keep (by simp) (fun j hj _ => Below.heap_alloc w _ j hj)⟩
  clear hby
  go_enter Try.func48, Try.ntmps48
  go_wp2_with fail
  refine (draw_rights_any w.heap.size w.heap.size 0 _ HCUR.out (by omega)).mono ?_
  rintro e w1 ⟨v, rz, rfl, hMr, hor, hc, hg⟩
  obtain ⟨Mr, hM⟩ : ∃ Mr, Mr = rz.length := ⟨_, rfl⟩
  rw [← hM] at hor hMr
  obtain ⟨ro, mc, rfl, hmc, _, _⟩ := own_rd encRt_len hor hM.symm
  have HRZ := hide hM.symm
  have hsz := hg.size
  simp only [World.size_alloc] at hsz
  have HR : Hid (w1.ownsRow (w.heap.size + 1) 72 4 (.slice ro Mr mc) Mr (rz.flatMap encRt)) := hide (own_base0 hor (by simp))
  have HC := hide hc
  have HG := hide hg
  have HB0 := hide ((Below.refl w.heap.size w).alloc (Nat.le_refl _) (.cells #[.slice ao n c, .int .i64 ((0 : Nat) : Int), .int .u64 0] 81))
  have hg0 : w.heap.size < w.heap.size + 1 := Nat.lt_succ_self _
  clear hor hc hg hM
  go_wp2_with fail
  refine (draw_copyings_any w.heap.size w.heap.size _ ro Mr mc (w.heap.size + 1) rz _ HC.out (by omega) HRZ.out hMr HR.out hg0).mono ?_
  rintro e w2 ⟨v, zs, rfl, ⟨zb, zc, hv⟩, hl, ho, hc, hg⟩
  have HZ0 := hide ho
  have HR := hide (own_gr HR.out hg hg0)
  have HG := hide (gr_trans HG.out hg)
  have HC := hide hc
  have hsz2 := hg.size
  have hgZ : w.heap.size < w1.heap.size := by omega
  obtain ⟨N, hN⟩ : ∃ N, N = zs.length := ⟨_, rfl⟩
  rw [← hN] at ho hl hv
  subst hv
  obtain ⟨zo', zc', hv', hzc, _, _⟩ := own_rd encCp_len ho hN.symm
  injection hv' with hv1 hv2 hv3
  subst hv3
  clear hv1 hv2
  have HZ := hide hN.symm
  have HO := hide ho
  clear ho hc hg hN HZ0
  have HOP : Hid (∀ cs : Array Value, cs = ([0, 1, 2, 10, (-1), 11].map (Value.int .i64)).toArray → Opts (w2.alloc (.cells cs 3)) w.heap.size (some ⟨w2.heap.size, 0, none⟩) 6 [0, 1, 2, 10, (-1), 11]) := hide (fun cs h => Opts.lit (H := w2.heap.size) [0, 1, 2, 10, (-1), 11] HC.out.lt h rfl)
  go_wp2_with fail
  refine (pick_any w.heap.size w.heap.size (0 + 800) 24 _ (HC.out.alloc _) (by omega) (by omega) (by omega)).mono ?_
  rintro e w3 ⟨v, rfl, v0, v1, hc, hg⟩
  have HOP := hide ((HOP.out _ rfl).grown hg)
  have HR := hide (own_gr (HR.out.alloc _) hg hg0)
  have HO := hide (own_gr (HO.out.alloc _) hg hgZ)
  have HG := hide (gr_trans (gr_alloc HG.out _) hg)
  have hsz := hg.size
  simp only [World.size_alloc, World.size_setCell] at hsz
  have HC := hide hc
  clear hc hg
  have hsz3 := hsz
  clear hsz
  obtain ⟨q, hq⟩ : ∃ q : Nat, v / 11 = (q : Int) := ⟨(v / 11).toNat, by omega⟩
  have hq2 : q ≤ 2 := by omega
  have k5 : (4 + (q : Int)).toNat = 4 + q := by omega
  have k6 : (0 : Int) ≤ 4 + (q : Int) := by omega
  have k7 : 4 + (q : Int) ≤ 6 := by omega
  go_wp2_with fail
  refine (among_any w.heap.size w.heap.size (0 + 802) _ (4 + q) 6 [0, 1, 2, 10, (-1), 11] _ HC.out (HOP.out.fewer (by omega)) (by omega) (by omega) (by omega)).mono ?_
  rintro e w4 ⟨z, rfl, _, hc, hg⟩
  have HR := hide (own_gr HR.out hg hg0)
  have HO := hide (own_gr HO.out hg hgZ)
  have HG := hide (gr_trans HG.out hg)
  have hsz := hg.size
  have HC := hide hc
  clear hc hg
  have hsz4 := hsz
  clear hsz
  clear hq
  have HB := hide (bl_gr HB0.out HG.out (Nat.le_refl _) (by simp))
  go_wp2
  refine bodyPost_ret (results_tmpE3 rfl _ _ _) rfl ?_
  exact ⟨ro, Mr, mc, rz, _, N, zc, zs, z, rfl, HRZ.out, HZ.out, hMr, hl, hmc, hzc, own_rd' encRt_len HR.out HRZ.out, own_rd' encCp_len HO.out HZ.out, HB.out⟩

end Go.Proofs.Ytpghdjehagamlaa
