/- The draws of FnRights. -/
import Derived.Test.YtpghdjehagamlaaC11
import Derived.Test.YtpghdjehagamlaaC12
import Derived.Test.YtpghdjehagamlaaC13
import Derived.Test.YtpghdjehagamlaaE1
namespace Go.Proofs.Ytpghdjehagamlaa
open Go.RowKit
set_option linter.unusedVariables false
set_option linter.unusedSimpArgs false

theorem results_tmp4 {fn : Func} {t u v x : Tmp} (h : fn.results = #[.tmp t, .tmp u, .tmp v, .tmp x]) (tmps : Array Value) (P : Program) (w : World) :
    (results fn tmps).run P w = .ok (.tuple #[tmps.getD t undef, tmps.getD u undef, tmps.getD v undef, tmps.getD x undef]) w := by
  simp [results, h]

theorem Bytes.later {w w' : World} {ao : Option Addr} {n : Nat} (h : Bytes w.heap.size w ao n) (hb : Below w.heap.size w w') : Bytes w'.heap.size w' ao n := by
  rcases h with h | ⟨b, off, rfl, h1, h2, h3⟩
  · exact .inl h
  · refine .inr ⟨b, off, rfl, Nat.lt_of_lt_of_le h2 hb.size, Nat.lt_of_lt_of_le h2 hb.size, fun i hi => ?_⟩
    obtain ⟨x, x0, x1, hx⟩ := h3 i hi
    exact ⟨x, x0, x1, (hb.cell (p := ⟨b, _, none⟩) h1).trans hx⟩

theorem results_tmp5 {fn : Func} {t u v x y : Tmp} (h : fn.results = #[.tmp t, .tmp u, .tmp v, .tmp x, .tmp y]) (tmps : Array Value) (P : Program) (w : World) :
    (results fn tmps).run P w = .ok (.tuple #[tmps.getD t undef, tmps.getD u undef, tmps.getD v undef, tmps.getD x undef, tmps.getD y undef]) w := by simp [results, h]
def PLpost (w : World) (e : Ending) (w' : World) : Prop := ∃ (ro : Option Addr) (M mc : Nat) (rz : List Rt) (zo : Option Addr) (N zc : Nat) (zs : List Cp) (a b d : Int), e = .returned (.tuple #[.slice ro M mc, .slice zo N zc, .int .i64 a, .int .i64 b, .int .i64 d]) ∧ rz.length = M ∧ zs.length = N ∧ M ≤ 12 ∧ N ≤ 17 ∧ M ≤ mc ∧ N ≤ zc ∧ Rd encRt 4 w'.heap.size w' ro rz ∧ Rd encCp 4 w'.heap.size w' zo zs ∧ Below w.heap.size w w'
def CSpost (w : World) (e : Ending) (w' : World) : Prop := ∃ (ro : Option Addr) (M mc : Nat) (rz : List Rt) (zo : Addr) (N zc : Nat) (zs : List Cp) (x : Cp), e = .returned (.tuple #[.slice ro M mc, .slice (some zo) N zc, .agg #[.int .i64 x.s, .int .i64 x.r, .int .i64 x.d, .int .i64 x.p]]) ∧ rz.length = M ∧ zs.length = N ∧ M ≤ 12 ∧ N ≤ 17 ∧ M ≤ mc ∧ N ≤ zc ∧ Rd encRt 4 w'.heap.size w' ro rz ∧ Rd encCp 4 w'.heap.size w' (some zo) zs ∧ Below w.heap.size w w'

set_option maxRecDepth 100000 in
theorem DrawFreeFrom_any (ao : Option Addr) (n c : Nat) (w : World) (hn : n ≤ 65536) (hnc : n ≤ c) (hby : Bytes w.heap.size w ao n) :
    Calls Try.prog 24 #[.slice ao n c] w fun e w' => ∃ (ro : Option Addr) (M mc : Nat) (rz : List Rt) (a : Int), e = .returned (.tuple #[.slice ro M mc, .int .i64 a]) ∧ rz.length = M ∧ M ≤ 12 ∧ Rd encRt 4 w'.heap.size w' ro rz ∧ Below w.heap.size w w' := by
  have HCUR : Hid (Cur w.heap.size (w.alloc (.cells #[.slice ao n c, .int .i64 ((0 : Nat) : Int), .int .u64 0] 81)) w.heap.size 0) := hide ⟨ao, n, c, 0, 0, Blk.new w _ _, Nat.le_refl _, Nat.le_refl _, hn, hnc, hby.keep (by simp) (fun j hj _ => Below.heap_alloc w _ j hj)⟩
  clear hby
  go_enter Try.func24, Try.ntmps24
  go_wp2_with fail
  refine (draw_rights_any w.heap.size w.heap.size 0 _ HCUR.out (by omega)).mono ?_
  rintro e w1 ⟨v, rz, rfl, hMr, hor, hc, hg⟩
  obtain ⟨Mr, hM⟩ : ∃ Mr, Mr = rz.length := ⟨_, rfl⟩
  rw [← hM] at hor hMr
  obtain ⟨ro, mc, rfl, hmc, _, _⟩ := own_rd encRt_len hor hM.symm
  have HRZ := hide hM.symm
  have hsz := hg.size
  simp only [World.size_alloc] at hsz
  have HR : Hid (w1.ownsRow (w.heap.size + 1) 72 4 (.slice ro Mr mc) Mr (rz.flatMap encRt)) := hide (own_base0 hor (by simp))
  have HC := hide hc
  have HG := hide hg
  have HB0 := hide ((Below.refl w.heap.size w).alloc (Nat.le_refl _) (.cells #[.slice ao n c, .int .i64 ((0 : Nat) : Int), .int .u64 0] 81))
  have hg0 : w.heap.size < w.heap.size + 1 := Nat.lt_succ_self _
  clear hor hc hg hM
  go_wp2_with fail
  refine (draw_sheet14_any w.heap.size w.heap.size (0 + 300) _ HC.out (by omega)).mono ?_
  rintro e w2 ⟨a, rfl, hc, hg⟩
  have HR := hide (own_gr HR.out hg hg0)
  have HG := hide (gr_trans HG.out hg)
  have hsz := hg.size
  have HC := hide hc
  clear hc hg
  have hsz2 := hsz
  clear hsz
  have HB := hide (bl_gr HB0.out HG.out (Nat.le_refl _) (by simp))
  go_wp2
  go_ret2
  exact ⟨ro, Mr, mc, rz, a, rfl, HRZ.out, hMr, own_rd' encRt_len HR.out HRZ.out, HB.out⟩

set_option maxRecDepth 100000 in
theorem DrawPartLeft_any (ao : Option Addr) (n c : Nat) (w : World) (hn : n ≤ 65536) (hnc : n ≤ c) (hby : Bytes w.heap.size w ao n) :
    Calls Try.prog 27 #[.slice ao n c] w (PLpost w) := by
  have HCUR : Hid (Cur w.heap.size (w.alloc (.cells #[.slice ao n c, .int .i64 ((0 : Nat) : Int), .int .u64 0] 81)) w.heap.size 0) := hide ⟨ao, n, c, 0, 0, Blk.new w _ _, Nat.le_refl _, Nat.le_refl _, hn, hnc, hby.keep (by simp) (fun j hj _ => Below.heap_alloc w _ j hj)⟩
  clear hby
  go_enter Try.func27, Try.ntmps27
  go_wp2_with fail
  refine (draw_rights_any w.heap.size w.heap.size 0 _ HCUR.out (by omega)).mono ?_
  rintro e w1 ⟨v, rz, rfl, hMr, hor, hc, hg⟩
  obtain ⟨Mr, hM⟩ : ∃ Mr, Mr = rz.length := ⟨_, rfl⟩
  rw [← hM] at hor hMr
  obtain ⟨ro, mc, rfl, hmc, _, _⟩ := own_rd encRt_len hor hM.symm
  have HRZ := hide hM.symm
  have hsz := hg.size
  simp only [World.size_alloc] at hsz
  have HR : Hid (w1.ownsRow (w.heap.size + 1) 72 4 (.slice ro Mr mc) Mr (rz.flatMap encRt)) := hide (own_base0 hor (by simp))
  have HC := hide hc
  have HG := hide hg
  have HB0 := hide ((Below.refl w.heap.size w).alloc (Nat.le_refl _) (.cells #[.slice ao n c, .int .i64 ((0 : Nat) : Int), .int .u64 0] 81))
  have hg0 : w.heap.size < w.heap.size + 1 := Nat.lt_succ_self _
  clear hor hc hg hM
  go_wp2_with fail
  refine (draw_copyings_any w.heap.size w.heap.size _ ro Mr mc (w.heap.size + 1) rz _ HC.out (by omega) HRZ.out hMr HR.out hg0).mono ?_
  rintro e w2 ⟨v, zs, rfl, ⟨zb, zc, hv⟩, hl, ho, hc, hg⟩
  have HZ0 := hide ho
  have HR := hide (own_gr HR.out hg hg0)
  have HG := hide (gr_trans HG.out hg)
  have HC := hide hc
  have hsz2 := hg.size
  have hgZ : w.heap.size < w1.heap.size := by omega
  obtain ⟨N, hN⟩ : ∃ N, N = zs.length := ⟨_, rfl⟩
  rw [← hN] at ho hl hv
  subst hv
  obtain ⟨zo', zc', hv', hzc, _, _⟩ := own_rd encCp_len ho hN.symm
  injection hv' with hv1 hv2 hv3
  subst hv3
  clear hv1 hv2
  have HZ := hide hN.symm
  have HO := hide ho
  clear ho hc hg hN HZ0
  go_wp2_with fail
  refine (draw_sheet14_any w.heap.size w.heap.size (0 + 800) _ HC.out (by omega)).mono ?_
  rintro e w3 ⟨a, rfl, hc, hg⟩
  have HR := hide (own_gr HR.out hg hg0)
  have HO := hide (own_gr HO.out hg hgZ)
  have HG := hide (gr_trans HG.out hg)
  have hsz := hg.size
  have HC := hide hc
  clear hc hg
  have hsz3 := hsz
  clear hsz
  go_wp2_with fail
  refine (draw_reader14_any w.heap.size w.heap.size (0 + 804) _ HC.out (by omega)).mono ?_
  rintro e w4 ⟨b, rfl, hc, hg⟩
  have HR := hide (own_gr HR.out hg hg0)
  have HO := hide (own_gr HO.out hg hgZ)
  have HG := hide (gr_trans HG.out hg)
  have hsz := hg.size
  have HC := hide hc
  clear hc hg
  have hsz4 := hsz
  clear hsz
  go_wp2_with fail
  refine (draw_day14_any w.heap.size w.heap.size (0 + 808) _ HC.out (by omega)).mono ?_
  rintro e w5 ⟨dd, rfl, hc, hg⟩
  have HR := hide (own_gr HR.out hg hg0)
  have HO := hide (own_gr HO.out hg hgZ)
  have HG := hide (gr_trans HG.out hg)
  have hsz := hg.size
  have HC := hide hc
  clear hc hg
  have hsz5 := hsz
  clear hsz
  have HB := hide (bl_gr HB0.out HG.out (Nat.le_refl _) (by simp))
  go_wp2
  refine bodyPost_ret (results_tmp5 rfl _ _ _) rfl ?_
  exact ⟨ro, Mr, mc, rz, _, N, zc, zs, a, b, dd, rfl, HRZ.out, HZ.out, hMr, hl, hmc, hzc, own_rd' encRt_len HR.out HRZ.out, own_rd' encCp_len HO.out HZ.out, HB.out⟩

end Go.Proofs.Ytpghdjehagamlaa
