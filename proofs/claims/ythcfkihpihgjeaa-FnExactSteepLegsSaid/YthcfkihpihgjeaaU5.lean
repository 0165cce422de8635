/- SteepLegs: the program. -/
import Derived.Test.YthcfkihpihgjeaaU4
import Derived.Test.YthcfkihpihgjeaaU2
import Derived.Test.YthcfkihpihgjeaaT23
import Derived.Test.YthcfkihpihgjeaaOwn
namespace Go.Proofs.Ythcfkihpihgjeaa
open Go.RowKit
set_option linter.unusedVariables false
set_option linter.unusedSimpArgs false

set_option maxRecDepth 100000 in
theorem isSteep_any (wd hg st : Int) (u : Value) (x : Lg) (w : World) (h1 : 1 ≤ st ∧ st ≤ 100) (hx : okLeg x = true) :
    Calls Try.prog 56 #[.agg #[.int .i64 wd, .int .i64 hg, u, .int .i64 st], .agg #[.int .i64 x.w, .int .i64 x.u, .int .i64 x.c]] w fun e w' => e = .returned (.bool (stp st x)) ∧ Below w.heap.size w w' := by
  simp only [okLeg, Bool.and_eq_true, inB_iff] at hx
  obtain ⟨⟨_, hu⟩, hc⟩ := hx
  have hm0 : 0 ≤ st * x.u := Int.mul_nonneg (by omega) (by omega)
  have hm1 : st * x.u ≤ 100 * 999 := Int.mul_le_mul h1.2 hu.2 (by omega) (by omega)
  have kn : IntKind.i64.wrap (-x.c) = -x.c := IntWalk.i64_in _ (by omega)
  have kw : IntKind.i64.wrap (st * x.u) = st * x.u := IntWalk.i64_in _ (by omega)
  obtain ⟨V, hV⟩ : ∃ V, V = (w.alloc (.cells #[.int .i64 wd, .int .i64 hg, u, .int .i64 st] 33)).alloc (.cells #[.int .i64 x.w, .int .i64 x.u, .int .i64 x.c] 65) := ⟨_, rfl⟩
  have HBV : Hid (Below w.heap.size w V) := hide (by rw [hV]; exact ((Below.refl _ w).alloc (Nat.le_refl _) _).alloc (by simp) _)
  have e3 : V.cell? ⟨w.heap.size, 3, none⟩ = some (.int .i64 st) := by rw [hV]; exact ((Blk.new w _ _).alloc _).cell 3
  have b1 : Blk V (w.heap.size + 1) 65 #[.int .i64 x.w, .int .i64 x.u, .int .i64 x.c] := by
    rw [hV]; exact (Blk.new (w.alloc (.cells #[.int .i64 wd, .int .i64 hg, u, .int .i64 st] 33)) _ _).cast_size (by simp)
  have e1 : V.cell? ⟨w.heap.size + 1, 1, none⟩ = some (.int .i64 x.u) := b1.cell 1
  have e2 : V.cell? ⟨w.heap.size + 1, 2, none⟩ = some (.int .i64 x.c) := b1.cell 2
  have HW := hide hV
  have HS : Hid (stp st x = decide (st * x.u < (x.c.natAbs : Int))) := hide rfl
  clear hV b1
  go_enter Try.func56, Try.ntmps56
  go_wp2_with fail
  rw [← HW.out]
  go_quiet ((go_at_call 45; exact quiet_left (abs_any _ (by omega) _)))
  go_wp2
  go_ret
  exact ⟨ret_bool HS.out.symm, below_drewN HBV.out _⟩

set_option maxRecDepth 100000 in
theorem SteepLegs_any (wd hg st : Int) (ao : Option Addr) (n c : Nat) (zs : List Ar4) (lo : Option Addr) (m d : Nat) (ls : List Lg) (w : World) (hz : zs.length = n) (hn : n ≤ 1048576) (hr : Rd encAr4 4 w.heap.size w ao zs) (hl : ls.length = m) (hm : m ≤ 1048576) (hlr : Rd encLg 3 w.heap.size w lo ls) :
    Calls Try.prog 20 #[.agg #[.int .i64 wd, .int .i64 hg, .slice ao n c, .int .i64 st], .slice lo m d] w fun e w' => ∃ v, e = .returned (.tuple #[v, .bool (okSt wd hg st zs ls)]) ∧ w'.ownsRow w.heap.size 3 1 v (stpV wd hg st zs ls).length ((stpV wd hg st zs ls).flatMap encI) ∧ Below w.heap.size w w' := by
  have HZ := hide hz
  have HLn := hide hl
  obtain ⟨V, hV⟩ : ∃ V, V = w.alloc (.cells #[.int .i64 wd, .int .i64 hg, .slice ao n c, .int .i64 st] 33) := ⟨_, rfl⟩
  have HBV : Hid (Below w.heap.size w V) := hide (by rw [hV]; exact (Below.refl _ _).alloc (Nat.le_refl _) _)
  have b0 : Blk V w.heap.size 33 #[.int .i64 wd, .int .i64 hg, .slice ao n c, .int .i64 st] := by rw [hV]; exact Blk.new w _ _
  have HX := hide b0
  have HR := hide (rd_step hr HBV.out)
  have HLR := hide (rd_step hlr HBV.out)
  have HLR0 := hide hlr
  have HW := hide hV
  have HLC := hide (IsLand_any wd hg st ao n c zs V hz hn HR.out)
  clear hV b0 hz hr hl hlr
  rcases first2 (landB wd hg st zs) (routeB ls) with h1 | ⟨h1, h2⟩ | ⟨h1, h2⟩
  · have HO : Hid (okSt wd hg st zs ls = false) := hide (by simp [okSt, *])
    have HC : Hid (stpV wd hg st zs ls = []) := hide (by unfold stpV; rw [HO.out]; rfl)
    go_enter Try.func20, Try.ntmps20
    go_wp2_with fail
    rw [← HW.out]
    refine HLC.out.mono ?_
    rintro e w1 ⟨rfl, hb⟩
    rw [h1]
    have HB := hide (bl_step HBV.out hb)
    have HX := hide (HX.out.below' hb)
    have HLR := hide (rd_step HLR.out hb)
    clear hb HLC
    go_wp2
    go_ret2
    exact ⟨_, ret_vb HO.out.symm, by rw [HC.out]; exact World.ownsRow_nil _ _ _ _, HB.out⟩
  · have HO : Hid (okSt wd hg st zs ls = false) := hide (by simp [okSt, *])
    have HC : Hid (stpV wd hg st zs ls = []) := hide (by unfold stpV; rw [HO.out]; rfl)
    go_enter Try.func20, Try.ntmps20
    go_wp2_with fail
    rw [← HW.out]
    refine HLC.out.mono ?_
    rintro e w1 ⟨rfl, hb⟩
    rw [h1]
    have HB := hide (bl_step HBV.out hb)
    have HX := hide (HX.out.below' hb)
    have HLR := hide (rd_step HLR.out hb)
    clear hb HLC
    go_wp2_with fail
    refine (IsRoute_any lo m d ls _ HLn.out hm HLR.out).mono ?_
    rintro e w2 ⟨rfl, hb⟩
    rw [h2]
    have HB := hide (bl_step HB.out hb)
    have HX := hide (HX.out.below' hb)
    have HLR := hide (rd_step HLR.out hb)
    clear hb
    go_wp2
    go_ret2
    exact ⟨_, ret_vb HO.out.symm, by rw [HC.out]; exact World.ownsRow_nil _ _ _ _, HB.out⟩
  · have HO : Hid (okSt wd hg st zs ls = true) := hide (by simp [okSt, *])
    have HC : Hid (stpV wd hg st zs ls = stpL (stpP st ls) ls.length) := hide (by unfold stpV; rw [HO.out]; rfl)
    have hst := land_st h1
    have HRT := hide h2
    go_enter Try.func20, Try.ntmps20
    go_wp2_with fail
    rw [← HW.out]
    refine HLC.out.mono ?_
    rintro e w1 ⟨rfl, hb⟩
    rw [h1]
    have HB := hide (bl_step HBV.out hb)
    have HX := hide (HX.out.below' hb)
    have HLR := hide (rd_step HLR.out hb)
    clear hb HLC
    go_wp2_with fail
    refine (IsRoute_any lo m d ls _ HLn.out hm HLR.out).mono ?_
    rintro e w2 ⟨rfl, hb⟩
    rw [h2]
    have HB := hide (bl_step HB.out hb)
    have HX := hide (HX.out.below' hb)
    have HLR := hide (rd_step HLR.out hb)
    clear hb
    obtain ⟨i0, hi, hz0, hz1, hz2⟩ := info_parts infoI
    have HI := hide (And.intro hi (And.intro hz0 (And.intro hz1 hz2)))
    clear hi hz0 hz1 hz2
    go_wp2_with fail
    go_loopg [6, 19] m (fun gk v i wr => ∃ k : Nat, k ≤ m ∧ m - k ≤ gk ∧ i = .int .i64 k ∧ Aside (wr.ownsRow (w.heap.size + 1) 3 1 v (stpL (stpP st ls) k).length ((stpL (stpP st ls) k).flatMap encI)) ∧ Aside (Below w.heap.size w wr) ∧ Aside (Blk wr w.heap.size 33 #[.int .i64 wd, .int .i64 hg, .slice ao n c, .int .i64 st]))
    case atStart => exact ⟨0, Nat.zero_le _, by omega, rfl, World.ownsRow_nil _ _ _ _, HB.out, HX.out⟩
    case round =>
      obtain ⟨k, hk, hgk, rfl, OW, BW, BV⟩ := hrel
      by_cases hlt : k < m
      · have hltz : (k : Int) < (m : Int) := by omega
        have hk0 : (0 : Int) ≤ (k : Int) := by omega
        have HXr := hide BV.out
        have hgw := HXr.out.lt
        obtain ⟨b, off, rfl, hb1, hat⟩ := rdLg (rd_step HLR0.out BW.out) (by rw [HLn.out]; omega)
        obtain ⟨x, hx, hxc⟩ := hat k (by rw [HLn.out]; exact hlt)
        have HXX := hide (getB hx)
        have HOK := hide (route_at HRT.out hx)
        obtain ⟨hbr, c0, c1, c2⟩ := hxc wr (Below.refl _ _)
        clear hx hxc hat
        have e0 := HXr.out.cell 0
        have e1 := HXr.out.cell 1
        have e2 := HXr.out.cell 2
        have e3 := HXr.out.cell 3
        simp only [List.getElem?_toArray, List.getElem?_cons_zero, List.getElem?_cons_succ] at e0 e1 e2 e3
        have HBn := hide (BW.out.alloc BW.out.size (.cells #[.int .i64 x.w, .int .i64 x.u, .int .i64 x.c] 65))
        have HVn := hide (BV.out.alloc (.cells #[.int .i64 x.w, .int .i64 x.u, .int .i64 x.c] 65))
        have HOn := hide (OW.out.alloc (.cells #[.int .i64 x.w, .int .i64 x.u, .int .i64 x.c] 65))
        go_wp2_with fail
        refine (isSteep_any wd hg st _ x _ hst HOK.out).mono ?_
        rintro e w3 ⟨rfl, hb⟩
        have HB2 := hide (bl_step HBn.out hb)
        have HV2 := hide (HVn.out.below' hb)
        have HO2 := hide (own_step HOn.out hb)
        clear hb HBn HVn HOn e0 e1 e2 e3
        cases hq : stp st x with
        | true =>
          have HQ : Hid (stpP st ls k = true) := hide (by unfold stpP; rw [HXX.out]; exact hq)
          have hsz := HB2.out.size
          have hgl := stpL_len (p := stpP st ls) (k := k)
          generalize hl : (stpL (stpP st ls) k).length = L at hgl
          have HL := hide hl
          rw [hl] at HO2
          clear hl
          obtain ⟨hi, hz0, hz1, hz2⟩ := HI.out
          go_wp2_with (at_builtin; refine wpList_append_own _ rfl _ _ 39 rfl (w.heap.size + 1) 3 i0 (.int .i64 0) 1 8 Try.underlying39 hi hz0 hz1 hz2 rfl (by decide) _ L _ rfl (HO2.out.alloc _) ⟨w3.heap.size, 0, none⟩ 1 1 [.int .i64 (k : Int)] rfl rfl ?c1 ?c2 ?c3 ?c4 ?c5 ?_)
          case c1 => exact news_at #[.int .i64 (k : Int)]
          case c2 => intro u hu; simp at hu; subst hu; rfl
          case c3 => unfold maxLen; omega
          case c4 => omega
          case c5 => simp; omega
          intro v' w4 hown' hgrow _
          have HB3 := hide (bl_grown (HB2.out.alloc hsz _) (HO2.out.alloc _) (Nat.le_succ _) hgrow)
          have HV3 := hide ((HV2.out.alloc (.cells #[.int .i64 (k : Int)] 3)).grown hgrow (fun e => by have := ((HO2.out.alloc (.cells #[.int .i64 (k : Int)] 3)).lt w.heap.size e.symm).1; omega))
          have HO3 := hide hown'
          clear hown' hgrow hi hz0 hz1 hz2
          go_wp2
          go_roundg (m - (k + 1))
          case measure => omega
          case rel => exact ⟨k + 1, by omega, by omega, by go_num, by rw [stpL_yes HQ.out, flat_snoc, List.length_append, HL.out]; exact HO3.out, HB3.out, HV3.out⟩
        | false =>
          have HQ : Hid (stpP st ls k = false) := hide (by unfold stpP; rw [HXX.out]; exact hq)
          go_wp2
          go_roundg (m - (k + 1))
          case measure => omega
          case rel => exact ⟨k + 1, by omega, by omega, by go_num, by rw [stpL_no HQ.out]; exact HO2.out, HB2.out, HV2.out⟩
      · have hltz : ¬ (k : Int) < (m : Int) := by omega
        obtain rfl : k = m := by omega
        go_wp2
        go_ret2
        exact ⟨_, ret_vb HO.out.symm, by rw [HC.out, HLn.out]; exact own_baseS OW.out, BW.out⟩

end Go.Proofs.Ythcfkihpihgjeaa
