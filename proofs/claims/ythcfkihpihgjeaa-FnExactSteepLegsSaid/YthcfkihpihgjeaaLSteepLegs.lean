/- The law FnExactSteepLegs walked. -/
import Derived.Test.YthcfkihpihgjeaaU5
import Derived.Test.YthcfkihpihgjeaaU6
import Derived.Test.YthcfkihpihgjeaaU7
import Derived.Deep.RegionWith
namespace Go.Proofs.Ythcfkihpihgjeaa
open Go.RowKit
set_option linter.unusedVariables false
set_option linter.unusedSimpArgs false
set_option maxHeartbeats 2000000

theorem held_skip {P : Program} {md : Region.Mode} {ops : Array Oper} {Q : Exit → Act → World → Prop} {S : World → Prop} (i : Nat) (d : Tmp) {oi : Oper} {fuel : Nat} {listed : Array Bool} {a : Act} {w : World} (hi : ops[i]? = some oi)
    (hs : Region.noSelect ops = true) (hf : Region.free md ops listed i = true) (hr : (Region.ready md ops listed).contains i = true) (hd : oi.dst = some d) (hQ : ∀ c a w, Q (.panic c) (a.put (some d) undef) w → Q (.panic c) a w)
    (hw : Region.wanted oi (yielded ops a.tmps) = false) (hS : S w) (h : wpAnyH P md ops Q S fuel (listed.setIfInBounds i true) (a.put (some d) undef) w) : wpAnyH P md ops Q S (fuel + 1) listed a w :=
  wpAnyH_take hi hs hf hr (by rw [hd]; exact hQ) (Or.inr ⟨hw, rfl⟩) hS (by rw [hd]; exact h)
theorem held_take {P : Program} {md : Region.Mode} {ops : Array Oper} {Q : Exit → Act → World → Prop} {S : World → Prop} (i : Nat) (d : Tmp) {oi : Oper} (v : Value) {fuel : Nat} {listed : Array Bool} {a : Act} {w : World} (hi : ops[i]? = some oi)
    (hs : Region.noSelect ops = true) (hf : Region.free md ops listed i = true) (hr : (Region.ready md ops listed).contains i = true) (hd : oi.dst = some d) (hQ : ∀ c a w, Q (.panic c) (a.put (some d) v) w → Q (.panic c) a w)
    (hw : Region.wanted oi (yielded ops a.tmps) = true) (hy : ∀ w, S w → (execOp a.eval oi).run P w = .ok (.value v) w) (hS : S w) (h : wpAnyH P md ops Q S fuel (listed.setIfInBounds i true) (a.put (some d) v) w) : wpAnyH P md ops Q S (fuel + 1) listed a w :=
  wpAnyH_take hi hs hf hr (by rw [hd]; exact hQ) (Or.inl ⟨hw, hy⟩) hS (by rw [hd]; exact h)
set_option maxRecDepth 100000 in
theorem law_FnExactSteepLegs (wd hg st : Int) (ao : Option Addr) (n c : Nat) (zs : List Ar4) (a1 : Option Addr) (n1 c1 : Nat) (z1 : List Lg) (w0 : World) (hz : zs.length = n) (hn : n ≤ 9223372036854775807) (hr : Rd encAr4 4 w0.heap.size w0 ao zs) (hz1 : z1.length = n1) (hn1 : n1 ≤ 9223372036854775807) (hr1 : Rd encLg 3 w0.heap.size w0 a1 z1) :
    Calls Try.prog 5 #[.agg #[.int .i64 wd, .int .i64 hg, .slice ao n c, .int .i64 st], .slice a1 n1 c1] w0 fun e w' => e = .returned (.bool true) ∧ Below w0.heap.size w0 w' := by
  obtain ⟨w, hw⟩ : ∃ w, w = w0.alloc (.cells #[.int .i64 wd, .int .i64 hg, .slice ao n c, .int .i64 st] 30) := ⟨_, rfl⟩
  have HBV : Hid (Below w0.heap.size w0 w) := hide (by rw [hw]; exact (Below.refl _ _).alloc (Nat.le_refl _) _)
  have gB : w0.heap.size < w.heap.size := by rw [hw]; simp
  have B0 := hide (show w.cell? ⟨w0.heap.size, 0, none⟩ = some (.int .i64 wd) from by rw [hw]; simp)
  have B1 := hide (show w.cell? ⟨w0.heap.size, 1, none⟩ = some (.int .i64 hg) from by rw [hw]; simp)
  have B2 := hide (show w.cell? ⟨w0.heap.size, 2, none⟩ = some (.slice ao n c) from by rw [hw]; simp)
  have B3 := hide (show w.cell? ⟨w0.heap.size, 3, none⟩ = some (.int .i64 st) from by rw [hw]; simp)
  have HW := hide hw
  have HR0 := hide (rd_step hr HBV.out)
  have HR1 := hide (rd_step hr1 HBV.out)
  have HZ0 := hide hz
  have HZ1 := hide hz1
  clear hw hr hr1 hz hz1
  have HB := hide (Below.refl w.heap.size w)
  by_cases b0 : (1048576 : Int) < n
  · have E0 := hide (szV_big b0)
    go_enter Try.func5, Try.ntmps5
    have l0 := (HB.out.cell (p := ⟨w0.heap.size, 0, none⟩) gB).trans B0.out
    have l1 := (HB.out.cell (p := ⟨w0.heap.size, 1, none⟩) gB).trans B1.out
    have l2 := (HB.out.cell (p := ⟨w0.heap.size, 2, none⟩) gB).trans B2.out
    have l3 := (HB.out.cell (p := ⟨w0.heap.size, 3, none⟩) gB).trans B3.out
    go_wp2_with fail
    rw [← HW.out]
    refine (szLand_any wd hg st ao n c zs 1048576 _ hn (by omega) (by omega)).mono ?_
    rintro e w1 ⟨rfl, hb⟩
    have S1 := hide hb.size
    have HB := hide (bl_step HB.out hb)
    have Z1 := hide HB.out.size
    clear l0 l1 l2 l3
    clear hb
    rw [E0.out]
    go_wp2
    go_ret
    exact ⟨rfl, HBV.out.trans (HB.out.mono HBV.out.size)⟩
  have E0 := hide (szV_ok b0)
  have q0 : n ≤ 1048576 := by omega
  have p0 : ¬ (1048576 : Int) - n < 0 := by omega
  by_cases b1 : (1048576 : Int) - n < n1
  · have E1 := hide (szV_big b1)
    go_enter Try.func5, Try.ntmps5
    have l0 := (HB.out.cell (p := ⟨w0.heap.size, 0, none⟩) gB).trans B0.out
    have l1 := (HB.out.cell (p := ⟨w0.heap.size, 1, none⟩) gB).trans B1.out
    have l2 := (HB.out.cell (p := ⟨w0.heap.size, 2, none⟩) gB).trans B2.out
    have l3 := (HB.out.cell (p := ⟨w0.heap.size, 3, none⟩) gB).trans B3.out
    go_wp2_with fail
    rw [← HW.out]
    refine (szLand_any wd hg st ao n c zs 1048576 _ hn (by omega) (by omega)).mono ?_
    rintro e w1 ⟨rfl, hb⟩
    have S1 := hide hb.size
    have HB := hide (bl_step HB.out hb)
    have Z1 := hide HB.out.size
    clear l0 l1 l2 l3
    clear hb
    rw [E0.out]
    go_wp2_with fail
    refine (szLegS_any _ _ _ _ _ hn1 (by omega) (by omega)).mono ?_
    rintro e w' ⟨rfl, rfl⟩
    rw [E1.out]
    go_wp2
    go_ret
    exact ⟨rfl, HBV.out.trans (HB.out.mono HBV.out.size)⟩
  have E1 := hide (szV_ok b1)
  have q1 : n1 ≤ 1048576 := by omega
  have p1 : ¬ (1048576 : Int) - n - n1 < 0 := by omega
  obtain ⟨N, hN⟩ : ∃ N, N = (stpV wd hg st zs z1).length := ⟨_, rfl⟩
  have hNb : N ≤ 1048576 := by rw [hN]; exact Nat.le_trans stpV_len (by rw [HZ1.out]; exact q1)
  have HN := hide hN
  clear hN
  go_enter Try.func5, Try.ntmps5
  have l0 := (HB.out.cell (p := ⟨w0.heap.size, 0, none⟩) gB).trans B0.out
  have l1 := (HB.out.cell (p := ⟨w0.heap.size, 1, none⟩) gB).trans B1.out
  have l2 := (HB.out.cell (p := ⟨w0.heap.size, 2, none⟩) gB).trans B2.out
  have l3 := (HB.out.cell (p := ⟨w0.heap.size, 3, none⟩) gB).trans B3.out
  go_wp2_with fail
  rw [← HW.out]
  refine (szLand_any wd hg st ao n c zs 1048576 _ hn (by omega) (by omega)).mono ?_
  rintro e w1 ⟨rfl, hb⟩
  have S1 := hide hb.size
  have HB := hide (bl_step HB.out hb)
  have Z1 := hide HB.out.size
  clear l0 l1 l2 l3
  clear hb
  rw [E0.out]
  go_wp2_with fail
  refine (szLegS_any _ _ _ _ _ hn1 (by omega) (by omega)).mono ?_
  rintro e w' ⟨rfl, rfl⟩
  rw [E1.out]
  have l0 := (HB.out.cell (p := ⟨w0.heap.size, 0, none⟩) gB).trans B0.out
  have l1 := (HB.out.cell (p := ⟨w0.heap.size, 1, none⟩) gB).trans B1.out
  have l2 := (HB.out.cell (p := ⟨w0.heap.size, 2, none⟩) gB).trans B2.out
  have l3 := (HB.out.cell (p := ⟨w0.heap.size, 3, none⟩) gB).trans B3.out
  go_wp2_with fail
  refine (toLandO_any wd hg st ao n c zs _ HZ0.out q0 (rd_at0 HR0.out HB.out)).mono ?_
  rintro e w2 ⟨gA, rfl, ho, hb⟩
  have S2 := hide hb.size
  have HB := hide (bl_step HB.out hb)
  have Z2 := hide HB.out.size
  clear l0 l1 l2 l3
  clear hb
  have OA := hide ho
  have LA := hide (own_lt ho)
  clear ho
  have l0 := (HB.out.cell (p := ⟨w0.heap.size, 0, none⟩) gB).trans B0.out
  have l1 := (HB.out.cell (p := ⟨w0.heap.size, 1, none⟩) gB).trans B1.out
  have l2 := (HB.out.cell (p := ⟨w0.heap.size, 2, none⟩) gB).trans B2.out
  have l3 := (HB.out.cell (p := ⟨w0.heap.size, 3, none⟩) gB).trans B3.out
  go_wp2_with fail
  refine (toLegS_any _ _ _ z1 _ HZ1.out q1 (rd_at0 HR1.out HB.out)).mono ?_
  rintro e w3 ⟨rfl, ho, hr, hb⟩
  have OA := hide (own_step OA.out hb)
  have S3 := hide hb.size
  have HB := hide (bl_step HB.out hb)
  have Z3 := hide HB.out.size
  clear l0 l1 l2 l3
  clear hb
  have OR := hide ho
  have LR := hide (own_lt ho)
  clear ho hr
  have l0 := (HB.out.cell (p := ⟨w0.heap.size, 0, none⟩) gB).trans B0.out
  have l1 := (HB.out.cell (p := ⟨w0.heap.size, 1, none⟩) gB).trans B1.out
  have l2 := (HB.out.cell (p := ⟨w0.heap.size, 2, none⟩) gB).trans B2.out
  have l3 := (HB.out.cell (p := ⟨w0.heap.size, 3, none⟩) gB).trans B3.out
  go_wp2_with fail
  refine (sSteepLegs_any wd hg st _ n n zs _ n1 n1 z1 _ HZ0.out q0 (own_rd' encAr4_len OA.out HZ0.out) HZ1.out q1 (own_rd' encLg_len OR.out HZ1.out)).mono ?_
  rintro e w4 ⟨u, rfl, ho, hb⟩
  have OA := hide (own_step OA.out hb)
  have OR := hide (own_step OR.out hb)
  have S4 := hide hb.size
  have HB := hide (bl_step HB.out hb)
  have Z4 := hide HB.out.size
  clear l0 l1 l2 l3
  clear hb
  rw [← HN.out] at ho
  have OU := hide ho
  have LU := hide (own_lt ho)
  clear ho
  clear OA LA
  clear OR LR
  have l0 := (HB.out.cell (p := ⟨w0.heap.size, 0, none⟩) gB).trans B0.out
  have l1 := (HB.out.cell (p := ⟨w0.heap.size, 1, none⟩) gB).trans B1.out
  have l2 := (HB.out.cell (p := ⟨w0.heap.size, 2, none⟩) gB).trans B2.out
  have l3 := (HB.out.cell (p := ⟨w0.heap.size, 3, none⟩) gB).trans B3.out
  go_wp2_with fail
  refine (toLandO_any wd hg st ao n c zs _ HZ0.out q0 (rd_at0 HR0.out HB.out)).mono ?_
  rintro e w5 ⟨gA, rfl, ho, hb⟩
  have OU := hide (own_step OU.out hb)
  have S5 := hide hb.size
  have HB := hide (bl_step HB.out hb)
  have Z5 := hide HB.out.size
  clear l0 l1 l2 l3
  clear hb
  have OA := hide ho
  have LA := hide (own_lt ho)
  clear ho
  obtain ⟨W, hW⟩ : ∃ W, W = w5.alloc (.cells #[.int .i64 wd, .int .i64 hg, .slice (some ⟨gA, 0, none⟩) n n, .int .i64 st] 33) := ⟨_, rfl⟩
  obtain ⟨X, hX⟩ : ∃ X, X = w5.heap.size := ⟨_, rfl⟩
  have x0 := hide (show W.cell? ⟨X, 0, none⟩ = some (.int .i64 wd) from by rw [hW, hX]; simp)
  have x1 := hide (show W.cell? ⟨X, 1, none⟩ = some (.int .i64 hg) from by rw [hW, hX]; simp)
  have x2 := hide (show W.cell? ⟨X, 2, none⟩ = some (.slice (some ⟨gA, 0, none⟩) n n) from by rw [hW, hX]; simp)
  have x3 := hide (show W.cell? ⟨X, 3, none⟩ = some (.int .i64 st) from by rw [hW, hX]; simp)
  have gx : X < W.heap.size := by rw [hW, hX]; simp
  have hb : Below w5.heap.size w5 W := by rw [hW]; exact (Below.refl _ _).alloc (Nat.le_refl _) _
  have HWX := hide hW
  have HX := hide hX
  clear hW hX
  have OU := hide (own_step OU.out hb)
  have OA := hide (own_step OA.out hb)
  have S6 := hide hb.size
  have HB := hide (bl_step HB.out hb)
  have Z6 := hide HB.out.size
  clear hb
  have l0 := (HB.out.cell (p := ⟨w0.heap.size, 0, none⟩) gB).trans B0.out
  have l1 := (HB.out.cell (p := ⟨w0.heap.size, 1, none⟩) gB).trans B1.out
  have l2 := (HB.out.cell (p := ⟨w0.heap.size, 2, none⟩) gB).trans B2.out
  have l3 := (HB.out.cell (p := ⟨w0.heap.size, 3, none⟩) gB).trans B3.out
  have y0 := x0.out
  have y1 := x1.out
  have y2 := x2.out
  have y3 := x3.out
  go_wp2_with fail
  try rw [← HWX.out]
  try rw [← HX.out]
  refine (toLegS_any _ _ _ z1 _ HZ1.out q1 (rd_at0 HR1.out HB.out)).mono ?_
  rintro e w7 ⟨rfl, ho, hr, hb⟩
  have OU := hide (own_step OU.out hb)
  have OA := hide (own_step OA.out hb)
  have x0 := hide ((hb.cell (p := ⟨X, 0, none⟩) gx).trans x0.out)
  have x1 := hide ((hb.cell (p := ⟨X, 1, none⟩) gx).trans x1.out)
  have x2 := hide ((hb.cell (p := ⟨X, 2, none⟩) gx).trans x2.out)
  have x3 := hide ((hb.cell (p := ⟨X, 3, none⟩) gx).trans x3.out)
  have gx := Nat.lt_of_lt_of_le gx hb.size
  have S7 := hide hb.size
  have HB := hide (bl_step HB.out hb)
  have Z7 := hide HB.out.size
  clear l0 l1 l2 l3 y0 y1 y2 y3
  clear hb
  have OR := hide ho
  have LR := hide (own_lt ho)
  clear ho hr
  have l0 := (HB.out.cell (p := ⟨w0.heap.size, 0, none⟩) gB).trans B0.out
  have l1 := (HB.out.cell (p := ⟨w0.heap.size, 1, none⟩) gB).trans B1.out
  have l2 := (HB.out.cell (p := ⟨w0.heap.size, 2, none⟩) gB).trans B2.out
  have l3 := (HB.out.cell (p := ⟨w0.heap.size, 3, none⟩) gB).trans B3.out
  have y0 := x0.out
  have y1 := x1.out
  have y2 := x2.out
  have y3 := x3.out
  go_wp2_with fail
  refine (SteepLegs_any wd hg st _ n n zs _ n1 n1 z1 _ HZ0.out q0 (own_rd' encAr4_len OA.out HZ0.out) HZ1.out q1 (own_rd' encLg_len OR.out HZ1.out)).mono ?_
  rintro e w8 ⟨v, rfl, ho, hb⟩
  have OU := hide (own_step OU.out hb)
  have OA := hide (own_step OA.out hb)
  have OR := hide (own_step OR.out hb)
  have x0 := hide ((hb.cell (p := ⟨X, 0, none⟩) gx).trans x0.out)
  have x1 := hide ((hb.cell (p := ⟨X, 1, none⟩) gx).trans x1.out)
  have x2 := hide ((hb.cell (p := ⟨X, 2, none⟩) gx).trans x2.out)
  have x3 := hide ((hb.cell (p := ⟨X, 3, none⟩) gx).trans x3.out)
  have gx := Nat.lt_of_lt_of_le gx hb.size
  have S8 := hide hb.size
  have HB := hide (bl_step HB.out hb)
  have Z8 := hide HB.out.size
  clear l0 l1 l2 l3 y0 y1 y2 y3
  clear hb
  rw [← HN.out] at ho
  have OV := hide ho
  have LV := hide (own_lt ho)
  clear ho
  have l0 := (HB.out.cell (p := ⟨w0.heap.size, 0, none⟩) gB).trans B0.out
  have l1 := (HB.out.cell (p := ⟨w0.heap.size, 1, none⟩) gB).trans B1.out
  have l2 := (HB.out.cell (p := ⟨w0.heap.size, 2, none⟩) gB).trans B2.out
  have l3 := (HB.out.cell (p := ⟨w0.heap.size, 3, none⟩) gB).trans B3.out
  have y0 := x0.out
  have y1 := x1.out
  have y2 := x2.out
  have y3 := x3.out
  go_wp2_with fail
  refine (eqIntS_own _ _ N (stpV wd hg st zs z1) _ OV.out OU.out HN.out.symm hNb).mono ?_
  rintro e w9 ⟨rfl, hb⟩
  have OU := hide (own_step OU.out hb)
  have OA := hide (own_step OA.out hb)
  have OR := hide (own_step OR.out hb)
  have OV := hide (own_step OV.out hb)
  have x0 := hide ((hb.cell (p := ⟨X, 0, none⟩) gx).trans x0.out)
  have x1 := hide ((hb.cell (p := ⟨X, 1, none⟩) gx).trans x1.out)
  have x2 := hide ((hb.cell (p := ⟨X, 2, none⟩) gx).trans x2.out)
  have x3 := hide ((hb.cell (p := ⟨X, 3, none⟩) gx).trans x3.out)
  have gx := Nat.lt_of_lt_of_le gx hb.size
  have S9 := hide hb.size
  have HB := hide (bl_step HB.out hb)
  have Z9 := hide HB.out.size
  clear l0 l1 l2 l3 y0 y1 y2 y3
  clear hb
  have l0 := (HB.out.cell (p := ⟨w0.heap.size, 0, none⟩) gB).trans B0.out
  have l1 := (HB.out.cell (p := ⟨w0.heap.size, 1, none⟩) gB).trans B1.out
  have l2 := (HB.out.cell (p := ⟨w0.heap.size, 2, none⟩) gB).trans B2.out
  have l3 := (HB.out.cell (p := ⟨w0.heap.size, 3, none⟩) gB).trans B3.out
  have y0 := x0.out
  have y1 := x1.out
  have y2 := x2.out
  have y3 := x3.out
  have gw : w0.heap.size < w9.heap.size := Nat.lt_of_lt_of_le gB HB.out.size
  have HR0k := hide (rd_at0 HR0.out HB.out)
  have HAk := hide (own_rd' encAr4_len OA.out HZ0.out)
  go_wp2_with fail
  refine wp_region_held_drew (S := (fun w' => w'.cell? ⟨w0.heap.size, 0, none⟩ = some (.int .i64 wd) ∧ w'.cell? ⟨w0.heap.size, 1, none⟩ = some (.int .i64 hg) ∧ w'.cell? ⟨w0.heap.size, 2, none⟩ = some (.slice ao n c) ∧ w'.cell? ⟨w0.heap.size, 3, none⟩ = some (.int .i64 st) ∧ w'.cell? ⟨X, 0, none⟩ = some (.int .i64 wd) ∧ w'.cell? ⟨X, 1, none⟩ = some (.int .i64 hg) ∧ w'.cell? ⟨X, 2, none⟩ = some (.slice (some ⟨gA, 0, none⟩) n n) ∧ w'.cell? ⟨X, 3, none⟩ = some (.int .i64 st) ∧ Below w9.heap.size w9 w')) (by kernel_rfl) ⟨((show Below w9.heap.size w9 w9.drew from (Below.refl _ _).drew).cell (p := ⟨w0.heap.size, 0, none⟩) gw).trans l0, ((show Below w9.heap.size w9 w9.drew from (Below.refl _ _).drew).cell (p := ⟨w0.heap.size, 1, none⟩) gw).trans l1, ((show Below w9.heap.size w9 w9.drew from (Below.refl _ _).drew).cell (p := ⟨w0.heap.size, 2, none⟩) gw).trans l2, ((show Below w9.heap.size w9 w9.drew from (Below.refl _ _).drew).cell (p := ⟨w0.heap.size, 3, none⟩) gw).trans l3, ((show Below w9.heap.size w9 w9.drew from (Below.refl _ _).drew).cell (p := ⟨X, 0, none⟩) gx).trans y0, ((show Below w9.heap.size w9 w9.drew from (Below.refl _ _).drew).cell (p := ⟨X, 1, none⟩) gx).trans y1, ((show Below w9.heap.size w9 w9.drew from (Below.refl _ _).drew).cell (p := ⟨X, 2, none⟩) gx).trans y2, ((show Below w9.heap.size w9 w9.drew from (Below.refl _ _).drew).cell (p := ⟨X, 3, none⟩) gx).trans y3, (show Below w9.heap.size w9 w9.drew from (Below.refl _ _).drew)⟩ (fun hHeld => ?_)
  refine held_take 0 54 ?vv1 rfl (by kernel_rfl) (by kernel_rfl) (by kernel_rfl) rfl (fun _ _ _ h => h) (by rfl) ?hy1 (by assumption) ?rest1
  case hy1 => (intro w hSw; (try dsimp only at hSw); go_simp; try with_reducible rfl)
  try simp only [Act.put, List.setIfInBounds_toArray, List.set_cons_zero, List.set_cons_succ]
  refine held_take 1 55 ?vv2 rfl (by kernel_rfl) (by kernel_rfl) (by kernel_rfl) rfl (fun _ _ _ h => h) (by rfl) ?hy2 (by assumption) ?rest2
  case hy2 => (intro w hSw; (try dsimp only at hSw); go_simp; try with_reducible rfl)
  try simp only [Act.put, List.setIfInBounds_toArray, List.set_cons_zero, List.set_cons_succ]
  refine wpAnyH_ready (rs := [2]) (by kernel_rfl) (by simp) ?_
  refine AllReadyH.cons rfl (fun K hK => ?_) AllReadyH.nil
  go_simp
  refine (toLandO_any wd hg st ao n c zs _ HZ0.out q0 (rd_step HR0k.out (Below.refl _ w9).drew)).mono ?_
  rintro e v6 ⟨g3, rfl, ho, hb⟩
  go_wp2_with fail
  have hq : Below w9.heap.size w9 v6 := (Below.refl _ w9).drew.trans hb
  have HS2 := hide (rd_step HAk.out hq)
  have HR2 := hide (own_rd' encAr4_len ho HZ0.out)
  clear ho hb
  refine hK.out _ _ ⟨(hq.cell (p := ⟨w0.heap.size, 0, none⟩) gw).trans l0, (hq.cell (p := ⟨w0.heap.size, 1, none⟩) gw).trans l1, (hq.cell (p := ⟨w0.heap.size, 2, none⟩) gw).trans l2, (hq.cell (p := ⟨w0.heap.size, 3, none⟩) gw).trans l3, (hq.cell (p := ⟨X, 0, none⟩) gx).trans y0, (hq.cell (p := ⟨X, 1, none⟩) gx).trans y1, (hq.cell (p := ⟨X, 2, none⟩) gx).trans y2, (hq.cell (p := ⟨X, 3, none⟩) gx).trans y3, hq⟩ (fun hHeld => ?_)
  clear hK K
  try simp only [Act.put, List.setIfInBounds_toArray, List.set_cons_zero, List.set_cons_succ]
  refine wpAnyH_ready (rs := [3]) (by kernel_rfl) (by simp) ?_
  refine AllReadyH.cons rfl (fun K hK => ?_) AllReadyH.nil
  go_simp
  refine (eqLand_same wd hg st _ _ n n n zs _ HZ0.out q0 HS2.out HR2.out).mono ?_
  rintro e w10 ⟨rfl, hb⟩
  go_wp2_with fail
  have hq2 : Below w9.heap.size w9 w10 := bl_step hq hb
  clear hb
  refine hK.out _ _ ⟨(hq2.cell (p := ⟨w0.heap.size, 0, none⟩) gw).trans l0, (hq2.cell (p := ⟨w0.heap.size, 1, none⟩) gw).trans l1, (hq2.cell (p := ⟨w0.heap.size, 2, none⟩) gw).trans l2, (hq2.cell (p := ⟨w0.heap.size, 3, none⟩) gw).trans l3, (hq2.cell (p := ⟨X, 0, none⟩) gx).trans y0, (hq2.cell (p := ⟨X, 1, none⟩) gx).trans y1, (hq2.cell (p := ⟨X, 2, none⟩) gx).trans y2, (hq2.cell (p := ⟨X, 3, none⟩) gx).trans y3, hq2⟩ (fun hHeld => ?_)
  clear hK K
  try simp only [Act.put, List.setIfInBounds_toArray, List.set_cons_zero, List.set_cons_succ]
  refine held_take 4 58 ?vv3 rfl (by kernel_rfl) (by kernel_rfl) (by kernel_rfl) rfl (fun _ _ _ h => h) (by rfl) ?hy3 (by assumption) ?rest3
  case hy3 => (intro w hSw; (try dsimp only at hSw); go_simp; try with_reducible rfl)
  try simp only [Act.put, List.setIfInBounds_toArray, List.set_cons_zero, List.set_cons_succ]
  refine wpAnyH_done (by kernel_rfl) ?_ _
  clear hHeld hq HS2 HR2 HAk HR0k gw
  have hb := hq2
  clear hq2
  have OU := hide (own_step OU.out hb)
  have OA := hide (own_step OA.out hb)
  have OR := hide (own_step OR.out hb)
  have OV := hide (own_step OV.out hb)
  have x0 := hide ((hb.cell (p := ⟨X, 0, none⟩) gx).trans x0.out)
  have x1 := hide ((hb.cell (p := ⟨X, 1, none⟩) gx).trans x1.out)
  have x2 := hide ((hb.cell (p := ⟨X, 2, none⟩) gx).trans x2.out)
  have x3 := hide ((hb.cell (p := ⟨X, 3, none⟩) gx).trans x3.out)
  have gx := Nat.lt_of_lt_of_le gx hb.size
  have S10 := hide hb.size
  have HB := hide (bl_step HB.out hb)
  have Z10 := hide HB.out.size
  clear l0 l1 l2 l3 y0 y1 y2 y3
  clear hb
  have l0 := (HB.out.cell (p := ⟨w0.heap.size, 0, none⟩) gB).trans B0.out
  have l1 := (HB.out.cell (p := ⟨w0.heap.size, 1, none⟩) gB).trans B1.out
  have l2 := (HB.out.cell (p := ⟨w0.heap.size, 2, none⟩) gB).trans B2.out
  have l3 := (HB.out.cell (p := ⟨w0.heap.size, 3, none⟩) gB).trans B3.out
  have y0 := x0.out
  have y1 := x1.out
  have y2 := x2.out
  have y3 := x3.out
  go_wp2_with fail
  refine (toLegS_any _ _ _ z1 _ HZ1.out q1 (rd_at0 HR1.out HB.out)).mono ?_
  rintro e w11 ⟨rfl, ho, hr, hb⟩
  have OU := hide (own_step OU.out hb)
  have OA := hide (own_step OA.out hb)
  have OR := hide (own_step OR.out hb)
  have OV := hide (own_step OV.out hb)
  have x0 := hide ((hb.cell (p := ⟨X, 0, none⟩) gx).trans x0.out)
  have x1 := hide ((hb.cell (p := ⟨X, 1, none⟩) gx).trans x1.out)
  have x2 := hide ((hb.cell (p := ⟨X, 2, none⟩) gx).trans x2.out)
  have x3 := hide ((hb.cell (p := ⟨X, 3, none⟩) gx).trans x3.out)
  have gx := Nat.lt_of_lt_of_le gx hb.size
  have S11 := hide hb.size
  have HB := hide (bl_step HB.out hb)
  have Z11 := hide HB.out.size
  clear l0 l1 l2 l3 y0 y1 y2 y3
  clear hb
  have OY := hide ho
  have LY := hide (own_lt ho)
  clear ho hr
  have l0 := (HB.out.cell (p := ⟨w0.heap.size, 0, none⟩) gB).trans B0.out
  have l1 := (HB.out.cell (p := ⟨w0.heap.size, 1, none⟩) gB).trans B1.out
  have l2 := (HB.out.cell (p := ⟨w0.heap.size, 2, none⟩) gB).trans B2.out
  have l3 := (HB.out.cell (p := ⟨w0.heap.size, 3, none⟩) gB).trans B3.out
  have y0 := x0.out
  have y1 := x1.out
  have y2 := x2.out
  have y3 := x3.out
  go_wp2_with fail
  refine (eqLegS_own _ _ n1 z1 _ OR.out OY.out HZ1.out q1).mono ?_
  rintro e w12 ⟨rfl, hb⟩
  have OU := hide (own_step OU.out hb)
  have OA := hide (own_step OA.out hb)
  have OR := hide (own_step OR.out hb)
  have OV := hide (own_step OV.out hb)
  have OY := hide (own_step OY.out hb)
  have x0 := hide ((hb.cell (p := ⟨X, 0, none⟩) gx).trans x0.out)
  have x1 := hide ((hb.cell (p := ⟨X, 1, none⟩) gx).trans x1.out)
  have x2 := hide ((hb.cell (p := ⟨X, 2, none⟩) gx).trans x2.out)
  have x3 := hide ((hb.cell (p := ⟨X, 3, none⟩) gx).trans x3.out)
  have gx := Nat.lt_of_lt_of_le gx hb.size
  have S12 := hide hb.size
  have HB := hide (bl_step HB.out hb)
  have Z12 := hide HB.out.size
  clear l0 l1 l2 l3 y0 y1 y2 y3
  clear hb
  clear OY LY
  have l0 := (HB.out.cell (p := ⟨w0.heap.size, 0, none⟩) gB).trans B0.out
  have l1 := (HB.out.cell (p := ⟨w0.heap.size, 1, none⟩) gB).trans B1.out
  have l2 := (HB.out.cell (p := ⟨w0.heap.size, 2, none⟩) gB).trans B2.out
  have l3 := (HB.out.cell (p := ⟨w0.heap.size, 3, none⟩) gB).trans B3.out
  have y0 := x0.out
  have y1 := x1.out
  have y2 := x2.out
  have y3 := x3.out
  go_wp2_with fail
  refine (markLand_own wd hg st _ n n zs _ _ OA.out HZ0.out q0 (by omega) (by omega)).mono ?_
  rintro e w13 ⟨rfl, V1, hb, hg⟩
  have OU := hide (own_only (own_step OU.out hb) hg (fun j i hj hi => by have a := LU.out j hj; have b := LA.out i hi; omega))
  have OR := hide (own_only (own_step OR.out hb) hg (fun j i hj hi => by have a := LR.out j hj; have b := LA.out i hi; have y6 := S6.out; omega))
  have OV := hide (own_only (own_step OV.out hb) hg (fun j i hj hi => by have a := LV.out j hj; have b := LA.out i hi; have y6 := S6.out; have y7 := S7.out; omega))
  have S13 := hide (Nat.le_trans hb.size hg.size)
  have HB := hide (bl_own (bl_step HB.out hb) hg (fun j hj => by have a := LA.out j hj; have y := Z4.out; omega))
  have Z13 := hide HB.out.size
  clear l0 l1 l2 l3 y0 y1 y2 y3
  clear hb hg x0 x1 x2 x3 gx HX HWX
  clear OA LA
  go_wp2_with fail
  refine (markLegS_own _ n1 (z1) _ _ OR.out HZ1.out q1 (by omega) (by omega)).mono ?_
  rintro e w14 ⟨rfl, hg, ho⟩
  have OU := hide (own_only OU.out hg (fun j i hj hi => by have a := LU.out j hj; have b := LR.out i hi; have y5 := S5.out; have y6 := S6.out; omega))
  have OV := hide (own_only OV.out hg (fun j i hj hi => by have a := LV.out j hj; have b := LR.out i hi; omega))
  have S14 := hide hg.size
  have HB := hide (bl_own HB.out hg (fun j hj => by have a := LR.out j hj; have y := Z6.out; omega))
  have Z14 := hide HB.out.size
  have OR := hide ho
  clear hg ho
  clear OR LR
  have l0 := (HB.out.cell (p := ⟨w0.heap.size, 0, none⟩) gB).trans B0.out
  have l1 := (HB.out.cell (p := ⟨w0.heap.size, 1, none⟩) gB).trans B1.out
  have l2 := (HB.out.cell (p := ⟨w0.heap.size, 2, none⟩) gB).trans B2.out
  have l3 := (HB.out.cell (p := ⟨w0.heap.size, 3, none⟩) gB).trans B3.out
  go_wp2_with fail
  refine (eqIntS_own _ _ N (stpV wd hg st zs z1) _ OV.out OU.out HN.out.symm hNb).mono ?_
  rintro e w15 ⟨rfl, hb⟩
  have OU := hide (own_step OU.out hb)
  have OV := hide (own_step OV.out hb)
  have S15 := hide hb.size
  have HB := hide (bl_step HB.out hb)
  have Z15 := hide HB.out.size
  clear l0 l1 l2 l3
  clear hb
  go_wp2_with fail
  refine (markIntS_own _ N (stpV wd hg st zs z1) _ _ OV.out HN.out.symm hNb (by omega) (by omega)).mono ?_
  rintro e w16 ⟨rfl, hg, ho⟩
  have OU := hide (own_only OU.out hg (fun j i hj hi => by have a := LU.out j hj; have b := LV.out i hi; have y5 := S5.out; have y6 := S6.out; have y7 := S7.out; omega))
  have S16 := hide hg.size
  have HB := hide (bl_own HB.out hg (fun j hj => by have a := LV.out j hj; have y := Z7.out; omega))
  have Z16 := hide HB.out.size
  have OV := hide ho
  clear hg ho
  go_wp2_with fail
  refine (heldIntS_own _ N _ _ OV.out hNb (by omega) (by omega)).mono ?_
  rintro e w' ⟨rfl, rfl⟩
  have l0 := (HB.out.cell (p := ⟨w0.heap.size, 0, none⟩) gB).trans B0.out
  have l1 := (HB.out.cell (p := ⟨w0.heap.size, 1, none⟩) gB).trans B1.out
  have l2 := (HB.out.cell (p := ⟨w0.heap.size, 2, none⟩) gB).trans B2.out
  have l3 := (HB.out.cell (p := ⟨w0.heap.size, 3, none⟩) gB).trans B3.out
  go_wp2_with fail
  refine (toLandO_any wd hg st ao n c zs _ HZ0.out q0 (rd_at0 HR0.out HB.out)).mono ?_
  rintro e w17 ⟨gA, rfl, ho, hb⟩
  have OU := hide (own_step OU.out hb)
  have OV := hide (own_step OV.out hb)
  have S17 := hide hb.size
  have HB := hide (bl_step HB.out hb)
  have Z17 := hide HB.out.size
  clear l0 l1 l2 l3
  clear hb
  have OA := hide ho
  have LA := hide (own_lt ho)
  clear ho
  have l0 := (HB.out.cell (p := ⟨w0.heap.size, 0, none⟩) gB).trans B0.out
  have l1 := (HB.out.cell (p := ⟨w0.heap.size, 1, none⟩) gB).trans B1.out
  have l2 := (HB.out.cell (p := ⟨w0.heap.size, 2, none⟩) gB).trans B2.out
  have l3 := (HB.out.cell (p := ⟨w0.heap.size, 3, none⟩) gB).trans B3.out
  go_wp2_with fail
  refine (toLegS_any _ _ _ z1 _ HZ1.out q1 (rd_at0 HR1.out HB.out)).mono ?_
  rintro e w18 ⟨rfl, ho, hr, hb⟩
  have OU := hide (own_step OU.out hb)
  have OV := hide (own_step OV.out hb)
  have OA := hide (own_step OA.out hb)
  have S18 := hide hb.size
  have HB := hide (bl_step HB.out hb)
  have Z18 := hide HB.out.size
  clear l0 l1 l2 l3
  clear hb
  have OR := hide ho
  have LR := hide (own_lt ho)
  clear ho hr
  have l0 := (HB.out.cell (p := ⟨w0.heap.size, 0, none⟩) gB).trans B0.out
  have l1 := (HB.out.cell (p := ⟨w0.heap.size, 1, none⟩) gB).trans B1.out
  have l2 := (HB.out.cell (p := ⟨w0.heap.size, 2, none⟩) gB).trans B2.out
  have l3 := (HB.out.cell (p := ⟨w0.heap.size, 3, none⟩) gB).trans B3.out
  go_wp2_with fail
  refine (SteepLegs_any wd hg st _ n n zs _ n1 n1 z1 _ HZ0.out q0 (own_rd' encAr4_len OA.out HZ0.out) HZ1.out q1 (own_rd' encLg_len OR.out HZ1.out)).mono ?_
  rintro e w19 ⟨v2, rfl, ho, hb⟩
  have OU := hide (own_step OU.out hb)
  have OV := hide (own_step OV.out hb)
  have OA := hide (own_step OA.out hb)
  have OR := hide (own_step OR.out hb)
  have S19 := hide hb.size
  have HB := hide (bl_step HB.out hb)
  have Z19 := hide HB.out.size
  clear l0 l1 l2 l3
  clear hb
  rw [← HN.out] at ho
  have OV2 := hide ho
  have LV2 := hide (own_lt ho)
  clear ho
  clear OA LA
  clear OR LR
  have l0 := (HB.out.cell (p := ⟨w0.heap.size, 0, none⟩) gB).trans B0.out
  have l1 := (HB.out.cell (p := ⟨w0.heap.size, 1, none⟩) gB).trans B1.out
  have l2 := (HB.out.cell (p := ⟨w0.heap.size, 2, none⟩) gB).trans B2.out
  have l3 := (HB.out.cell (p := ⟨w0.heap.size, 3, none⟩) gB).trans B3.out
  go_wp2_with fail
  refine (eqIntS_own _ _ N (stpV wd hg st zs z1) _ OV2.out OU.out HN.out.symm hNb).mono ?_
  rintro e w20 ⟨rfl, hb⟩
  have OU := hide (own_step OU.out hb)
  have OV := hide (own_step OV.out hb)
  have OV2 := hide (own_step OV2.out hb)
  have S20 := hide hb.size
  have HB := hide (bl_step HB.out hb)
  have Z20 := hide HB.out.size
  clear l0 l1 l2 l3
  clear hb
  go_wp2_with fail
  refine (heldIntS_own _ N _ _ OV.out hNb (by omega) (by omega)).mono ?_
  rintro e w' ⟨rfl, rfl⟩
  go_wp2
  go_ret
  exact ⟨rfl, HBV.out.trans (HB.out.mono HBV.out.size)⟩

end Go.Proofs.Ythcfkihpihgjeaa
