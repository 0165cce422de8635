/- The law FnExactIsLand walked. -/
import Derived.Test.YthcfkihpihgjeaaU2
import Derived.Test.YthcfkihpihgjeaaU3
import Derived.Deep.RegionWith
namespace Go.Proofs.Ythcfkihpihgjeaa
open Go.RowKit
set_option linter.unusedVariables false
set_option linter.unusedSimpArgs false

theorem held_skip {P : Program} {md : Region.Mode} {ops : Array Oper} {Q : Exit → Act → World → Prop} {S : World → Prop} (i : Nat) (d : Tmp) {oi : Oper} {fuel : Nat} {listed : Array Bool} {a : Act} {w : World} (hi : ops[i]? = some oi)
    (hs : Region.noSelect ops = true) (hf : Region.free md ops listed i = true) (hr : (Region.ready md ops listed).contains i = true) (hd : oi.dst = some d) (hQ : ∀ c a w, Q (.panic c) (a.put (some d) undef) w → Q (.panic c) a w)
    (hw : Region.wanted oi (yielded ops a.tmps) = false) (hS : S w) (h : wpAnyH P md ops Q S fuel (listed.setIfInBounds i true) (a.put (some d) undef) w) : wpAnyH P md ops Q S (fuel + 1) listed a w :=
  wpAnyH_take hi hs hf hr (by rw [hd]; exact hQ) (Or.inr ⟨hw, rfl⟩) hS (by rw [hd]; exact h)
theorem held_take {P : Program} {md : Region.Mode} {ops : Array Oper} {Q : Exit → Act → World → Prop} {S : World → Prop} (i : Nat) (d : Tmp) {oi : Oper} (v : Value) {fuel : Nat} {listed : Array Bool} {a : Act} {w : World} (hi : ops[i]? = some oi)
    (hs : Region.noSelect ops = true) (hf : Region.free md ops listed i = true) (hr : (Region.ready md ops listed).contains i = true) (hd : oi.dst = some d) (hQ : ∀ c a w, Q (.panic c) (a.put (some d) v) w → Q (.panic c) a w)
    (hw : Region.wanted oi (yielded ops a.tmps) = true) (hy : ∀ w, S w → (execOp a.eval oi).run P w = .ok (.value v) w) (hS : S w) (h : wpAnyH P md ops Q S fuel (listed.setIfInBounds i true) (a.put (some d) v) w) : wpAnyH P md ops Q S (fuel + 1) listed a w :=
  wpAnyH_take hi hs hf hr (by rw [hd]; exact hQ) (Or.inl ⟨hw, hy⟩) hS (by rw [hd]; exact h)
set_option maxRecDepth 100000 in
set_option maxHeartbeats 2000000 in
theorem law_FnExactIsLand (wd hg st : Int) (ao : Option Addr) (n c : Nat) (zs : List Ar4) (w : World) (hz : zs.length = n) (hn : n ≤ 9223372036854775807) (hr : Rd encAr4 4 w.heap.size w ao zs) :
    Calls Try.prog 4 #[.agg #[.int .i64 wd, .int .i64 hg, .slice ao n c, .int .i64 st]] w fun e w' => e = .returned (.bool true) ∧ Below w.heap.size w w' := by
  obtain ⟨V, hV⟩ : ∃ V, V = w.alloc (.cells #[.int .i64 wd, .int .i64 hg, .slice ao n c, .int .i64 st] 30) := ⟨_, rfl⟩
  have HBV : Hid (Below w.heap.size w V) := hide (by rw [hV]; exact (Below.refl _ _).alloc (Nat.le_refl _) _)
  have g0 : w.heap.size < V.heap.size := by rw [hV]; simp
  have p0 := hide (show V.cell? ⟨w.heap.size, 0, none⟩ = some (.int .i64 wd) from by rw [hV]; simp)
  have p1 := hide (show V.cell? ⟨w.heap.size, 1, none⟩ = some (.int .i64 hg) from by rw [hV]; simp)
  have p2 := hide (show V.cell? ⟨w.heap.size, 2, none⟩ = some (.slice ao n c) from by rw [hV]; simp)
  have p3 := hide (show V.cell? ⟨w.heap.size, 3, none⟩ = some (.int .i64 st) from by rw [hV]; simp)
  have HW := hide hV
  have HR := hide (rd_step hr HBV.out)
  have HZ := hide hz
  have HSZ := hide (szLand_any wd hg st ao n c zs 1048576 V hn (by omega) (by omega))
  clear hz hr hV
  by_cases b0 : (1048576 : Int) < n
  · have E0 := hide (szV_big b0)
    go_enter Try.func4, Try.ntmps4
    go_wp2_with fail
    rw [← HW.out]
    refine HSZ.out.mono ?_
    rintro e w1 ⟨rfl, hb⟩
    rw [E0.out]
    have HB := hide (bl_step HBV.out hb)
    clear hb HSZ
    go_wp2
    go_ret
    exact ⟨rfl, HB.out⟩
  have E0 := hide (szV_ok b0)
  have q0 : n ≤ 1048576 := by omega
  have p00 : ¬ (1048576 : Int) - n < 0 := by omega
  go_enter Try.func4, Try.ntmps4
  go_wp2_with fail
  rw [← HW.out]
  refine HSZ.out.mono ?_
  rintro e w1 ⟨rfl, hb⟩
  rw [E0.out]
  have HB := hide (bl_step HBV.out hb)
  have HR := hide (rd_step HR.out hb)
  have p0 := hide ((hb.cell (p := ⟨w.heap.size, 0, none⟩) g0).trans p0.out)
  have p1 := hide ((hb.cell (p := ⟨w.heap.size, 1, none⟩) g0).trans p1.out)
  have p2 := hide ((hb.cell (p := ⟨w.heap.size, 2, none⟩) g0).trans p2.out)
  have p3 := hide ((hb.cell (p := ⟨w.heap.size, 3, none⟩) g0).trans p3.out)
  have g1 : w.heap.size < w1.heap.size := Nat.lt_of_lt_of_le g0 hb.size
  clear hb HSZ
  have l0 := p0.out
  have l1 := p1.out
  have l2 := p2.out
  have l3 := p3.out
  go_wp2_with fail
  refine (toLand_any wd hg st ao n c zs _ HZ.out q0 HR.out).mono ?_
  rintro e w2 ⟨g1', rfl, hr, hb⟩
  have HB := hide (bl_step HB.out hb)
  have HR := hide (rd_step HR.out hb)
  have p0 := hide ((hb.cell (p := ⟨w.heap.size, 0, none⟩) g1).trans p0.out)
  have p1 := hide ((hb.cell (p := ⟨w.heap.size, 1, none⟩) g1).trans p1.out)
  have p2 := hide ((hb.cell (p := ⟨w.heap.size, 2, none⟩) g1).trans p2.out)
  have p3 := hide ((hb.cell (p := ⟨w.heap.size, 3, none⟩) g1).trans p3.out)
  have g2 : w.heap.size < w2.heap.size := Nat.lt_of_lt_of_le g1 hb.size
  have HS := hide hr
  clear hb hr
  have l0 := p0.out
  have l1 := p1.out
  have l2 := p2.out
  have l3 := p3.out
  go_wp2_with fail
  refine (sIsLand_any wd hg st _ n n zs _ HZ.out q0 HS.out).mono ?_
  rintro e w3 ⟨rfl, hb⟩
  have HB := hide (bl_step HB.out hb)
  have HR := hide (rd_step HR.out hb)
  have p0 := hide ((hb.cell (p := ⟨w.heap.size, 0, none⟩) g2).trans p0.out)
  have p1 := hide ((hb.cell (p := ⟨w.heap.size, 1, none⟩) g2).trans p1.out)
  have p2 := hide ((hb.cell (p := ⟨w.heap.size, 2, none⟩) g2).trans p2.out)
  have p3 := hide ((hb.cell (p := ⟨w.heap.size, 3, none⟩) g2).trans p3.out)
  have g3 : w.heap.size < w3.heap.size := Nat.lt_of_lt_of_le g2 hb.size
  clear hb HS
  have l0 := p0.out
  have l1 := p1.out
  have l2 := p2.out
  have l3 := p3.out
  go_wp2_with fail
  refine (toLand_any wd hg st ao n c zs _ HZ.out q0 HR.out).mono ?_
  rintro e w4 ⟨g2, rfl, hr, hb⟩
  have HB := hide (bl_step HB.out hb)
  have HR := hide (rd_step HR.out hb)
  have p0 := hide ((hb.cell (p := ⟨w.heap.size, 0, none⟩) g3).trans p0.out)
  have p1 := hide ((hb.cell (p := ⟨w.heap.size, 1, none⟩) g3).trans p1.out)
  have p2 := hide ((hb.cell (p := ⟨w.heap.size, 2, none⟩) g3).trans p2.out)
  have p3 := hide ((hb.cell (p := ⟨w.heap.size, 3, none⟩) g3).trans p3.out)
  have g4 : w.heap.size < w4.heap.size := Nat.lt_of_lt_of_le g3 hb.size
  have HS := hide hr
  clear hb hr
  obtain ⟨V4, hV4⟩ : ∃ V4, V4 = w4.alloc (.cells #[.int .i64 wd, .int .i64 hg, .slice (some ⟨g2, 0, none⟩) n n, .int .i64 st] 33) := ⟨_, rfl⟩
  obtain ⟨X, hX⟩ : ∃ X, X = w4.heap.size := ⟨_, rfl⟩
  have hb : Below w4.heap.size w4 V4 := by rw [hV4]; exact (Below.refl _ _).alloc (Nat.le_refl _) _
  have gx : X < V4.heap.size := by rw [hV4, hX]; simp
  have HB := hide (bl_step HB.out hb)
  have HR := hide (rd_step HR.out hb)
  have p0 := hide ((hb.cell (p := ⟨w.heap.size, 0, none⟩) g4).trans p0.out)
  have p1 := hide ((hb.cell (p := ⟨w.heap.size, 1, none⟩) g4).trans p1.out)
  have p2 := hide ((hb.cell (p := ⟨w.heap.size, 2, none⟩) g4).trans p2.out)
  have p3 := hide ((hb.cell (p := ⟨w.heap.size, 3, none⟩) g4).trans p3.out)
  have g5 : w.heap.size < V4.heap.size := Nat.lt_of_lt_of_le g4 hb.size
  have HS := hide (rd_step HS.out hb)
  have x0 := hide (show V4.cell? ⟨X, 0, none⟩ = some (.int .i64 wd) from by rw [hV4, hX]; simp)
  have x1 := hide (show V4.cell? ⟨X, 1, none⟩ = some (.int .i64 hg) from by rw [hV4, hX]; simp)
  have x2 := hide (show V4.cell? ⟨X, 2, none⟩ = some (.slice (some ⟨g2, 0, none⟩) n n) from by rw [hV4, hX]; simp)
  have x3 := hide (show V4.cell? ⟨X, 3, none⟩ = some (.int .i64 st) from by rw [hV4, hX]; simp)
  have HV4 := hide hV4
  have HX := hide hX
  clear hb hV4 hX
  have HC := hide (IsLand_any wd hg st _ n n zs V4 HZ.out q0 HS.out)
  go_wp2_with fail
  rw [← HV4.out, ← HX.out]
  refine HC.out.mono ?_
  rintro e W5 ⟨rfl, hb⟩
  have HB := hide (bl_step HB.out hb)
  have HR := hide (rd_step HR.out hb)
  have p0 := hide ((hb.cell (p := ⟨w.heap.size, 0, none⟩) g5).trans p0.out)
  have p1 := hide ((hb.cell (p := ⟨w.heap.size, 1, none⟩) g5).trans p1.out)
  have p2 := hide ((hb.cell (p := ⟨w.heap.size, 2, none⟩) g5).trans p2.out)
  have p3 := hide ((hb.cell (p := ⟨w.heap.size, 3, none⟩) g5).trans p3.out)
  have x0 := hide ((hb.cell (p := ⟨X, 0, none⟩) gx).trans x0.out)
  have x1 := hide ((hb.cell (p := ⟨X, 1, none⟩) gx).trans x1.out)
  have x2 := hide ((hb.cell (p := ⟨X, 2, none⟩) gx).trans x2.out)
  have x3 := hide ((hb.cell (p := ⟨X, 3, none⟩) gx).trans x3.out)
  have gw : w.heap.size < W5.heap.size := Nat.lt_of_lt_of_le g5 hb.size
  have gx : X < W5.heap.size := Nat.lt_of_lt_of_le gx hb.size
  have HS := hide (rd_step HS.out hb)
  clear hb HC
  go_wp2_with fail
  refine wp_region_held_drew (S := (fun w' => w'.cell? ⟨w.heap.size, 0, none⟩ = some (.int .i64 wd) ∧ w'.cell? ⟨w.heap.size, 1, none⟩ = some (.int .i64 hg) ∧ w'.cell? ⟨w.heap.size, 2, none⟩ = some (.slice ao n c) ∧ w'.cell? ⟨w.heap.size, 3, none⟩ = some (.int .i64 st) ∧ w'.cell? ⟨X, 0, none⟩ = some (.int .i64 wd) ∧ w'.cell? ⟨X, 1, none⟩ = some (.int .i64 hg) ∧ w'.cell? ⟨X, 2, none⟩ = some (.slice (some ⟨g2, 0, none⟩) n n) ∧ w'.cell? ⟨X, 3, none⟩ = some (.int .i64 st) ∧ Below W5.heap.size W5 w')) (by kernel_rfl) ⟨(((Below.refl W5.heap.size W5).drew).cell (p := ⟨w.heap.size, 0, none⟩) gw).trans p0.out, (((Below.refl W5.heap.size W5).drew).cell (p := ⟨w.heap.size, 1, none⟩) gw).trans p1.out, (((Below.refl W5.heap.size W5).drew).cell (p := ⟨w.heap.size, 2, none⟩) gw).trans p2.out, (((Below.refl W5.heap.size W5).drew).cell (p := ⟨w.heap.size, 3, none⟩) gw).trans p3.out, (((Below.refl W5.heap.size W5).drew).cell (p := ⟨X, 0, none⟩) gx).trans x0.out, (((Below.refl W5.heap.size W5).drew).cell (p := ⟨X, 1, none⟩) gx).trans x1.out, (((Below.refl W5.heap.size W5).drew).cell (p := ⟨X, 2, none⟩) gx).trans x2.out, (((Below.refl W5.heap.size W5).drew).cell (p := ⟨X, 3, none⟩) gx).trans x3.out, ((Below.refl _ W5).drew)⟩ (fun hHeld => ?_)
  refine held_take 0 22 ?vv1 rfl (by kernel_rfl) (by kernel_rfl) (by kernel_rfl) rfl (fun _ _ _ h => h) (by rfl) ?hy1 (by assumption) ?rest1
  case hy1 => (intro w hSw; (try dsimp only at hSw); go_simp; try with_reducible rfl)
  try simp only [Act.put, List.setIfInBounds_toArray, List.set_cons_zero, List.set_cons_succ]
  refine held_take 1 23 ?vv2 rfl (by kernel_rfl) (by kernel_rfl) (by kernel_rfl) rfl (fun _ _ _ h => h) (by rfl) ?hy2 (by assumption) ?rest2
  case hy2 => (intro w hSw; (try dsimp only at hSw); go_simp; try with_reducible rfl)
  try simp only [Act.put, List.setIfInBounds_toArray, List.set_cons_zero, List.set_cons_succ]
  refine wpAnyH_ready (rs := [2]) (by kernel_rfl) (by simp) ?_
  refine AllReadyH.cons rfl (fun K hK => ?_) AllReadyH.nil
  go_simp
  refine (toLand_any wd hg st ao n c zs _ HZ.out q0 (rd_step HR.out (Below.refl _ W5).drew)).mono ?_
  rintro e w6 ⟨g3, rfl, hr, hb⟩
  go_wp2_with fail
  have hq : Below W5.heap.size W5 w6 := (Below.refl _ W5).drew.trans hb
  have HS2 := hide (rd_step HS.out hq)
  have HR2 := hide hr
  refine hK.out _ _ ⟨(hq.cell (p := ⟨w.heap.size, 0, none⟩) gw).trans p0.out, (hq.cell (p := ⟨w.heap.size, 1, none⟩) gw).trans p1.out, (hq.cell (p := ⟨w.heap.size, 2, none⟩) gw).trans p2.out, (hq.cell (p := ⟨w.heap.size, 3, none⟩) gw).trans p3.out, (hq.cell (p := ⟨X, 0, none⟩) gx).trans x0.out, (hq.cell (p := ⟨X, 1, none⟩) gx).trans x1.out, (hq.cell (p := ⟨X, 2, none⟩) gx).trans x2.out, (hq.cell (p := ⟨X, 3, none⟩) gx).trans x3.out, hq⟩ (fun hHeld => ?_)
  clear hK K
  try simp only [Act.put, List.setIfInBounds_toArray, List.set_cons_zero, List.set_cons_succ]
  refine wpAnyH_ready (rs := [3]) (by kernel_rfl) (by simp) ?_
  refine AllReadyH.cons rfl (fun K hK => ?_) AllReadyH.nil
  go_simp
  refine (eqLand_same wd hg st _ _ n n n zs _ HZ.out q0 HS2.out HR2.out).mono ?_
  rintro e w7 ⟨rfl, hb⟩
  go_wp2_with fail
  have hq2 : Below W5.heap.size W5 w7 := bl_step hq hb
  refine hK.out _ _ ⟨(hq2.cell (p := ⟨w.heap.size, 0, none⟩) gw).trans p0.out, (hq2.cell (p := ⟨w.heap.size, 1, none⟩) gw).trans p1.out, (hq2.cell (p := ⟨w.heap.size, 2, none⟩) gw).trans p2.out, (hq2.cell (p := ⟨w.heap.size, 3, none⟩) gw).trans p3.out, (hq2.cell (p := ⟨X, 0, none⟩) gx).trans x0.out, (hq2.cell (p := ⟨X, 1, none⟩) gx).trans x1.out, (hq2.cell (p := ⟨X, 2, none⟩) gx).trans x2.out, (hq2.cell (p := ⟨X, 3, none⟩) gx).trans x3.out, hq2⟩ (fun hHeld => ?_)
  clear hK K
  try simp only [Act.put, List.setIfInBounds_toArray, List.set_cons_zero, List.set_cons_succ]
  refine held_take 4 26 ?vv3 rfl (by kernel_rfl) (by kernel_rfl) (by kernel_rfl) rfl (fun _ _ _ h => h) (by rfl) ?hy3 (by assumption) ?rest3
  case hy3 => (intro w hSw; (try dsimp only at hSw); go_simp; try with_reducible rfl)
  try simp only [Act.put, List.setIfInBounds_toArray, List.set_cons_zero, List.set_cons_succ]
  refine wpAnyH_done (by kernel_rfl) ?_ _
  have HB := hide (bl_step HB.out hq2)
  clear hHeld hq hq2
  go_wp2
  go_ret
  exact ⟨rfl, HB.out⟩

end Go.Proofs.Ythcfkihpihgjeaa
