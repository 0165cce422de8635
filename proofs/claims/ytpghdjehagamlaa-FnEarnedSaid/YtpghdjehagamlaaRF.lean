/- CopySheet: the program. -/
import Derived.Test.YtpghdjehagamlaaRE
import Derived.Deep.RegionWith
import Derived.Deep.AppendLies
namespace Go.Proofs.Ytpghdjehagamlaa
open Go.RowKit
set_option linter.unusedVariables false
set_option linter.unusedSimpArgs false

theorem heldR_skip {P : Program} {md : Region.Mode} {ops : Array Oper} {Q : Exit → Act → World → Prop} {S : World → Prop} (i : Nat) (d : Tmp) {oi : Oper} {fuel : Nat} {listed : Array Bool} {a : Act} {w : World} (hi : ops[i]? = some oi)
    (hs : Region.noSelect ops = true) (hf : Region.free md ops listed i = true) (hr : (Region.ready md ops listed).contains i = true) (hd : oi.dst = some d) (hQ : ∀ c a w, Q (.panic c) (a.put (some d) undef) w → Q (.panic c) a w)
    (hw : Region.wanted oi (yielded ops a.tmps) = false) (hS : S w) (h : wpAnyH P md ops Q S fuel (listed.setIfInBounds i true) (a.put (some d) undef) w) : wpAnyH P md ops Q S (fuel + 1) listed a w :=
  wpAnyH_take hi hs hf hr (by rw [hd]; exact hQ) (Or.inr ⟨hw, rfl⟩) hS (by rw [hd]; exact h)
theorem heldR_take {P : Program} {md : Region.Mode} {ops : Array Oper} {Q : Exit → Act → World → Prop} {S : World → Prop} (i : Nat) (d : Tmp) {oi : Oper} (v : Value) {fuel : Nat} {listed : Array Bool} {a : Act} {w : World} (hi : ops[i]? = some oi)
    (hs : Region.noSelect ops = true) (hf : Region.free md ops listed i = true) (hr : (Region.ready md ops listed).contains i = true) (hd : oi.dst = some d) (hQ : ∀ c a w, Q (.panic c) (a.put (some d) v) w → Q (.panic c) a w)
    (hw : Region.wanted oi (yielded ops a.tmps) = true) (hy : ∀ w, S w → (execOp a.eval oi).run P w = .ok (.value v) w) (hS : S w) (h : wpAnyH P md ops Q S fuel (listed.setIfInBounds i true) (a.put (some d) v) w) : wpAnyH P md ops Q S (fuel + 1) listed a w :=
  wpAnyH_take hi hs hf hr (by rw [hd]; exact hQ) (Or.inl ⟨hw, hy⟩) hS (by rw [hd]; exact h)

set_option maxRecDepth 100000 in
set_option maxHeartbeats 2000000 in
theorem CopySheet_any (ro : Option Addr) (m d : Nat) (rz : List Rt) (ao : Addr) (n c : Nat) (zs : List Cp) (x : Cp) (w : World) (hrz : rz.length = m) (hm : m ≤ 1048576) (hrr : Rd encRt 4 w.heap.size w ro rz) (hz : zs.length = n) (hn : n ≤ 1048576) (hr : Rd encCp 4 w.heap.size w (some ao) zs) :
    Calls Try.prog 13 #[.slice ro m d, .slice (some ao) n c, .agg #[.int .i64 x.s, .int .i64 x.r, .int .i64 x.d, .int .i64 x.p]] w fun e w' => ∃ v, e = .returned (.tuple #[v, .int .i64 (cpF rz zs x), .bool (okCopy rz zs x)]) ∧ w'.ownsRow w.heap.size 34 4 v (cpV rz zs x).length ((cpV rz zs x).flatMap encCp) ∧ Below w.heap.size w w' := by
  have HZ := hide hz
  have HR := hide hr
  have HRZ := hide hrz
  have HRR := hide hrr
  clear hz hr hrz hrr
  obtain ⟨W, hW⟩ : ∃ W, W = w.alloc (.cells #[.int .i64 x.s, .int .i64 x.r, .int .i64 x.d, .int .i64 x.p] 34) := ⟨_, rfl⟩
  have HBW : Hid (Below w.heap.size w W) := hide (by rw [hW]; exact (Below.refl _ _).alloc (Nat.le_refl _) _)
  have gw : w.heap.size < W.heap.size := by rw [hW]; simp
  obtain ⟨X0, hX0⟩ : ∃ X0, X0 = w.heap.size := ⟨_, rfl⟩
  have e0 : W.cell? ⟨w.heap.size, 0, none⟩ = some (.int .i64 x.s) := by rw [hW]; simp
  have e1 : W.cell? ⟨w.heap.size, 1, none⟩ = some (.int .i64 x.r) := by rw [hW]; simp
  have e2 : W.cell? ⟨w.heap.size, 2, none⟩ = some (.int .i64 x.d) := by rw [hW]; simp
  have e3 : W.cell? ⟨w.heap.size, 3, none⟩ = some (.int .i64 x.p) := by rw [hW]; simp
  rw [← hX0] at gw e0 e1 e2 e3
  have HW := hide hW
  have HX0 := hide hX0
  clear hW hX0
  obtain ⟨i0, hi, hz0, hz1, hz2⟩ := info_parts infoCp
  have HI := hide (And.intro hi (And.intro hz0 (And.intro hz1 hz2)))
  clear hi hz0 hz1 hz2
  cases h1 : lawful rz zs with
  | false =>
    have HO : Hid (okCopy rz zs x = false) := hide (by simp [okCopy, h1])
    have HC : Hid (cpV rz zs x = []) := hide (by unfold cpV; rw [HO.out]; rfl)
    go_enter Try.func13, Try.ntmps13
    go_wp2_with fail
    rw [← HW.out]
    refine (AreLawful_any ro m d rz (some ao) n c zs _ HRZ.out hm (rd_step HRR.out HBW.out) HZ.out hn (rd_step HR.out HBW.out)).mono ?_
    rintro e w1 ⟨rfl, hb⟩
    rw [h1]
    have HBR := hide (bl_step HBW.out hb)
    clear hb
    go_wp2
    go_ret3
    exact ⟨_, ret_vib (by unfold cpF; rw [HO.out]; rfl) HO.out.symm, by rw [HC.out]; exact World.ownsRow_nil _ _ _ _, HBR.out⟩
  | true =>
    have HH1 := hide h1
    have h15 := lawful_15 h1
    rw [HZ.out] at h15
    clear h1
    go_enter Try.func13, Try.ntmps13
    go_wp2_with fail
    rw [← HW.out, ← HX0.out]
    refine (AreLawful_any ro m d rz (some ao) n c zs _ HRZ.out hm (rd_step HRR.out HBW.out) HZ.out hn (rd_step HR.out HBW.out)).mono ?_
    rintro e w1 ⟨rfl, hb⟩
    rw [HH1.out]
    have HBR := hide (bl_step HBW.out hb)
    have f0 := (hb.cell (p := ⟨X0, 0, none⟩) gw).trans e0
    have f1 := (hb.cell (p := ⟨X0, 1, none⟩) gw).trans e1
    have f2 := (hb.cell (p := ⟨X0, 2, none⟩) gw).trans e2
    have f3 := (hb.cell (p := ⟨X0, 3, none⟩) gw).trans e3
    have g0 : X0 < w1.heap.size := Nat.lt_of_lt_of_le gw hb.size
    clear hb e0 e1 e2 e3
    obtain ⟨hi, hz0, hz1, hz2⟩ := HI.out
    go_wp2_with fail
    refine wp_region_held_drew (S := (fun w' => w'.cell? ⟨X0, 0, none⟩ = some (.int .i64 x.s) ∧ w'.cell? ⟨X0, 1, none⟩ = some (.int .i64 x.r) ∧ w'.cell? ⟨X0, 2, none⟩ = some (.int .i64 x.d) ∧ w'.cell? ⟨X0, 3, none⟩ = some (.int .i64 x.p) ∧ Below w1.heap.size w1 w')) (by kernel_rfl) ⟨f0, f1, f2, f3, (Below.refl _ _).drew⟩ (fun hHeld => ?_)
    refine heldR_take 0 14 ?vv26 rfl (by kernel_rfl) (by kernel_rfl) (by kernel_rfl) rfl (fun _ _ _ h => h) (by rfl) ?hy26 (by assumption) ?rest26
    case hy26 => (intro w hSw; (try dsimp only at hSw); go_simp; try with_reducible rfl)
    try simp only [Act.put, List.setIfInBounds_toArray, List.set_cons_zero, List.set_cons_succ]
    refine heldR_take 2 16 ?vv27 rfl (by kernel_rfl) (by kernel_rfl) (by kernel_rfl) rfl (fun _ _ _ h => h) (by rfl) ?hy27 (by assumption) ?rest27
    case hy27 => (intro w hSw; (try dsimp only at hSw); go_simp; try with_reducible rfl)
    try simp only [Act.put, List.setIfInBounds_toArray, List.set_cons_zero, List.set_cons_succ]
    refine wpAnyH_ready (rs := [1, 3]) (by kernel_rfl) (by simp) ?_
    refine AllReadyH.cons rfl (fun K hK => ?_) (AllReadyH.cons rfl (fun K hK => ?_) AllReadyH.nil)
    · go_simp
      refine (CloneCopying_any ao n c zs _ HZ.out hn (rd_at0 HR.out (Below.drew HBR.out))).mono ?_
      rintro e w3 ⟨v, rfl, ho, hb⟩
      go_wp2_with fail
      have hq : Below w1.heap.size w1 w3 := (Below.drew (Below.refl _ _)).trans hb
      have ho : w3.ownsRow w1.heap.size 34 4 v n (zs.flatMap encCp) := ho
      refine hK.out _ _ ⟨(hq.cell (p := ⟨X0, 0, none⟩) g0).trans f0, (hq.cell (p := ⟨X0, 1, none⟩) g0).trans f1, (hq.cell (p := ⟨X0, 2, none⟩) g0).trans f2, (hq.cell (p := ⟨X0, 3, none⟩) g0).trans f3, hq⟩ (fun hHeld2 => ?_)
      clear hK K
      try simp only [Act.put, List.setIfInBounds_toArray, List.set_cons_zero, List.set_cons_succ]
      refine wpAnyH_ready (rs := [3]) (by kernel_rfl) (by simp) ?_
      refine AllReadyH.cons rfl (fun K hK => ?_) AllReadyH.nil
      go_simp
      have hq3 : Below w1.heap.size w1 (w3.alloc (.cells #[.int .i64 x.s, .int .i64 x.r, .int .i64 x.d, .int .i64 x.p] 34)) := hq.alloc hq.size _
      refine hK.out _ _ ⟨(hq3.cell (p := ⟨X0, 0, none⟩) g0).trans f0, (hq3.cell (p := ⟨X0, 1, none⟩) g0).trans f1, (hq3.cell (p := ⟨X0, 2, none⟩) g0).trans f2, (hq3.cell (p := ⟨X0, 3, none⟩) g0).trans f3, hq3⟩ (fun hHeld3 => ?_)
      clear hK K
      have hsz := hq.size
      try simp only [Act.put, List.setIfInBounds_toArray, List.set_cons_zero, List.set_cons_succ]
      refine wpAnyH_ready (rs := [4]) (by kernel_rfl) (by simp) ?_
      refine AllReadyH.cons rfl (fun K hK => ?_) AllReadyH.nil
      refine step_append_own (by rfl) _ _ _ (by rfl) w1.heap.size 34 i0 _ 4 32 Try.underlying28 hi hz0 hz1 hz2 rfl (by omega) _ n _ (by rfl) (ho.alloc _) ⟨w3.heap.size, 0, none⟩ 1 1 [.int .i64 x.s, .int .i64 x.r, .int .i64 x.d, .int .i64 x.p] (by rfl) (by rfl) (news_at #[.int .i64 x.s, .int .i64 x.r, .int .i64 x.d, .int .i64 x.p]) (by simp [Value.oneCell']) (by unfold maxLen; omega) (by omega) (by first | omega | (simp; omega)) ?_
      intro v4 w4 hown4 hgrow
      have hq4 : Below w1.heap.size w1 w4 := bl_grown hq3 (ho.alloc _) (Nat.le_refl _) hgrow
      refine hK.out _ _ ⟨(hq4.cell (p := ⟨X0, 0, none⟩) g0).trans f0, (hq4.cell (p := ⟨X0, 1, none⟩) g0).trans f1, (hq4.cell (p := ⟨X0, 2, none⟩) g0).trans f2, (hq4.cell (p := ⟨X0, 3, none⟩) g0).trans f3, hq4⟩ (fun hHeld4 => ?_)
      clear hK K
      try simp only [Act.put, List.setIfInBounds_toArray, List.set_cons_zero, List.set_cons_succ]
      refine heldR_take 5 9 ?vv28 rfl (by kernel_rfl) (by kernel_rfl) (by kernel_rfl) rfl (fun _ _ _ h => h) (by rfl) ?hy28 (by assumption) ?rest28
      case hy28 => (intro w hSw; (try dsimp only at hSw); go_simp; try with_reducible rfl)
      try simp only [Act.put, List.setIfInBounds_toArray, List.set_cons_zero, List.set_cons_succ]
      refine wpAnyH_done (by kernel_rfl) ?_ _
      have HB4 := hide (bl_step HBR.out hq4)
      have HLEN : Hid ((zs ++ [x]).length = n + 1) := hide (by simp [HZ.out])
      have ho4 : w4.ownsRow w.heap.size 34 4 v4 (n + 1) ((zs ++ [x]).flatMap encCp) := by rw [flat_snoc]; exact own_base hown4 HBR.out.size
      obtain ⟨ao2, c2, rfl, hc1, hc2, hrd⟩ := own_rd encCp_len ho4 HLEN.out
      have HRD := hide hrd
      have HO4 := hide ho4
      have F0 := hide ((hq4.cell (p := ⟨X0, 0, none⟩) g0).trans f0)
      have F1 := hide ((hq4.cell (p := ⟨X0, 1, none⟩) g0).trans f1)
      have F2 := hide ((hq4.cell (p := ⟨X0, 2, none⟩) g0).trans f2)
      have F3 := hide ((hq4.cell (p := ⟨X0, 3, none⟩) g0).trans f3)
      have g4 : X0 < w4.heap.size := Nat.lt_of_lt_of_le g0 hq4.size
      clear hrd ho4 hown4 hgrow hHeld hHeld4 hq4 hc1 hc2 f0 f1 f2 f3 hi hz0 hz1 hz2
      try clear hHeld2 hHeld3
      go_wp2_with fail
      refine (AreLawful_any ro m d rz ao2 (n + 1) c2 (zs ++ [x]) _ HRZ.out hm (rd_at0 HRR.out HB4.out) HLEN.out (by omega) HRD.out).mono ?_
      rintro e w6 ⟨rfl, hb⟩
      have HB6 := hide (bl_step HB4.out hb)
      have HO6 := hide (own_step HO4.out hb)
      have k0 := (hb.cell (p := ⟨X0, 0, none⟩) g4).trans F0.out
      have k1 := (hb.cell (p := ⟨X0, 1, none⟩) g4).trans F1.out
      have k2 := (hb.cell (p := ⟨X0, 2, none⟩) g4).trans F2.out
      have k3 := (hb.cell (p := ⟨X0, 3, none⟩) g4).trans F3.out
      clear hb
      cases hq : lawful rz (zs ++ [x]) with
      | false =>
        have HO : Hid (okCopy rz zs x = false) := hide (by simp [okCopy, hq])
        have HC : Hid (cpV rz zs x = []) := hide (by unfold cpV; rw [HO.out]; rfl)
        clear hq
        go_wp2
        go_ret3
        exact ⟨_, ret_vib (by unfold cpF; rw [HO.out]; rfl) HO.out.symm, by rw [HC.out]; exact World.ownsRow_nil _ _ _ _, HB6.out⟩
      | true =>
        have HO : Hid (okCopy rz zs x = true) := hide (by simp [okCopy, hq, HH1.out])
        have HC : Hid (cpV rz zs x = zs ++ [x]) := hide (by unfold cpV; rw [HO.out]; rfl)
        have HFF : Hid (cpF rz zs x = costV rz x) := hide (by unfold cpF; rw [HO.out]; rfl)
        clear hq
        go_wp2_with fail
        refine (copyCost_any ro m d rz x _ HRZ.out hm (rd_at0 HRR.out HB6.out)).mono ?_
        rintro e w7 ⟨rfl, hb⟩
        have HB7 := hide (bl_step HB6.out hb)
        have HO7 := hide (own_step HO6.out hb)
        clear hb
        go_wp2
        go_ret3
        exact ⟨_, ret_vib HFF.out.symm HO.out.symm, by rw [HC.out, HLEN.out]; exact HO7.out, HB7.out⟩
    · go_simp
      have hq2 : Below w1.heap.size w1 (w1.drew.alloc (.cells #[.int .i64 x.s, .int .i64 x.r, .int .i64 x.d, .int .i64 x.p] 34)) := (Below.drew (Below.refl _ _)).alloc (Nat.le_refl _) _
      refine hK.out _ _ ⟨(hq2.cell (p := ⟨X0, 0, none⟩) g0).trans f0, (hq2.cell (p := ⟨X0, 1, none⟩) g0).trans f1, (hq2.cell (p := ⟨X0, 2, none⟩) g0).trans f2, (hq2.cell (p := ⟨X0, 3, none⟩) g0).trans f3, hq2⟩ (fun hHeld2 => ?_)
      clear hK K
      try simp only [Act.put, List.setIfInBounds_toArray, List.set_cons_zero, List.set_cons_succ]
      refine wpAnyH_ready (rs := [1]) (by kernel_rfl) (by simp) ?_
      refine AllReadyH.cons rfl (fun K hK => ?_) AllReadyH.nil
      go_simp
      refine (CloneCopying_any ao n c zs _ HZ.out hn (rd_at0 HR.out (bl_step HBR.out hq2))).mono ?_
      rintro e w3 ⟨v, rfl, ho, hb⟩
      go_wp2_with fail
      have hq3 : Below w1.heap.size w1 w3 := hq2.trans (hb.mono hq2.size)
      have ho : w3.ownsRow w1.heap.size 34 4 v n (zs.flatMap encCp) := own_base ho hq2.size
      have hnb : w3.heap[w1.heap.size]? = some (.cells #[.int .i64 x.s, .int .i64 x.r, .int .i64 x.d, .int .i64 x.p] 34 (0, 0)) := (hb.block w1.heap.size (by simp)).trans (heap_alloc_new w1.drew _)
      refine hK.out _ _ ⟨(hq3.cell (p := ⟨X0, 0, none⟩) g0).trans f0, (hq3.cell (p := ⟨X0, 1, none⟩) g0).trans f1, (hq3.cell (p := ⟨X0, 2, none⟩) g0).trans f2, (hq3.cell (p := ⟨X0, 3, none⟩) g0).trans f3, hq3⟩ (fun hHeld3 => ?_)
      clear hK K
      have hsz := hq3.size
      try simp only [Act.put, List.setIfInBounds_toArray, List.set_cons_zero, List.set_cons_succ]
      refine wpAnyH_ready (rs := [4]) (by kernel_rfl) (by simp) ?_
      refine AllReadyH.cons rfl (fun K hK => ?_) AllReadyH.nil
      refine step_append_own (by rfl) _ _ _ (by rfl) w1.heap.size 34 i0 _ 4 32 Try.underlying28 hi hz0 hz1 hz2 rfl (by omega) _ n _ (by rfl) ho ⟨w1.heap.size, 0, none⟩ 1 1 [.int .i64 x.s, .int .i64 x.r, .int .i64 x.d, .int .i64 x.p] (by rfl) (by rfl) (World.news_of_block (cs := #[.int .i64 x.s, .int .i64 x.r, .int .i64 x.d, .int .i64 x.p]) (t := 34) (fr := (0, 0)) hnb) (by simp [Value.oneCell']) (by unfold maxLen; omega) (by omega) (by first | omega | (simp; omega)) ?_
      intro v4 w4 hown4 hgrow
      have hq4 : Below w1.heap.size w1 w4 := bl_grown hq3 ho (Nat.le_refl _) hgrow
      refine hK.out _ _ ⟨(hq4.cell (p := ⟨X0, 0, none⟩) g0).trans f0, (hq4.cell (p := ⟨X0, 1, none⟩) g0).trans f1, (hq4.cell (p := ⟨X0, 2, none⟩) g0).trans f2, (hq4.cell (p := ⟨X0, 3, none⟩) g0).trans f3, hq4⟩ (fun hHeld4 => ?_)
      clear hK K
      try simp only [Act.put, List.setIfInBounds_toArray, List.set_cons_zero, List.set_cons_succ]
      refine heldR_take 5 9 ?vv29 rfl (by kernel_rfl) (by kernel_rfl) (by kernel_rfl) rfl (fun _ _ _ h => h) (by rfl) ?hy29 (by assumption) ?rest29
      case hy29 => (intro w hSw; (try dsimp only at hSw); go_simp; try with_reducible rfl)
      try simp only [Act.put, List.setIfInBounds_toArray, List.set_cons_zero, List.set_cons_succ]
      refine wpAnyH_done (by kernel_rfl) ?_ _
      have HB4 := hide (bl_step HBR.out hq4)
      have HLEN : Hid ((zs ++ [x]).length = n + 1) := hide (by simp [HZ.out])
      have ho4 : w4.ownsRow w.heap.size 34 4 v4 (n + 1) ((zs ++ [x]).flatMap encCp) := by rw [flat_snoc]; exact own_base hown4 HBR.out.size
      obtain ⟨ao2, c2, rfl, hc1, hc2, hrd⟩ := own_rd encCp_len ho4 HLEN.out
      have HRD := hide hrd
      have HO4 := hide ho4
      have F0 := hide ((hq4.cell (p := ⟨X0, 0, none⟩) g0).trans f0)
      have F1 := hide ((hq4.cell (p := ⟨X0, 1, none⟩) g0).trans f1)
      have F2 := hide ((hq4.cell (p := ⟨X0, 2, none⟩) g0).trans f2)
      have F3 := hide ((hq4.cell (p := ⟨X0, 3, none⟩) g0).trans f3)
      have g4 : X0 < w4.heap.size := Nat.lt_of_lt_of_le g0 hq4.size
      clear hrd ho4 hown4 hgrow hHeld hHeld4 hq4 hc1 hc2 f0 f1 f2 f3 hi hz0 hz1 hz2
      try clear hHeld2 hHeld3
      go_wp2_with fail
      refine (AreLawful_any ro m d rz ao2 (n + 1) c2 (zs ++ [x]) _ HRZ.out hm (rd_at0 HRR.out HB4.out) HLEN.out (by omega) HRD.out).mono ?_
      rintro e w6 ⟨rfl, hb⟩
      have HB6 := hide (bl_step HB4.out hb)
      have HO6 := hide (own_step HO4.out hb)
      have k0 := (hb.cell (p := ⟨X0, 0, none⟩) g4).trans F0.out
      have k1 := (hb.cell (p := ⟨X0, 1, none⟩) g4).trans F1.out
      have k2 := (hb.cell (p := ⟨X0, 2, none⟩) g4).trans F2.out
      have k3 := (hb.cell (p := ⟨X0, 3, none⟩) g4).trans F3.out
      clear hb
      cases hq : lawful rz (zs ++ [x]) with
      | false =>
        have HO : Hid (okCopy rz zs x = false) := hide (by simp [okCopy, hq])
        have HC : Hid (cpV rz zs x = []) := hide (by unfold cpV; rw [HO.out]; rfl)
        clear hq
        go_wp2
        go_ret3
        exact ⟨_, ret_vib (by unfold cpF; rw [HO.out]; rfl) HO.out.symm, by rw [HC.out]; exact World.ownsRow_nil _ _ _ _, HB6.out⟩
      | true =>
        have HO : Hid (okCopy rz zs x = true) := hide (by simp [okCopy, hq, HH1.out])
        have HC : Hid (cpV rz zs x = zs ++ [x]) := hide (by unfold cpV; rw [HO.out]; rfl)
        have HFF : Hid (cpF rz zs x = costV rz x) := hide (by unfold cpF; rw [HO.out]; rfl)
        clear hq
        go_wp2_with fail
        refine (copyCost_any ro m d rz x _ HRZ.out hm (rd_at0 HRR.out HB6.out)).mono ?_
        rintro e w7 ⟨rfl, hb⟩
        have HB7 := hide (bl_step HB6.out hb)
        have HO7 := hide (own_step HO6.out hb)
        clear hb
        go_wp2
        go_ret3
        exact ⟨_, ret_vib HFF.out.symm HO.out.symm, by rw [HC.out, HLEN.out]; exact HO7.out, HB7.out⟩

end Go.Proofs.Ytpghdjehagamlaa
