/- DropPage: the program. -/
import Derived.Test.YtdgalehipgdhiaaDoorD1
namespace Go.Proofs.YtdgalehipgdhiaaDoor
open Go.RowKit
set_option linter.unusedVariables false
set_option linter.unusedSimpArgs false

set_option maxRecDepth 100000 in
set_option maxHeartbeats 1000000 in
theorem DropPage_any (ao : Option Addr) (n c : Nat) (zs : List Pg) (m : Int) (w : World) (hz : zs.length = n) (hn : n ≤ 1048576) (hr : Rd encPg 4 w.heap.size w ao zs) (hnc : n ≤ c) :
    Calls Tryd.prog 13 #[.slice ao n c, .int .i64 m] w fun e w' => ∃ v, e = .returned (.tuple #[v, .bool (okDrop zs m)]) ∧ w'.ownsRow w.heap.size 58 4 v (drpV zs m).length ((drpV zs m).flatMap encPg) ∧ Below w.heap.size w w' := by
  have HZ := hide hz
  have HR := hide hr
  clear hz hr
  cases h1 : okDrop zs m with
  | false =>
    have HC : Hid (drpV zs m = []) := hide (by unfold drpV; rw [h1]; rfl)
    have H1 := hide h1
    clear h1
    go_enter Tryd.func13, Tryd.ntmps13
    go_wp2_with fail
    refine (isPageD_any _ n c zs _ _ HZ.out hn HR.out).mono ?_
    rintro e w1 ⟨rfl, hb⟩
    have HB1 := hide hb
    have HR1 := hide (rd_step HR.out hb)
    clear hb
    rw [H1.out]
    go_wp2
    go_ret2
    exact ⟨_, ret_vbD (by first | exact H1.out.symm | rfl), by rw [HC.out]; exact World.ownsRow_nil _ _ _ _, HB1.out⟩
  | true =>
    have ha : atlasB zs = true ∧ inB m 1 zs.length = true := by unfold okDrop at h1; simp only [Bool.and_eq_true] at h1; exact h1
    have b1 := inB_iff.1 ha.2
    rw [HZ.out] at b1
    obtain ⟨j, rfl⟩ : ∃ j : Nat, m = (j : Int) + 1 := ⟨(m - 1).toNat, by omega⟩
    have hjn : j < n := by omega
    have HA := hide ha.1
    have HC : Hid (drpV zs ((j : Int) + 1) = numL (dropP zs j)) := hide (by unfold drpV; rw [h1, show (((j : Int) + 1) - 1).toNat = j from by omega]; rfl)
    have H1 := hide h1
    clear h1 ha
    obtain ⟨b2, off2, rfl, hb2, _⟩ := rdPg HR.out (by rw [HZ.out]; omega)
    have HLN := hide (dropP_len HZ.out hjn)
    have hji : (j : Int) < (n : Int) := by omega
    have hj0 : (0 : Int) ≤ (j : Int) := by omega
    have k4 : (j : Int) ≤ (c : Int) := by omega
    have k5 : IntKind.i64.wrap (j : Int) = (j : Int) := IntWalk.i64_in _ (by omega)
    have k6 : ((j : Int) + 1).toNat = j + 1 := by omega
    have k7 : (j : Int) + 1 ≤ (n : Int) := by omega
    have k8 : (0 : Int) ≤ (j : Int) + 1 := by omega
    have k9 : ¬ (j : Int) + 1 < 1 := by omega
    have k10 : (j : Int) ≤ (j : Int) + 1 := by omega
    have k11 : (j : Int) + 1 - 1 = (j : Int) := by omega
    have k12 : IntKind.i64.wrap ((j : Int) + 1 - 1) = (j : Int) := by rw [k11]; exact k5
    go_enter Tryd.func13, Tryd.ntmps13
    go_wp2_with fail
    refine (isPageD_any _ n c zs _ _ HZ.out hn HR.out).mono ?_
    rintro e w1 ⟨rfl, hb⟩
    have HB1 := hide hb
    have HR1 := hide (rd_step HR.out hb)
    clear hb
    rw [H1.out]
    obtain ⟨W, hW⟩ : ∃ W, W = w1 := ⟨_, rfl⟩
    subst hW
    go_wp2_with fail
    refine wp_region_held_drew (S := fun w' => Below W.heap.size W w') (by kernel_rfl) (Below.refl _ _).drew (fun hHeld => ?_)
    refine heldP_take 0 10 ?vv1 rfl (by kernel_rfl) (by kernel_rfl) (by kernel_rfl) rfl (fun _ _ _ h => h) (by rfl) ?hy1 (by assumption) ?rest1
    case hy1 => (intro w hSw; (try dsimp only at hSw); go_simp; try with_reducible rfl)
    try simp only [Act.put, List.setIfInBounds_toArray, List.set_cons_zero, List.set_cons_succ]
    refine heldP_take 1 11 ?vv2 rfl (by kernel_rfl) (by kernel_rfl) (by kernel_rfl) rfl (fun _ _ _ h => h) (by rfl) ?hy2 (by assumption) ?rest2
    case hy2 => (intro w hSw; (try dsimp only at hSw); go_simp; try with_reducible rfl)
    try simp only [Act.put, List.setIfInBounds_toArray, List.set_cons_zero, List.set_cons_succ]
    refine heldP_take 2 12 ?vv3 rfl (by kernel_rfl) (by kernel_rfl) (by kernel_rfl) rfl (fun _ _ _ h => h) (by rfl) ?hy3 (by assumption) ?rest3
    case hy3 => (intro w hSw; (try dsimp only at hSw); go_simp; try with_reducible rfl)
    try simp only [Act.put, List.setIfInBounds_toArray, List.set_cons_zero, List.set_cons_succ]
    refine heldP_take 3 13 (.slice (some ⟨b2, off2, none⟩) j c) rfl (by kernel_rfl) (by kernel_rfl) (by kernel_rfl) rfl (fun _ _ _ h => h) (by rfl) ?hy4 (by assumption) ?rest4
    case hy4 => (intro w hSw; (try dsimp only at hSw); go_simp; first | done | (with_reducible rfl) | (unfold behindA; by_cases hcc : c = j + 1 <;> simp [hcc]))
    try simp only [Act.put, List.setIfInBounds_toArray, List.set_cons_zero, List.set_cons_succ]
    refine heldP_take 4 14 ?vv5 rfl (by kernel_rfl) (by kernel_rfl) (by kernel_rfl) rfl (fun _ _ _ h => h) (by rfl) ?hy5 (by assumption) ?rest5
    case hy5 => (intro w hSw; (try dsimp only at hSw); go_simp; try with_reducible rfl)
    try simp only [Act.put, List.setIfInBounds_toArray, List.set_cons_zero, List.set_cons_succ]
    refine heldP_take 5 15 ?vv6 rfl (by kernel_rfl) (by kernel_rfl) (by kernel_rfl) rfl (fun _ _ _ h => h) (by rfl) ?hy6 (by assumption) ?rest6
    case hy6 => (intro w hSw; (try dsimp only at hSw); go_simp; try with_reducible rfl)
    try simp only [Act.put, List.setIfInBounds_toArray, List.set_cons_zero, List.set_cons_succ]
    refine heldP_take 6 16 (.slice (some (behindA b2 off2 j c)) (n - (j + 1)) (c - (j + 1))) rfl (by kernel_rfl) (by kernel_rfl) (by kernel_rfl) rfl (fun _ _ _ h => h) (by rfl) ?hy7 (by assumption) ?rest7
    case hy7 => (intro w hSw; (try dsimp only at hSw); go_simp; first | done | (with_reducible rfl) | (unfold behindA; by_cases hcc : c = j + 1 <;> simp [hcc]))
    try simp only [Act.put, List.setIfInBounds_toArray, List.set_cons_zero, List.set_cons_succ]
    refine wpAnyH_ready (rs := [7]) (by kernel_rfl) (by simp) ?_
    refine AllReadyH.cons rfl (fun K hK => ?_) AllReadyH.nil
    go_simp
    have E0 : ((World.alloc W (.cells #[.slice (some ⟨b2, off2, none⟩) j c, .slice (some (behindA b2 off2 j c)) (n - (j + 1)) (c - (j + 1))] 26)).drew).cell? ⟨W.heap.size, 0, none⟩ = some (.slice (some ⟨b2, off2, none⟩) j c) := (show Blk (World.alloc W.drew (.cells #[.slice (some ⟨b2, off2, none⟩) j c, .slice (some (behindA b2 off2 j c)) (n - (j + 1)) (c - (j + 1))] 26)) W.heap.size 26 #[.slice (some ⟨b2, off2, none⟩) j c, .slice (some (behindA b2 off2 j c)) (n - (j + 1)) (c - (j + 1))] from Blk.new _ _ _).cell 0
    have E1 : ((World.alloc W (.cells #[.slice (some ⟨b2, off2, none⟩) j c, .slice (some (behindA b2 off2 j c)) (n - (j + 1)) (c - (j + 1))] 26)).drew).cell? ⟨W.heap.size, 1, none⟩ = some (.slice (some (behindA b2 off2 j c)) (n - (j + 1)) (c - (j + 1))) := (show Blk (World.alloc W.drew (.cells #[.slice (some ⟨b2, off2, none⟩) j c, .slice (some (behindA b2 off2 j c)) (n - (j + 1)) (c - (j + 1))] 26)) W.heap.size 26 #[.slice (some ⟨b2, off2, none⟩) j c, .slice (some (behindA b2 off2 j c)) (n - (j + 1)) (c - (j + 1))] from Blk.new _ _ _).cell 1
    have gG : W.heap.size < ((World.alloc W (.cells #[.slice (some ⟨b2, off2, none⟩) j c, .slice (some (behindA b2 off2 j c)) (n - (j + 1)) (c - (j + 1))] 26)).drew).heap.size := by simp
    have q1 : Below W.heap.size W ((World.alloc W (.cells #[.slice (some ⟨b2, off2, none⟩) j c, .slice (some (behindA b2 off2 j c)) (n - (j + 1)) (c - (j + 1))] 26)).drew) := ((Below.refl W.heap.size W).alloc (Nat.le_refl _) _).drew
    generalize (World.alloc W (.cells #[.slice (some ⟨b2, off2, none⟩) j c, .slice (some (behindA b2 off2 j c)) (n - (j + 1)) (c - (j + 1))] 26)).drew = u1 at E0 E1 gG q1 ⊢
    refine hK.out _ _ q1 (fun hHeld1 => ?_)
    clear hK K
    try simp only [Act.put, List.setIfInBounds_toArray, List.set_cons_zero, List.set_cons_succ]
    refine wpAnyH_ready (rs := [8]) (by kernel_rfl) (by simp) ?_
    refine AllReadyH.cons rfl (fun K hK => ?_) AllReadyH.nil
    go_simp
    refine (ConcatPage_any W.heap.size ⟨b2, off2, none⟩ (behindA b2 off2 j c) j (n - (j + 1)) c (c - (j + 1)) (zs.take j) (zs.drop (j + 1)) _ E0 E1 gG (by rw [List.length_take, HZ.out]; omega) (by rw [List.length_drop, HZ.out]) (by omega) (by omega) ((rd_step HR1.out q1).takeV j) (Rd.behind HZ.out hnc (rd_step HR1.out q1))).mono ?_
    rintro e u2 ⟨v2, rfl, ho, hb⟩
    go_wp2_with fail
    have q2 : Below W.heap.size W u2 := bl_step q1 hb
    obtain ⟨ao3, c3, rfl, hc3, hm3, RD⟩ := own_rd encPg_len ho HLN.out
    clear hb ho hc3 hm3
    refine hK.out _ _ q2 (fun hHeld2 => ?_)
    clear hK K
    try simp only [Act.put, List.setIfInBounds_toArray, List.set_cons_zero, List.set_cons_succ]
    refine wpAnyH_ready (rs := [9]) (by kernel_rfl) (by simp) ?_
    refine AllReadyH.cons rfl (fun K hK => ?_) AllReadyH.nil
    go_simp
    refine (renumbered_any _ _ _ (dropP zs j) _ HLN.out (by omega) RD).mono ?_
    rintro e u3 ⟨v3, rfl, ho, hb⟩
    go_wp2_with fail
    have q3 : Below W.heap.size W u3 := bl_step q2 hb
    have HO3 := hide (own_base ho q2.size)
    clear hb ho
    refine hK.out _ _ q3 (fun hHeld3 => ?_)
    clear hK K hHeld hHeld1 hHeld2
    try simp only [Act.put, List.setIfInBounds_toArray, List.set_cons_zero, List.set_cons_succ]
    refine heldP_take 10 4 ?vv8 rfl (by kernel_rfl) (by kernel_rfl) (by kernel_rfl) rfl (fun _ _ _ h => h) (by rfl) ?hy8 (by assumption) ?rest8
    case hy8 => (intro w hSw; (try dsimp only at hSw); go_simp; try with_reducible rfl)
    try simp only [Act.put, List.setIfInBounds_toArray, List.set_cons_zero, List.set_cons_succ]
    refine heldP_take 11 5 ?vv9 rfl (by kernel_rfl) (by kernel_rfl) (by kernel_rfl) rfl (fun _ _ _ h => h) (by rfl) ?hy9 (by assumption) ?rest9
    case hy9 => (intro w hSw; (try dsimp only at hSw); go_simp; try with_reducible rfl)
    try simp only [Act.put, List.setIfInBounds_toArray, List.set_cons_zero, List.set_cons_succ]
    refine wpAnyH_done (by kernel_rfl) ?_ _
    have HQ3 := hide q3
    clear hHeld3 E0 E1 gG q1 q2 q3 RD
    have HL4 : Hid ((drpV zs ((j : Int) + 1)).length = j + (n - (j + 1))) := hide (by rw [HC.out, num_len, HLN.out])
    go_wp2
    go_ret2
    exact ⟨_, ret_vbD (by first | exact H1.out.symm | rfl), by rw [HL4.out, HC.out]; exact own_base HO3.out HB1.out.size, bl_step HB1.out HQ3.out⟩

end Go.Proofs.YtdgalehipgdhiaaDoor
