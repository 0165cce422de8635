/- DropPage: the reference at whatever room. -/
import Derived.Test.YtdgalehipgdhiaaDoorD1
import Derived.Test.YtdgalehipgdhiaaDoorA11g
namespace Go.Proofs.YtdgalehipgdhiaaDoor
open Go.RowKit
set_option linter.unusedVariables false
set_option linter.unusedSimpArgs false

set_option maxRecDepth 100000 in
set_option maxHeartbeats 1000000 in
theorem sDropPageC_any (ao : Option Addr) (n c : Nat) (zs : List Pg) (m : Int) (hcap : n ≤ c) (w : World) (hz : zs.length = n) (hn : n ≤ 1048576) (hr : Rd encPg 4 w.heap.size w ao zs) :
    Calls Tryd.prog 14 #[.slice ao n c, .int .i64 m] w fun e w' => ∃ v, e = .returned (.tuple #[v, .bool (okDrop zs m)]) ∧ w'.ownsRow w.heap.size 58 4 v (drpV zs m).length ((drpV zs m).flatMap encPg) ∧ Below w.heap.size w w' := by
  have HZ := hide hz
  have HR := hide hr
  clear hz hr
  rcases first2 (atlasB zs) (inB m 1 n) with h1 | ⟨h1, h2⟩ | ⟨h1, h2⟩
  · have HOK : Hid (okDrop zs m = false) := hide (by unfold okDrop; rw [h1]; rfl)
    have HC : Hid (drpV zs m = []) := hide (by unfold drpV; rw [HOK.out]; rfl)
    have H1 := hide h1
    clear h1
    go_enter Tryd.func14, Tryd.ntmps14
    go_wp2_with fail
    refine (l13GoodC_any _ n c zs hcap _ HZ.out hn HR.out).mono ?_
    rintro e w1 ⟨rfl, hb⟩
    have HB1 := hide hb
    have HR1 := hide (rd_step HR.out hb)
    clear hb
    rw [H1.out]
    go_wp2_with (go_at_call 33; refine (l1In_any _ _ _ _).mono ?_; rintro e w' ⟨rfl, rfl⟩)
    go_ret2
    exact ⟨_, ret_vbD (by first | exact HOK.out.symm | rfl), by rw [HC.out]; exact World.ownsRow_made _ #[] 0 HB1.out.size (by simp [maxLen]) rfl, HB1.out.alloc HB1.out.size _⟩
  · have HOK : Hid (okDrop zs m = false) := hide (by unfold okDrop; rw [h1, HZ.out, h2]; rfl)
    have HC : Hid (drpV zs m = []) := hide (by unfold drpV; rw [HOK.out]; rfl)
    have H1 := hide h1
    clear h1
    go_enter Tryd.func14, Tryd.ntmps14
    go_wp2_with fail
    refine (l13GoodC_any _ n c zs hcap _ HZ.out hn HR.out).mono ?_
    rintro e w1 ⟨rfl, hb⟩
    have HB1 := hide hb
    have HR1 := hide (rd_step HR.out hb)
    clear hb
    rw [H1.out]
    go_wp2_with (go_at_call 33; refine (l1In_any _ _ _ _).mono ?_; rintro e w' ⟨rfl, rfl⟩)
    go_ret2
    exact ⟨_, ret_vbD (by first | exact HOK.out.symm | rfl), by rw [HC.out]; exact World.ownsRow_made _ #[] 0 HB1.out.size (by simp [maxLen]) rfl, HB1.out.alloc HB1.out.size _⟩
  · have h1 : okDrop zs m = true := by unfold okDrop; rw [h1, HZ.out, h2]; rfl
    have HOK := hide h1
    clear h2
    have ha : atlasB zs = true ∧ inB m 1 zs.length = true := by unfold okDrop at h1; simp only [Bool.and_eq_true] at h1; exact h1
    have b1 := inB_iff.1 ha.2
    rw [HZ.out] at b1
    obtain ⟨j, rfl⟩ : ∃ j : Nat, m = (j : Int) + 1 := ⟨(m - 1).toNat, by omega⟩
    have hjn : j < n := by omega
    have HA := hide ha.1
    have HC : Hid (drpV zs ((j : Int) + 1) = numL (dropP zs j)) := hide (by unfold drpV; rw [h1, show (((j : Int) + 1) - 1).toNat = j from by omega]; rfl)
    have H1 := hide h1
    clear h1 ha
    obtain ⟨b2, off2, rfl, hb2, _⟩ := rdPg HR.out (by rw [HZ.out]; omega)
    have HLN := hide (dropP_len HZ.out hjn)
    have hji : (j : Int) < (n : Int) := by omega
    have hj0 : (0 : Int) ≤ (j : Int) := by omega
    have k4n : (j : Int) ≤ (n : Int) := by omega
    have k4 : (j : Int) ≤ (c : Int) := by omega
    have k5 : IntKind.i64.wrap (j : Int) = (j : Int) := IntWalk.i64_in _ (by omega)
    have k6 : ((j : Int) + 1).toNat = j + 1 := by omega
    have k7 : (j : Int) + 1 ≤ (n : Int) := by omega
    have k8 : (0 : Int) ≤ (j : Int) + 1 := by omega
    have k9 : ¬ (j : Int) + 1 < 1 := by omega
    have k10 : (j : Int) ≤ (j : Int) + 1 := by omega
    have k11 : (j : Int) + 1 - 1 = (j : Int) := by omega
    have k12 : IntKind.i64.wrap ((j : Int) + 1 - 1) = (j : Int) := by rw [k11]; exact k5
    have H2 : Hid (inB ((j : Int) + 1) 1 n = true) := hide (inB_iff.2 b1)
    obtain ⟨i0, hi, hz0, hz1, hz2⟩ := info_parts infoPg
    have HI := hide (And.intro hi (And.intro hz0 (And.intro hz1 hz2)))
    clear hi hz0 hz1 hz2
    have h2 := H2.out
    go_enter Tryd.func14, Tryd.ntmps14
    go_wp2_with fail
    refine (l13GoodC_any _ n c zs hcap _ HZ.out hn HR.out).mono ?_
    rintro e w1 ⟨rfl, hb⟩
    have HB1 := hide hb
    have HR1 := hide (rd_step HR.out hb)
    clear hb
    rw [HA.out]
    obtain ⟨W, hW⟩ : ∃ W, W = w1 := ⟨_, rfl⟩
    subst hW
    go_wp2_with (go_at_call 33; refine (l1In_any _ _ _ _).mono ?_; rintro e w' ⟨rfl, rfl⟩)
    refine wp_region_held_drew (S := fun w' => Below W.heap.size W w') (by kernel_rfl) (Below.refl _ _).drew (fun hHeld => ?_)
    refine heldP_take 1 18 ?vv17 rfl (by kernel_rfl) (by kernel_rfl) (by kernel_rfl) rfl (fun _ _ _ h => h) (by rfl) ?hy17 (by assumption) ?rest17
    case hy17 => (intro w hSw; (try dsimp only at hSw); go_simp; try with_reducible rfl)
    try simp only [Act.put, List.setIfInBounds_toArray, List.set_cons_zero, List.set_cons_succ]
    refine heldP_take 2 19 ?vv18 rfl (by kernel_rfl) (by kernel_rfl) (by kernel_rfl) rfl (fun _ _ _ h => h) (by rfl) ?hy18 (by assumption) ?rest18
    case hy18 => (intro w hSw; (try dsimp only at hSw); go_simp; try with_reducible rfl)
    try simp only [Act.put, List.setIfInBounds_toArray, List.set_cons_zero, List.set_cons_succ]
    refine heldP_take 3 20 ?vv19 rfl (by kernel_rfl) (by kernel_rfl) (by kernel_rfl) rfl (fun _ _ _ h => h) (by rfl) ?hy19 (by assumption) ?rest19
    case hy19 => (intro w hSw; (try dsimp only at hSw); go_simp; try with_reducible rfl)
    try simp only [Act.put, List.setIfInBounds_toArray, List.set_cons_zero, List.set_cons_succ]
    refine heldP_take 4 21 (.slice (some ⟨b2, off2, none⟩) j c) rfl (by kernel_rfl) (by kernel_rfl) (by kernel_rfl) rfl (fun _ _ _ h => h) (by rfl) ?hy20 (by assumption) ?rest20
    case hy20 => (intro w hSw; (try dsimp only at hSw); go_simp; first | done | (with_reducible rfl) | (unfold behindA; by_cases hcc : c = j + 1 <;> simp [hcc]))
    try simp only [Act.put, List.setIfInBounds_toArray, List.set_cons_zero, List.set_cons_succ]
    refine heldP_take 6 23 ?vv21 rfl (by kernel_rfl) (by kernel_rfl) (by kernel_rfl) rfl (fun _ _ _ h => h) (by rfl) ?hy21 (by assumption) ?rest21
    case hy21 => (intro w hSw; (try dsimp only at hSw); go_simp; try with_reducible rfl)
    try simp only [Act.put, List.setIfInBounds_toArray, List.set_cons_zero, List.set_cons_succ]
    refine heldP_take 7 24 ?vv22 rfl (by kernel_rfl) (by kernel_rfl) (by kernel_rfl) rfl (fun _ _ _ h => h) (by rfl) ?hy22 (by assumption) ?rest22
    case hy22 => (intro w hSw; (try dsimp only at hSw); go_simp; try with_reducible rfl)
    try simp only [Act.put, List.setIfInBounds_toArray, List.set_cons_zero, List.set_cons_succ]
    refine heldP_take 8 25 (.slice (some (behindA b2 off2 j c)) (n - (j + 1)) (c - (j + 1))) rfl (by kernel_rfl) (by kernel_rfl) (by kernel_rfl) rfl (fun _ _ _ h => h) (by rfl) ?hy23 (by assumption) ?rest23
    case hy23 => (intro w hSw; (try dsimp only at hSw); go_simp; first | done | (with_reducible rfl) | (unfold behindA; by_cases hcc : c = j + 1 <;> simp [hcc]))
    try simp only [Act.put, List.setIfInBounds_toArray, List.set_cons_zero, List.set_cons_succ]
    refine wpAnyH_ready (rs := [0]) (by kernel_rfl) (by simp) ?_
    refine AllReadyH.cons rfl (fun K hK => ?_) AllReadyH.nil
    go_simp
    have HE0 : (W.drew.alloc (.cells #[] 58)).ownsRow W.heap.size 58 4 (.slice (some ⟨W.heap.size, 0, none⟩) 0 0) 0 [] := World.ownsRow_made W.drew #[] 0 (Nat.le_refl _) (by simp [maxLen]) rfl
    have q0 : Below W.heap.size W (W.drew.alloc (.cells #[] 58)) := ((Below.refl W.heap.size W).drew).alloc (Nat.le_refl _) _
    refine hK.out _ _ q0 (fun hHeld2 => ?_)
    clear hK K hHeld
    obtain ⟨hi, hz0, hz1, hz2⟩ := HI.out
    try simp only [Act.put, List.setIfInBounds_toArray, List.set_cons_zero, List.set_cons_succ]
    refine wpAnyH_ready (rs := [5]) (by kernel_rfl) (by simp) ?_
    refine AllReadyH.cons rfl (fun K hK => ?_) AllReadyH.nil
    refine step_append_own (by rfl) _ _ _ (by rfl) W.heap.size 58 i0 _ 4 32 Tryd.underlying26 hi hz0 hz1 hz2 rfl (by omega) _ 0 [] (by rfl) HE0 ⟨b2, off2, none⟩ j c ((zs.take j).flatMap encPg) (by rfl) (by rw [flat_len encPg_len, List.length_take, HZ.out, Nat.min_eq_left (by omega)]) (rd_flat encPg_len ((rd_step HR1.out q0).takeV j)) (flat_one encPg_one _) (by unfold maxLen; omega) (by omega) (by have := Below.size q0; first | (simp; done) | (simp; omega) | omega) ?_
    intro v3 w3 hown hgrow
    have q3 : Below W.heap.size W w3 := bl_grown q0 HE0 (Nat.le_refl _) hgrow
    have ho3 : w3.ownsRow W.heap.size 58 4 v3 j ((zs.take j).flatMap encPg) := by first | exact hown | (rw [Nat.zero_add, List.nil_append] at hown; exact hown)
    refine hK.out _ _ q3 (fun hHeld3 => ?_)
    clear hK K hown hgrow hHeld2
    try simp only [Act.put, List.setIfInBounds_toArray, List.set_cons_zero, List.set_cons_succ]
    refine wpAnyH_ready (rs := [9]) (by kernel_rfl) (by simp) ?_
    refine AllReadyH.cons rfl (fun K hK => ?_) AllReadyH.nil
    refine step_append_own (by rfl) _ _ _ (by rfl) W.heap.size 58 i0 _ 4 32 Tryd.underlying26 hi hz0 hz1 hz2 rfl (by omega) _ j _ (by rfl) ho3 (behindA b2 off2 j c) (n - (j + 1)) (c - (j + 1)) ((zs.drop (j + 1)).flatMap encPg) (by rfl) (by rw [flat_len encPg_len, List.length_drop, HZ.out]) (rd_flat encPg_len (Rd.behind HZ.out hcap (rd_step HR1.out q3))) (flat_one encPg_one _) (by unfold maxLen; omega) (by omega) (by have := Below.size q3; first | (simp; done) | (simp; omega) | omega) ?_
    intro v4 w4 hown hgrow
    have q4 : Below W.heap.size W w4 := bl_grown q3 ho3 (Nat.le_refl _) hgrow
    have ho4 : w4.ownsRow W.heap.size 58 4 v4 (j + (n - (j + 1))) ((dropP zs j).flatMap encPg) := by unfold dropP; rw [List.flatMap_append]; exact hown
    refine hK.out _ _ q4 (fun hHeld4 => ?_)
    clear hK K hown hgrow hHeld3
    try simp only [Act.put, List.setIfInBounds_toArray, List.set_cons_zero, List.set_cons_succ]
    obtain ⟨ao3, c3, rfl, hc3, hm3, hrd⟩ := own_rd encPg_len ho4 HLN.out
    have HRD := hide hrd
    clear hrd hc3 hm3
    refine wpAnyH_ready (rs := [10]) (by kernel_rfl) (by simp) ?_
    refine AllReadyH.cons rfl (fun K hK => ?_) AllReadyH.nil
    go_simp
    refine (l13Numbered_any _ _ _ (dropP zs j) _ HLN.out (by omega) HRD.out).mono ?_
    rintro e w6 ⟨v6, rfl, ho, hb⟩
    go_wp2_with fail
    have q6 : Below W.heap.size W w6 := bl_step q4 hb
    have HO6 := hide (own_base ho q4.size)
    clear hb ho
    refine hK.out _ _ q6 (fun hHeld6 => ?_)
    clear hK K hHeld4
    try simp only [Act.put, List.setIfInBounds_toArray, List.set_cons_zero, List.set_cons_succ]
    refine heldP_take 11 4 ?vv24 rfl (by kernel_rfl) (by kernel_rfl) (by kernel_rfl) rfl (fun _ _ _ h => h) (by rfl) ?hy24 (by assumption) ?rest24
    case hy24 => (intro w hSw; (try dsimp only at hSw); go_simp; try with_reducible rfl)
    try simp only [Act.put, List.setIfInBounds_toArray, List.set_cons_zero, List.set_cons_succ]
    refine heldP_take 12 5 ?vv25 rfl (by kernel_rfl) (by kernel_rfl) (by kernel_rfl) rfl (fun _ _ _ h => h) (by rfl) ?hy25 (by assumption) ?rest25
    case hy25 => (intro w hSw; (try dsimp only at hSw); go_simp; try with_reducible rfl)
    try simp only [Act.put, List.setIfInBounds_toArray, List.set_cons_zero, List.set_cons_succ]
    refine wpAnyH_done (by kernel_rfl) ?_ _
    have HQ6 := hide q6
    clear hHeld6 ho4 ho3 HE0 q0 q3 q4 q6 HRD
    have HL4 : Hid ((drpV zs ((j : Int) + 1)).length = j + (n - (j + 1))) := hide (by rw [HC.out, num_len, HLN.out])
    go_wp2
    go_ret2
    exact ⟨_, ret_vbD (by first | exact HOK.out.symm | rfl), by rw [HL4.out, HC.out]; exact own_base HO6.out HB1.out.size, bl_step HB1.out HQ6.out⟩

end Go.Proofs.YtdgalehipgdhiaaDoor
