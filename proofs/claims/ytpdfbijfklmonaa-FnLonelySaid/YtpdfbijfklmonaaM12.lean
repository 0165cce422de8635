/- OnlyShownBy: the reference. -/
import Derived.Test.YtpdfbijfklmonaaM10
namespace Go.Proofs.Ytpdfbijfklmonaa
open Go.RowKit
set_option linter.unusedVariables false
set_option linter.unusedSimpArgs false

set_option maxRecDepth 100000 in
set_option maxHeartbeats 2000000 in
theorem sOnlyShownBy_any (a b : Int) (ao : Option Addr) (n c : Nat) (zs : List Cv) (s : Int) (w : World) (hz : zs.length = n) (hn : n ≤ 1048576) (hr : Rd encCv 6 w.heap.size w ao zs) (hnc : n ≤ c) :
    Calls Try.prog 13 #[.int .i64 a, .int .i64 b, .slice ao n c, .int .i64 s] w fun e w' => e = .returned (.tuple #[.int .i64 (onlyV a b zs s), .bool (onlyOk a b zs s)]) ∧ Below w.heap.size w w' := by
  have HZ := hide hz
  have HR := hide hr
  have HF := hide (l12Find_any ao n c zs s w hz hn hr)
  clear hz hr
  rcases idx_cases (isC s) zs with ⟨h1, _, _⟩ | ⟨j, x, hj, hx, hp, h1, h2, _⟩
  · have HOK : Hid (onlyOk a b zs s = false) := hide (by unfold onlyOk; rw [has_no h1, Bool.and_false])
    have H1 := hide h1
    clear h1
    cases hw : wallB a b zs
    all_goals
      have HW := hide hw
      clear hw
      go_enter Try.func13, Try.ntmps13
      go_wp2_with fail
      refine HF.out.mono ?_
      rintro e w1 ⟨rfl, hb⟩
      have HB1 := hide (Below.refl w.heap.size w)
      have HR1 := HR
      subst hb
      clear HF
      rw [H1.out]
      go_wp2_with fail
      refine (l12Wall_any _ _ _ n c zs _ HZ.out hn HR1.out).mono ?_
      rintro e w2 ⟨rfl, hb⟩
      have HB2 := hide (bl_step HB1.out hb)
      have HR2 := hide (rd_step HR1.out hb)
      clear hb
      rw [HW.out]
      go_wp2
      go_ret2
      exact ⟨ret_ib2 (by unfold onlyV; rw [HOK.out]; rfl) HOK.out.symm, HB2.out⟩
  have H1 := hide h1
  have HJ := hide hj
  have hjn : j < n := by rw [HZ.out] at hj; exact hj
  have hji : (j : Int) < (n : Int) := by omega
  have hj0 : (0 : Int) ≤ (j : Int) := by omega
  cases hw : wallB a b zs with
  | false =>
    have HOK : Hid (onlyOk a b zs s = false) := hide (by unfold onlyOk; rw [hw]; rfl)
    have HW := hide hw
    clear hw h1 h2 hp hx hj
    go_enter Try.func13, Try.ntmps13
    go_wp2_with fail
    refine HF.out.mono ?_
    rintro e w1 ⟨rfl, hb⟩
    have HB1 := hide (Below.refl w.heap.size w)
    have HR1 := HR
    subst hb
    clear HF
    rw [H1.out]
    go_wp2_with fail
    refine (l12Wall_any _ _ _ n c zs _ HZ.out hn HR1.out).mono ?_
    rintro e w2 ⟨rfl, hb⟩
    have HB2 := hide (bl_step HB1.out hb)
    have HR2 := hide (rd_step HR1.out hb)
    clear hb
    rw [HW.out]
    go_wp2
    go_ret2
    exact ⟨ret_ib2 (by unfold onlyV; rw [HOK.out]; rfl) HOK.out.symm, HB2.out⟩
  | true =>
    have HOK : Hid (onlyOk a b zs s = true) := hide (by unfold onlyOk; rw [hw, has_yes h1]; rfl)
    have HV : Hid (onlyV a b zs s = cntX (dropC zs j) b.toNat a.toNat - cntX zs b.toNat a.toNat) := hide (by unfold onlyV; rw [HOK.out, h1]; rfl)
    have HW := hide hw
    have hw2 := hw
    unfold wallB at hw2; simp only [Bool.and_eq_true] at hw2
    have b1 := inB_iff.1 hw2.1.1
    have b2 := inB_iff.1 hw2.1.2
    have HG := hide (good_of hw2.2)
    clear hw h1 h2 hp hx hj hw2
    obtain ⟨wd, rfl⟩ : ∃ k : Nat, a = k := ⟨a.toNat, by omega⟩
    obtain ⟨hg, rfl⟩ : ∃ k : Nat, b = k := ⟨b.toNat, by omega⟩
    obtain ⟨b2, off2, rfl, hb2, _⟩ := rdCv HR.out (by rw [HZ.out]; omega)
    have HLN := hide (dropC_len HZ.out hjn)
    have xb1 := cntX_bd (dropC zs j) (h := hg) (by omega) wd
    have xb2 := cntX_bd zs (h := hg) (by omega) wd
    obtain ⟨X1, hX1⟩ : ∃ X1, X1 = cntX (dropC zs j) hg wd := ⟨_, rfl⟩
    obtain ⟨X2, hX2⟩ : ∃ X2, X2 = cntX zs hg wd := ⟨_, rfl⟩
    rw [← hX1] at xb1
    rw [← hX2] at xb2
    have HV2 : Hid (onlyV wd hg zs s = X1 - X2) := hide (by rw [HV.out, hX1, hX2]; simp)
    have HX1 := hide hX1
    have HX2 := hide hX2
    have k9 : IntKind.i64.wrap (X1 - X2) = X1 - X2 := IntWalk.i64_in _ (by omega)
    clear hX1 hX2 HV
    have k4 : (j : Int) ≤ (c : Int) := by omega
    have k5 : IntKind.i64.wrap ((j : Int) + 1) = (j : Int) + 1 := IntWalk.i64_in _ (by omega)
    have k6 : ((j : Int) + 1).toNat = j + 1 := by omega
    have k7 : (j : Int) + 1 ≤ (n : Int) := by omega
    have k8 : (0 : Int) ≤ (j : Int) + 1 := by omega
    have k10 : (j : Int) ≤ (j : Int) + 1 := by omega
    obtain ⟨i0, hi, hz0, hz1, hz2⟩ := info_parts infoCv
    have HI := hide (And.intro hi (And.intro hz0 (And.intro hz1 hz2)))
    clear hi hz0 hz1 hz2
    go_enter Try.func13, Try.ntmps13
    go_wp2_with fail
    refine HF.out.mono ?_
    rintro e w1 ⟨rfl, hb⟩
    have HB1 := hide (Below.refl w.heap.size w)
    have HR1 := HR
    subst hb
    clear HF
    rw [H1.out]
    go_wp2_with fail
    refine (l12Wall_any _ _ _ n c zs _ HZ.out hn HR1.out).mono ?_
    rintro e w2 ⟨rfl, hb⟩
    have HB2 := hide (bl_step HB1.out hb)
    have HR2 := hide (rd_step HR1.out hb)
    clear hb
    rw [HW.out]
    obtain ⟨W, hW⟩ : ∃ W, W = w2 := ⟨_, rfl⟩
    subst hW
    go_wp2_with fail
    refine wp_region_held_drew (S := fun w' => Below W.heap.size W w') (by kernel_rfl) (Below.refl _ _).drew (fun hHeld => ?_)
    refine held_take 1 25 ?vv41 rfl (by kernel_rfl) (by kernel_rfl) (by kernel_rfl) rfl (fun _ _ _ h => h) (by rfl) ?hy41 (by assumption) ?rest41
    case hy41 => (intro w hSw; (try dsimp only at hSw); go_simp; try with_reducible rfl)
    try simp only [Act.put, List.setIfInBounds_toArray, List.set_cons_zero, List.set_cons_succ]
    refine held_take 2 26 ?vv42 rfl (by kernel_rfl) (by kernel_rfl) (by kernel_rfl) rfl (fun _ _ _ h => h) (by rfl) ?hy42 (by assumption) ?rest42
    case hy42 => (intro w hSw; (try dsimp only at hSw); go_simp; try with_reducible rfl)
    try simp only [Act.put, List.setIfInBounds_toArray, List.set_cons_zero, List.set_cons_succ]
    refine held_take 3 27 ?vv43 rfl (by kernel_rfl) (by kernel_rfl) (by kernel_rfl) rfl (fun _ _ _ h => h) (by rfl) ?hy43 (by assumption) ?rest43
    case hy43 => (intro w hSw; (try dsimp only at hSw); go_simp; try with_reducible rfl)
    try simp only [Act.put, List.setIfInBounds_toArray, List.set_cons_zero, List.set_cons_succ]
    refine held_take 5 29 ?vv44 rfl (by kernel_rfl) (by kernel_rfl) (by kernel_rfl) rfl (fun _ _ _ h => h) (by rfl) ?hy44 (by assumption) ?rest44
    case hy44 => (intro w hSw; (try dsimp only at hSw); go_simp; try with_reducible rfl)
    try simp only [Act.put, List.setIfInBounds_toArray, List.set_cons_zero, List.set_cons_succ]
    refine held_take 6 30 ?vv45 rfl (by kernel_rfl) (by kernel_rfl) (by kernel_rfl) rfl (fun _ _ _ h => h) (by rfl) ?hy45 (by assumption) ?rest45
    case hy45 => (intro w hSw; (try dsimp only at hSw); go_simp; try with_reducible rfl)
    try simp only [Act.put, List.setIfInBounds_toArray, List.set_cons_zero, List.set_cons_succ]
    refine held_take 7 31 ?vv46 rfl (by kernel_rfl) (by kernel_rfl) (by kernel_rfl) rfl (fun _ _ _ h => h) (by rfl) ?hy46 (by assumption) ?rest46
    case hy46 => (intro w hSw; (try dsimp only at hSw); go_simp; try with_reducible rfl)
    try simp only [Act.put, List.setIfInBounds_toArray, List.set_cons_zero, List.set_cons_succ]
    refine held_take 8 32 (.slice (some (behindA b2 off2 j c)) (n - (j + 1)) (c - (j + 1))) rfl (by kernel_rfl) (by kernel_rfl) (by kernel_rfl) rfl (fun _ _ _ h => h) (by rfl) ?hy47 (by assumption) ?rest47
    case hy47 => (intro w hSw; (try dsimp only at hSw); go_simp; first | done | (with_reducible rfl) | (unfold behindA; by_cases hcc : c = j + 1 <;> simp [hcc]))
    try simp only [Act.put, List.setIfInBounds_toArray, List.set_cons_zero, List.set_cons_succ]
    refine wpAnyH_ready (rs := [0]) (by kernel_rfl) (by simp) ?_
    refine AllReadyH.cons rfl (fun K hK => ?_) AllReadyH.nil
    go_simp
    have HE0 : (W.drew.alloc (.cells #[] 60)).ownsRow W.heap.size 60 6 (.slice (some ⟨W.heap.size, 0, none⟩) 0 0) 0 [] := World.ownsRow_made W.drew #[] 0 (Nat.le_refl _) (by simp [maxLen]) rfl
    have q0 : Below W.heap.size W (W.drew.alloc (.cells #[] 60)) := ((Below.refl W.heap.size W).drew).alloc (Nat.le_refl _) _
    refine hK.out _ _ q0 (fun hHeld2 => ?_)
    clear hK K hHeld
    obtain ⟨hi, hz0, hz1, hz2⟩ := HI.out
    try simp only [Act.put, List.setIfInBounds_toArray, List.set_cons_zero, List.set_cons_succ]
    refine wpAnyH_ready (rs := [4]) (by kernel_rfl) (by simp) ?_
    refine AllReadyH.cons rfl (fun K hK => ?_) AllReadyH.nil
    refine step_append_own (by rfl) _ _ _ (by rfl) W.heap.size 60 i0 _ 6 48 Try.underlying26 hi hz0 hz1 hz2 rfl (by omega) _ 0 [] (by rfl) HE0 ⟨b2, off2, none⟩ j c ((zs.take j).flatMap encCv) (by rfl) (by rw [flat_len encCv_len, List.length_take, HZ.out, Nat.min_eq_left (by omega)]) (rd_flat encCv_len ((rd_step HR2.out q0).takeV j)) (flat_one encCv_one _) (by unfold maxLen; omega) (by omega) (by have := Below.size q0; first | (simp; done) | (simp; omega) | omega) ?_
    intro v3 w3 hown hgrow
    have q3 : Below W.heap.size W w3 := bl_grown q0 HE0 (Nat.le_refl _) hgrow
    have ho3 : w3.ownsRow W.heap.size 60 6 v3 j ((zs.take j).flatMap encCv) := by first | exact hown | (rw [Nat.zero_add, List.nil_append] at hown; exact hown)
    refine hK.out _ _ q3 (fun hHeld3 => ?_)
    clear hK K hown hHeld2
    try simp only [Act.put, List.setIfInBounds_toArray, List.set_cons_zero, List.set_cons_succ]
    refine wpAnyH_ready (rs := [9]) (by kernel_rfl) (by simp) ?_
    refine AllReadyH.cons rfl (fun K hK => ?_) AllReadyH.nil
    refine step_append_own (by rfl) _ _ _ (by rfl) W.heap.size 60 i0 _ 6 48 Try.underlying26 hi hz0 hz1 hz2 rfl (by omega) _ j _ (by rfl) ho3 (behindA b2 off2 j c) (n - (j + 1)) (c - (j + 1)) ((zs.drop (j + 1)).flatMap encCv) (by rfl) (by rw [flat_len encCv_len, List.length_drop, HZ.out]) (rd_flat encCv_len (Rd.behind HZ.out hnc (rd_step HR2.out q3))) (flat_one encCv_one _) (by unfold maxLen; omega) (by omega) (by have := Below.size q3; first | (simp; done) | (simp; omega) | omega) ?_
    intro v4 w4 hown hgrow
    have q4 : Below W.heap.size W w4 := bl_grown q3 ho3 (Nat.le_refl _) hgrow
    have ho4 : w4.ownsRow W.heap.size 60 6 v4 (j + (n - (j + 1))) ((dropC zs j).flatMap encCv) := by unfold dropC; rw [List.flatMap_append]; exact hown
    refine hK.out _ _ q4 (fun hHeld4 => ?_)
    clear hK K hown hHeld3
    try simp only [Act.put, List.setIfInBounds_toArray, List.set_cons_zero, List.set_cons_succ]
    refine held_take 10 11 ?vv48 rfl (by kernel_rfl) (by kernel_rfl) (by kernel_rfl) rfl (fun _ _ _ h => h) (by rfl) ?hy48 (by assumption) ?rest48
    case hy48 => (intro w hSw; (try dsimp only at hSw); go_simp; try with_reducible rfl)
    try simp only [Act.put, List.setIfInBounds_toArray, List.set_cons_zero, List.set_cons_succ]
    refine wpAnyH_done (by kernel_rfl) ?_ _
    have HB4 := hide (bl_step HB2.out q4)
    have HR4 := hide (rd_step HR2.out q4)
    obtain ⟨ao3, c3, rfl, hc3, hm3, hrd⟩ := own_rd encCv_len ho4 HLN.out
    have HRD := hide hrd
    clear hrd ho4 ho3 HE0 q0 q3 q4 hc3 hm3 hHeld4
    go_wp2_with fail
    refine (l12Bare_any wd hg (by omega) (by omega) _ _ _ (dropC zs j) _ HLN.out (by omega) HRD.out).mono ?_
    rintro e w5 ⟨rfl, hb⟩
    have HB5 := hide (bl_step HB4.out hb)
    have HR5 := hide (rd_step HR4.out hb)
    clear hb
    rw [← HX1.out]
    go_wp2_with fail
    refine (l12Bare_any wd hg (by omega) (by omega) _ n c zs _ HZ.out hn HR5.out).mono ?_
    rintro e w6 ⟨rfl, hb⟩
    have HB6 := hide (bl_step HB5.out hb)
    clear hb
    rw [← HX2.out]
    go_wp2
    go_ret2
    exact ⟨ret_ib2 (by rw [HV2.out]) HOK.out.symm, HB6.out⟩

end Go.Proofs.Ytpdfbijfklmonaa
