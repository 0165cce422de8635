/- OnlyShownBy: the program. -/
import Derived.Test.YtpdfbijfklmonaaM10
namespace Go.Proofs.Ytpdfbijfklmonaa
open Go.RowKit
set_option linter.unusedVariables false
set_option linter.unusedSimpArgs false

set_option maxRecDepth 100000 in
set_option maxHeartbeats 2000000 in
theorem OnlyShownBy_any (a b : Int) (ao : Option Addr) (n c : Nat) (zs : List Cv) (s : Int) (w : World) (hz : zs.length = n) (hn : n ≤ 1048576) (hr : Rd encCv 6 w.heap.size w ao zs) (hnc : n ≤ c) :
    Calls Try.prog 15 #[.int .i64 a, .int .i64 b, .slice ao n c, .int .i64 s] w fun e w' => e = .returned (.tuple #[.int .i64 (onlyV a b zs s), .bool (onlyOk a b zs s)]) ∧ Below w.heap.size w w' := by
  have HZ := hide hz
  have HR := hide hr
  have HF := hide (coverAt_any ao n c zs s w hz hn hr)
  clear hz hr
  rcases idx_cases (isC s) zs with ⟨h1, _, _⟩ | ⟨j, x, hj, hx, hp, h1, h2, _⟩
  · have HOK : Hid (onlyOk a b zs s = false) := hide (by unfold onlyOk; rw [has_no h1, Bool.and_false])
    have H1 := hide h1
    clear h1
    cases hw : wallB a b zs
    all_goals
      have HW := hide hw
      clear hw
      go_enter Try.func15, Try.ntmps15
      go_wp2_with fail
      refine HF.out.mono ?_
      rintro e w1 ⟨rfl, hb⟩
      have HB1 := hide hb
      have HR1 := hide (rd_step HR.out hb)
      clear hb HF
      rw [H1.out]
      go_wp2_with fail
      refine (isWall_any _ _ _ n c zs _ HZ.out hn HR1.out).mono ?_
      rintro e w2 ⟨rfl, hb⟩
      have HB2 := hide (bl_step HB1.out hb)
      have HR2 := hide (rd_step HR1.out hb)
      clear hb
      rw [HW.out]
      go_wp2
      go_ret2
      exact ⟨ret_ib2 (by unfold onlyV; rw [HOK.out]; rfl) HOK.out.symm, HB2.out⟩
  have H1 := hide h1
  have HJ := hide hj
  have hjn : j < n := by rw [HZ.out] at hj; exact hj
  have hji : (j : Int) < (n : Int) := by omega
  have hj0 : (0 : Int) ≤ (j : Int) := by omega
  cases hw : wallB a b zs with
  | false =>
    have HOK : Hid (onlyOk a b zs s = false) := hide (by unfold onlyOk; rw [hw]; rfl)
    have HW := hide hw
    clear hw h1 h2 hp hx hj
    go_enter Try.func15, Try.ntmps15
    go_wp2_with fail
    refine HF.out.mono ?_
    rintro e w1 ⟨rfl, hb⟩
    have HB1 := hide hb
    have HR1 := hide (rd_step HR.out hb)
    clear hb HF
    rw [H1.out]
    go_wp2_with fail
    refine (isWall_any _ _ _ n c zs _ HZ.out hn HR1.out).mono ?_
    rintro e w2 ⟨rfl, hb⟩
    have HB2 := hide (bl_step HB1.out hb)
    have HR2 := hide (rd_step HR1.out hb)
    clear hb
    rw [HW.out]
    go_wp2
    go_ret2
    exact ⟨ret_ib2 (by unfold onlyV; rw [HOK.out]; rfl) HOK.out.symm, HB2.out⟩
  | true =>
    have HOK : Hid (onlyOk a b zs s = true) := hide (by unfold onlyOk; rw [hw, has_yes h1]; rfl)
    have HV : Hid (onlyV a b zs s = cntX (dropC zs j) b.toNat a.toNat - cntX zs b.toNat a.toNat) := hide (by unfold onlyV; rw [HOK.out, h1]; rfl)
    have HW := hide hw
    have hw2 := hw
    unfold wallB at hw2; simp only [Bool.and_eq_true] at hw2
    have b1 := inB_iff.1 hw2.1.1
    have b2 := inB_iff.1 hw2.1.2
    have HG := hide (good_of hw2.2)
    clear hw h1 h2 hp hx hj hw2
    obtain ⟨wd, rfl⟩ : ∃ k : Nat, a = k := ⟨a.toNat, by omega⟩
    obtain ⟨hg, rfl⟩ : ∃ k : Nat, b = k := ⟨b.toNat, by omega⟩
    obtain ⟨b2, off2, rfl, hb2, _⟩ := rdCv HR.out (by rw [HZ.out]; omega)
    have HLN := hide (dropC_len HZ.out hjn)
    have xb1 := cntX_bd (dropC zs j) (h := hg) (by omega) wd
    have xb2 := cntX_bd zs (h := hg) (by omega) wd
    obtain ⟨X1, hX1⟩ : ∃ X1, X1 = cntX (dropC zs j) hg wd := ⟨_, rfl⟩
    obtain ⟨X2, hX2⟩ : ∃ X2, X2 = cntX zs hg wd := ⟨_, rfl⟩
    rw [← hX1] at xb1
    rw [← hX2] at xb2
    have HV2 : Hid (onlyV wd hg zs s = X1 - X2) := hide (by rw [HV.out, hX1, hX2]; simp)
    have HX1 := hide hX1
    have HX2 := hide hX2
    have k9 : IntKind.i64.wrap (X1 - X2) = X1 - X2 := IntWalk.i64_in _ (by omega)
    clear hX1 hX2 HV
    have k4 : (j : Int) ≤ (c : Int) := by omega
    have k5 : IntKind.i64.wrap ((j : Int) + 1) = (j : Int) + 1 := IntWalk.i64_in _ (by omega)
    have k6 : ((j : Int) + 1).toNat = j + 1 := by omega
    have k7 : (j : Int) + 1 ≤ (n : Int) := by omega
    have k8 : (0 : Int) ≤ (j : Int) + 1 := by omega
    have k10 : (j : Int) ≤ (j : Int) + 1 := by omega
    go_enter Try.func15, Try.ntmps15
    go_wp2_with fail
    refine HF.out.mono ?_
    rintro e w1 ⟨rfl, hb⟩
    have HB1 := hide hb
    have HR1 := hide (rd_step HR.out hb)
    clear hb HF
    rw [H1.out]
    go_wp2_with fail
    refine (isWall_any _ _ _ n c zs _ HZ.out hn HR1.out).mono ?_
    rintro e w2 ⟨rfl, hb⟩
    have HB2 := hide (bl_step HB1.out hb)
    have HR2 := hide (rd_step HR1.out hb)
    clear hb
    rw [HW.out]
    obtain ⟨W, hW⟩ : ∃ W, W = w2 := ⟨_, rfl⟩
    subst hW
    go_wp2_with fail
    refine wp_region_held_drew (S := fun w' => Below W.heap.size W w') (by kernel_rfl) (Below.refl _ _).drew (fun hHeld => ?_)
    refine held_take 0 23 ?vv49 rfl (by kernel_rfl) (by kernel_rfl) (by kernel_rfl) rfl (fun _ _ _ h => h) (by rfl) ?hy49 (by assumption) ?rest49
    case hy49 => (intro w hSw; (try dsimp only at hSw); go_simp; try with_reducible rfl)
    try simp only [Act.put, List.setIfInBounds_toArray, List.set_cons_zero, List.set_cons_succ]
    refine held_take 1 24 ?vv50 rfl (by kernel_rfl) (by kernel_rfl) (by kernel_rfl) rfl (fun _ _ _ h => h) (by rfl) ?hy50 (by assumption) ?rest50
    case hy50 => (intro w hSw; (try dsimp only at hSw); go_simp; try with_reducible rfl)
    try simp only [Act.put, List.setIfInBounds_toArray, List.set_cons_zero, List.set_cons_succ]
    refine held_take 2 25 ?vv51 rfl (by kernel_rfl) (by kernel_rfl) (by kernel_rfl) rfl (fun _ _ _ h => h) (by rfl) ?hy51 (by assumption) ?rest51
    case hy51 => (intro w hSw; (try dsimp only at hSw); go_simp; try with_reducible rfl)
    try simp only [Act.put, List.setIfInBounds_toArray, List.set_cons_zero, List.set_cons_succ]
    refine held_take 3 26 ?vv52 rfl (by kernel_rfl) (by kernel_rfl) (by kernel_rfl) rfl (fun _ _ _ h => h) (by rfl) ?hy52 (by assumption) ?rest52
    case hy52 => (intro w hSw; (try dsimp only at hSw); go_simp; try with_reducible rfl)
    try simp only [Act.put, List.setIfInBounds_toArray, List.set_cons_zero, List.set_cons_succ]
    refine held_take 4 27 ?vv53 rfl (by kernel_rfl) (by kernel_rfl) (by kernel_rfl) rfl (fun _ _ _ h => h) (by rfl) ?hy53 (by assumption) ?rest53
    case hy53 => (intro w hSw; (try dsimp only at hSw); go_simp; try with_reducible rfl)
    try simp only [Act.put, List.setIfInBounds_toArray, List.set_cons_zero, List.set_cons_succ]
    refine held_take 5 28 ?vv54 rfl (by kernel_rfl) (by kernel_rfl) (by kernel_rfl) rfl (fun _ _ _ h => h) (by rfl) ?hy54 (by assumption) ?rest54
    case hy54 => (intro w hSw; (try dsimp only at hSw); go_simp; try with_reducible rfl)
    try simp only [Act.put, List.setIfInBounds_toArray, List.set_cons_zero, List.set_cons_succ]
    refine held_take 6 29 ?vv55 rfl (by kernel_rfl) (by kernel_rfl) (by kernel_rfl) rfl (fun _ _ _ h => h) (by rfl) ?hy55 (by assumption) ?rest55
    case hy55 => (intro w hSw; (try dsimp only at hSw); go_simp; try with_reducible rfl)
    try simp only [Act.put, List.setIfInBounds_toArray, List.set_cons_zero, List.set_cons_succ]
    refine held_take 7 30 ?vv56 rfl (by kernel_rfl) (by kernel_rfl) (by kernel_rfl) rfl (fun _ _ _ h => h) (by rfl) ?hy56 (by assumption) ?rest56
    case hy56 => (intro w hSw; (try dsimp only at hSw); go_simp; try with_reducible rfl)
    try simp only [Act.put, List.setIfInBounds_toArray, List.set_cons_zero, List.set_cons_succ]
    refine held_take 8 31 (.slice (some (behindA b2 off2 j c)) (n - (j + 1)) (c - (j + 1))) rfl (by kernel_rfl) (by kernel_rfl) (by kernel_rfl) rfl (fun _ _ _ h => h) (by rfl) ?hy57 (by assumption) ?rest57
    case hy57 => (intro w hSw; (try dsimp only at hSw); go_simp; first | done | (with_reducible rfl) | (unfold behindA; by_cases hcc : c = j + 1 <;> simp [hcc]))
    try simp only [Act.put, List.setIfInBounds_toArray, List.set_cons_zero, List.set_cons_succ]
    refine held_take 12 35 ?vv58 rfl (by kernel_rfl) (by kernel_rfl) (by kernel_rfl) rfl (fun _ _ _ h => h) (by rfl) ?hy58 (by assumption) ?rest58
    case hy58 => (intro w hSw; (try dsimp only at hSw); go_simp; try with_reducible rfl)
    try simp only [Act.put, List.setIfInBounds_toArray, List.set_cons_zero, List.set_cons_succ]
    refine held_take 13 36 ?vv59 rfl (by kernel_rfl) (by kernel_rfl) (by kernel_rfl) rfl (fun _ _ _ h => h) (by rfl) ?hy59 (by assumption) ?rest59
    case hy59 => (intro w hSw; (try dsimp only at hSw); go_simp; try with_reducible rfl)
    try simp only [Act.put, List.setIfInBounds_toArray, List.set_cons_zero, List.set_cons_succ]
    refine held_take 14 37 ?vv60 rfl (by kernel_rfl) (by kernel_rfl) (by kernel_rfl) rfl (fun _ _ _ h => h) (by rfl) ?hy60 (by assumption) ?rest60
    case hy60 => (intro w hSw; (try dsimp only at hSw); go_simp; try with_reducible rfl)
    try simp only [Act.put, List.setIfInBounds_toArray, List.set_cons_zero, List.set_cons_succ]
    refine wpAnyH_ready (rs := [9]) (by kernel_rfl) (by simp) ?_
    refine AllReadyH.cons rfl (fun K hK => ?_) AllReadyH.nil
    go_simp
    have E0 : ((World.alloc W (.cells #[.slice (some ⟨b2, off2, none⟩) j c, .slice (some (behindA b2 off2 j c)) (n - (j + 1)) (c - (j + 1))] 26)).drew).cell? ⟨W.heap.size, 0, none⟩ = some (.slice (some ⟨b2, off2, none⟩) j c) := (show Blk (World.alloc W.drew (.cells #[.slice (some ⟨b2, off2, none⟩) j c, .slice (some (behindA b2 off2 j c)) (n - (j + 1)) (c - (j + 1))] 26)) W.heap.size 26 #[.slice (some ⟨b2, off2, none⟩) j c, .slice (some (behindA b2 off2 j c)) (n - (j + 1)) (c - (j + 1))] from Blk.new _ _ _).cell 0
    have E1 : ((World.alloc W (.cells #[.slice (some ⟨b2, off2, none⟩) j c, .slice (some (behindA b2 off2 j c)) (n - (j + 1)) (c - (j + 1))] 26)).drew).cell? ⟨W.heap.size, 1, none⟩ = some (.slice (some (behindA b2 off2 j c)) (n - (j + 1)) (c - (j + 1))) := (show Blk (World.alloc W.drew (.cells #[.slice (some ⟨b2, off2, none⟩) j c, .slice (some (behindA b2 off2 j c)) (n - (j + 1)) (c - (j + 1))] 26)) W.heap.size 26 #[.slice (some ⟨b2, off2, none⟩) j c, .slice (some (behindA b2 off2 j c)) (n - (j + 1)) (c - (j + 1))] from Blk.new _ _ _).cell 1
    have gG : W.heap.size < ((World.alloc W (.cells #[.slice (some ⟨b2, off2, none⟩) j c, .slice (some (behindA b2 off2 j c)) (n - (j + 1)) (c - (j + 1))] 26)).drew).heap.size := by simp
    have qv10c : Below W.heap.size W ((World.alloc W (.cells #[.slice (some ⟨b2, off2, none⟩) j c, .slice (some (behindA b2 off2 j c)) (n - (j + 1)) (c - (j + 1))] 26)).drew) := ((Below.refl W.heap.size W).alloc (Nat.le_refl _) _).drew
    generalize (World.alloc W (.cells #[.slice (some ⟨b2, off2, none⟩) j c, .slice (some (behindA b2 off2 j c)) (n - (j + 1)) (c - (j + 1))] 26)).drew = v10c at E0 E1 gG qv10c ⊢
    refine hK.out _ _ qv10c (fun hHeldqv10c => ?_)
    clear hK K
    try simp only [Act.put, List.setIfInBounds_toArray, List.set_cons_zero, List.set_cons_succ]
    refine wpAnyH_ready (rs := [10]) (by kernel_rfl) (by simp) ?_
    refine AllReadyH.cons rfl (fun K hK => ?_) AllReadyH.nil
    go_simp
    refine (ConcatCover_any W.heap.size ⟨b2, off2, none⟩ (behindA b2 off2 j c) j (n - (j + 1)) c (c - (j + 1)) (zs.take j) (zs.drop (j + 1)) _ E0 E1 gG (by rw [List.length_take, HZ.out]; omega) (by rw [List.length_drop, HZ.out]) (by omega) (by omega) ((rd_step HR2.out qv10c).takeV j) (Rd.behind HZ.out hnc (rd_step HR2.out qv10c))).mono ?_
    rintro e v20c ⟨v, rfl, ho, hb⟩
    go_wp2_with fail
    have qv20c : Below W.heap.size W v20c := bl_step qv10c hb
    obtain ⟨ao3, c3, rfl, hc3, hm3, RD⟩ := own_rd encCv_len ho HLN.out
    clear hb ho hc3 hm3
    refine hK.out _ _ qv20c (fun hHeldqv20c => ?_)
    clear hK K
    try simp only [Act.put, List.setIfInBounds_toArray, List.set_cons_zero, List.set_cons_succ]
    refine wpAnyH_ready (rs := [11]) (by kernel_rfl) (by simp) ?_
    refine AllReadyH.cons rfl (fun K hK => ?_) AllReadyH.nil
    go_simp
    refine (bare_any wd hg (by omega) (by omega) _ _ _ (dropC zs j) _ HLN.out (by omega) RD (good_drop HG.out j)).mono ?_
    rintro e v30c ⟨rfl, hb⟩
    go_wp2_with fail
    rw [← HX1.out]
    have qv30c : Below W.heap.size W v30c := bl_step qv20c hb
    clear hb
    refine hK.out _ _ qv30c (fun hHeldqv30c => ?_)
    clear hK K
    try simp only [Act.put, List.setIfInBounds_toArray, List.set_cons_zero, List.set_cons_succ]
    refine wpAnyH_ready (rs := [15]) (by kernel_rfl) (by simp) ?_
    refine AllReadyH.cons rfl (fun K hK => ?_) AllReadyH.nil
    go_simp
    refine (bare_any wd hg (by omega) (by omega) _ n c zs _ HZ.out hn (rd_step HR2.out qv30c) HG.out).mono ?_
    rintro e v31l ⟨rfl, hb⟩
    go_wp2_with fail
    rw [← HX2.out]
    have qv31l : Below W.heap.size W v31l := bl_step qv30c hb
    clear hb
    refine hK.out _ _ qv31l (fun hHeldqv31l => ?_)
    clear hK K
    try simp only [Act.put, List.setIfInBounds_toArray, List.set_cons_zero, List.set_cons_succ]
    refine held_take 16 39 ?vv61 rfl (by kernel_rfl) (by kernel_rfl) (by kernel_rfl) rfl (fun _ _ _ h => h) (by rfl) ?hy61 (by assumption) ?rest61
    case hy61 => (intro w hSw; (try dsimp only at hSw); go_simp; try with_reducible rfl)
    try simp only [Act.put, List.setIfInBounds_toArray, List.set_cons_zero, List.set_cons_succ]
    refine held_take 17 8 ?vv62 rfl (by kernel_rfl) (by kernel_rfl) (by kernel_rfl) rfl (fun _ _ _ h => h) (by rfl) ?hy62 (by assumption) ?rest62
    case hy62 => (intro w hSw; (try dsimp only at hSw); go_simp; try with_reducible rfl)
    try simp only [Act.put, List.setIfInBounds_toArray, List.set_cons_zero, List.set_cons_succ]
    refine held_take 18 9 ?vv63 rfl (by kernel_rfl) (by kernel_rfl) (by kernel_rfl) rfl (fun _ _ _ h => h) (by rfl) ?hy63 (by assumption) ?rest63
    case hy63 => (intro w hSw; (try dsimp only at hSw); go_simp; try with_reducible rfl)
    try simp only [Act.put, List.setIfInBounds_toArray, List.set_cons_zero, List.set_cons_succ]
    refine wpAnyH_done (by kernel_rfl) ?_ _
    have HBE := hide (bl_step HB2.out qv31l)
    go_wp2
    go_ret2
    exact ⟨ret_ib2 (by rw [HV2.out]) HOK.out.symm, HBE.out⟩

end Go.Proofs.Ytpdfbijfklmonaa
