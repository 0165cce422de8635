/- NeedlessCovers: the program. -/
import Derived.Test.YtpdfbijfklmonaaM18
namespace Go.Proofs.Ytpdfbijfklmonaa
open Go.RowKit
set_option linter.unusedVariables false
set_option linter.unusedSimpArgs false

set_option maxRecDepth 100000 in
set_option maxHeartbeats 2000000 in
theorem NeedlessCovers_any (a b : Int) (ao : Option Addr) (n c : Nat) (zs : List Cv) (io : Option Addr) (m d : Nat) (is : List Int) (w : World) (hz : zs.length = n) (hn : n ≤ 1048576) (hr : Rd encCv 6 w.heap.size w ao zs) (hzi : is.length = m) (hm : m ≤ 1048576) (hri : Rd encI 1 w.heap.size w io is) :
    Calls Try.prog 29 #[.int .i64 a, .int .i64 b, .slice ao n c, .slice io m d] w fun e w' => ∃ v, e = .returned (.tuple #[v, .bool (mosV a b zs is)]) ∧ w'.ownsRow w.heap.size 3 1 v (needL a b zs is).length ((needL a b zs is).flatMap encI) ∧ Below w.heap.size w w' := by
  have HZ := hide hz
  have HR := hide hr
  have HZI := hide hzi
  have HRI := hide hri
  clear hz hr hzi hri
  rcases first2 (okMos a b zs is) (mosV a b zs is) with h1 | ⟨h1, h2⟩ | ⟨h1, h2⟩
  · have HM : Hid (mosV a b zs is = false) := hide (by unfold mosV; rw [h1]; rfl)
    have HC : Hid (needL a b zs is = []) := hide (by unfold needL; rw [HM.out]; rfl)
    have H1 := hide h1
    clear h1
    go_enter Try.func29, Try.ntmps29
    go_wp2_with fail
    refine (IsMosaic_any _ _ ao n c zs io m d is _ HZ.out hn HR.out HZI.out hm HRI.out).mono ?_
    rintro e w1 ⟨rfl, hb⟩
    have HB1 := hide hb
    have HR1 := hide (rd_step HR.out hb)
    have HRI1 := hide (rd_step HRI.out hb)
    clear hb
    rw [H1.out]
    go_wp2
    go_ret2
    exact ⟨_, ret_vb HM.out.symm, by rw [HC.out]; exact World.ownsRow_nil _ _ _ _, HB1.out⟩
  · have HM := hide h2
    have HC : Hid (needL a b zs is = []) := hide (by unfold needL; rw [HM.out]; rfl)
    have H1 := hide h1
    clear h1 h2
    go_enter Try.func29, Try.ntmps29
    go_wp2_with fail
    refine (IsMosaic_any _ _ ao n c zs io m d is _ HZ.out hn HR.out HZI.out hm HRI.out).mono ?_
    rintro e w1 ⟨rfl, hb⟩
    have HB1 := hide hb
    have HR1 := hide (rd_step HR.out hb)
    have HRI1 := hide (rd_step HRI.out hb)
    clear hb
    rw [H1.out, HM.out]
    go_wp2
    go_ret2
    exact ⟨_, ret_vb HM.out.symm, by rw [HC.out]; exact World.ownsRow_nil _ _ _ _, HB1.out⟩
  · have HM := hide h2
    have hw := h1
    unfold okMos at hw; simp only [Bool.and_eq_true] at hw
    have hw2 := hw.1.1
    unfold wallB at hw2; simp only [Bool.and_eq_true] at hw2
    have b1 := inB_iff.1 hw2.1.1
    have b2 := inB_iff.1 hw2.1.2
    have HG := hide (good_picks (good_of hw2.2) hw.1.2)
    have HL : Hid ((picks zs is).length = m) := hide (by rw [picks_len, HZI.out])
    have HSM : Hid (someL zs is = picks zs is) := hide (by unfold someL; rw [hw.1.2]; rfl)
    have HC : Hid (needL a b zs is = ndL a b (picks zs is) is m) := hide (by unfold needL; rw [HM.out, HZI.out]; rfl)
    have H1 := hide h1
    have HFO := hide hw.1.2
    clear h1 h2 hw hw2
    obtain ⟨wd, rfl⟩ : ∃ k : Nat, a = k := ⟨a.toNat, by omega⟩
    obtain ⟨hg, rfl⟩ : ∃ k : Nat, b = k := ⟨b.toNat, by omega⟩
    have hinf := infoI
    obtain ⟨i0, hi, hz0, hz1, hz2⟩ := info_parts hinf
    clear hinf
    have HI := hide (And.intro hi (And.intro hz0 (And.intro hz1 hz2)))
    clear hi hz0 hz1 hz2
    go_enter Try.func29, Try.ntmps29
    go_wp2_with fail
    refine (IsMosaic_any _ _ ao n c zs io m d is _ HZ.out hn HR.out HZI.out hm HRI.out).mono ?_
    rintro e w1 ⟨rfl, hb⟩
    have HB1 := hide hb
    have HR1 := hide (rd_step HR.out hb)
    have HRI1 := hide (rd_step HRI.out hb)
    clear hb
    rw [H1.out, HM.out]
    go_wp2_with fail
    refine (some_any ao n c zs io m d is _ HZ.out hn HR1.out HZI.out hm HRI1.out).mono ?_
    rintro e w2 ⟨v, rfl, ho, hb⟩
    rw [HSM.out, HL.out] at ho
    have HB2 := hide (bl_step HB1.out hb)
    have HRI2 := hide (rd_step HRI1.out hb)
    have hsw := HB1.out.size
    have hsw2 := hb.size
    obtain ⟨ps, hps⟩ : ∃ ps, ps = picks zs is := ⟨_, rfl⟩
    rw [← hps] at ho HL HG HC
    obtain ⟨ap, cc, rfl, hcc2, _, hrp⟩ := own_rd encCv_len ho HL.out
    have HRP := hide hrp
    rw [HFO.out]
    clear hb ho hps hrp HR HRI HR1 HRI1 HSM
    go_wp2
    go_loopg [14, 15, 16, 39] m (fun gk v _ _ i wr => ∃ k : Nat, k ≤ m ∧ m - k ≤ gk ∧ i = .int .i64 k ∧ Aside (wr.ownsRow w2.heap.size 3 1 v (ndL wd hg ps is k).length ((ndL wd hg ps is k).flatMap encI)) ∧ Aside (Below w2.heap.size w2 wr))
    case atStart => exact ⟨0, Nat.zero_le _, by omega, rfl, World.ownsRow_nil _ _ _ _, Below.refl _ _⟩
    case round =>
      obtain ⟨k, hk, hgk, rfl, OW, BW⟩ := hrel
      by_cases hlt : k < m
      · have hji : (k : Int) < (m : Int) := by omega
        have hj0 : (0 : Int) ≤ (k : Int) := by omega
        obtain ⟨b2, off2, rfl, hbz, _⟩ := rdCv HRP.out (by rw [HL.out]; omega)
        obtain ⟨b3, off3, rfl, hb3, hat⟩ := rdI HRI2.out (by rw [HZI.out]; omega)
        obtain ⟨q, hq, hqc⟩ := hat k (by rw [HZI.out]; exact hlt)
        have HQ := hide (getI! hq)
        obtain ⟨hbr, c0⟩ := hqc wr BW.out
        clear hq hqc hat
        have k4 : (k : Int) ≤ (cc : Int) := by omega
        have k5 : IntKind.i64.wrap ((k : Int) + 1) = (k : Int) + 1 := IntWalk.i64_in _ (by omega)
        have k6 : ((k : Int) + 1).toNat = k + 1 := by omega
        have k7 : (k : Int) + 1 ≤ (m : Int) := by omega
        have k8 : (0 : Int) ≤ (k : Int) + 1 := by omega
        have k10 : (k : Int) ≤ (k : Int) + 1 := by omega
        have HLD := hide (dropC_len HL.out hlt)
        obtain ⟨X, hX⟩ : ∃ X, X = cntX (dropC ps k) hg wd := ⟨_, rfl⟩
        have HND : Hid (ndB wd hg ps k = (X == 0)) := hide (by unfold ndB; rw [hX]; simp)
        have HX := hide hX
        clear hX
        have hgl := ndL_len wd hg ps is k
        generalize hll : (ndL wd hg ps is k).length = L at hgl OW
        have HLL := hide hll
        clear hll
        obtain ⟨W, hW⟩ : ∃ W, W = wr := ⟨_, rfl⟩
        subst hW
        have HRW := hide (rd_step HRP.out BW.out)
        by_cases hx0 : X = 0
        · have HN2 : Hid (ndB wd hg ps k = true) := hide (by rw [HND.out, hx0]; rfl)
          have HX0 := hide hx0
          clear hx0
          go_wp2_with fail
          refine wp_region_held_drew (S := fun w' => Below W.heap.size W w') (by kernel_rfl) (Below.refl _ _).drew (fun hHeld => ?_)
          refine held_take 0 44 ?vv21 rfl (by kernel_rfl) (by kernel_rfl) (by kernel_rfl) rfl (fun _ _ _ h => h) (by rfl) ?hy21 (by assumption) ?rest21
          case hy21 => (intro w hSw; (try dsimp only at hSw); go_simp; try with_reducible rfl)
          try simp only [Act.put, List.setIfInBounds_toArray, List.set_cons_zero, List.set_cons_succ]
          refine held_take 1 45 ?vv22 rfl (by kernel_rfl) (by kernel_rfl) (by kernel_rfl) rfl (fun _ _ _ h => h) (by rfl) ?hy22 (by assumption) ?rest22
          case hy22 => (intro w hSw; (try dsimp only at hSw); go_simp; try with_reducible rfl)
          try simp only [Act.put, List.setIfInBounds_toArray, List.set_cons_zero, List.set_cons_succ]
          refine held_take 2 46 ?vv23 rfl (by kernel_rfl) (by kernel_rfl) (by kernel_rfl) rfl (fun _ _ _ h => h) (by rfl) ?hy23 (by assumption) ?rest23
          case hy23 => (intro w hSw; (try dsimp only at hSw); go_simp; try with_reducible rfl)
          try simp only [Act.put, List.setIfInBounds_toArray, List.set_cons_zero, List.set_cons_succ]
          refine held_take 3 47 ?vv24 rfl (by kernel_rfl) (by kernel_rfl) (by kernel_rfl) rfl (fun _ _ _ h => h) (by rfl) ?hy24 (by assumption) ?rest24
          case hy24 => (intro w hSw; (try dsimp only at hSw); go_simp; try with_reducible rfl)
          try simp only [Act.put, List.setIfInBounds_toArray, List.set_cons_zero, List.set_cons_succ]
          refine held_take 4 48 ?vv25 rfl (by kernel_rfl) (by kernel_rfl) (by kernel_rfl) rfl (fun _ _ _ h => h) (by rfl) ?hy25 (by assumption) ?rest25
          case hy25 => (intro w hSw; (try dsimp only at hSw); go_simp; try with_reducible rfl)
          try simp only [Act.put, List.setIfInBounds_toArray, List.set_cons_zero, List.set_cons_succ]
          refine held_take 5 49 ?vv26 rfl (by kernel_rfl) (by kernel_rfl) (by kernel_rfl) rfl (fun _ _ _ h => h) (by rfl) ?hy26 (by assumption) ?rest26
          case hy26 => (intro w hSw; (try dsimp only at hSw); go_simp; try with_reducible rfl)
          try simp only [Act.put, List.setIfInBounds_toArray, List.set_cons_zero, List.set_cons_succ]
          refine held_take 6 50 ?vv27 rfl (by kernel_rfl) (by kernel_rfl) (by kernel_rfl) rfl (fun _ _ _ h => h) (by rfl) ?hy27 (by assumption) ?rest27
          case hy27 => (intro w hSw; (try dsimp only at hSw); go_simp; try with_reducible rfl)
          try simp only [Act.put, List.setIfInBounds_toArray, List.set_cons_zero, List.set_cons_succ]
          refine held_take 7 51 ?vv28 rfl (by kernel_rfl) (by kernel_rfl) (by kernel_rfl) rfl (fun _ _ _ h => h) (by rfl) ?hy28 (by assumption) ?rest28
          case hy28 => (intro w hSw; (try dsimp only at hSw); go_simp; try with_reducible rfl)
          try simp only [Act.put, List.setIfInBounds_toArray, List.set_cons_zero, List.set_cons_succ]
          refine held_take 8 52 (.slice (some (behindA b2 off2 k cc)) (m - (k + 1)) (cc - (k + 1))) rfl (by kernel_rfl) (by kernel_rfl) (by kernel_rfl) rfl (fun _ _ _ h => h) (by rfl) ?hy29 (by assumption) ?rest29
          case hy29 => (intro w hSw; (try dsimp only at hSw); go_simp; first | done | (with_reducible rfl) | (unfold behindA; by_cases hcc : cc = k + 1 <;> simp [hcc]))
          try simp only [Act.put, List.setIfInBounds_toArray, List.set_cons_zero, List.set_cons_succ]
          refine wpAnyH_ready (rs := [9]) (by kernel_rfl) (by simp) ?_
          refine AllReadyH.cons rfl (fun K hK => ?_) AllReadyH.nil
          go_simp
          have E0 : ((World.alloc W (.cells #[.slice (some ⟨b2, off2, none⟩) k cc, .slice (some (behindA b2 off2 k cc)) (m - (k + 1)) (cc - (k + 1))] 26)).drew).cell? ⟨W.heap.size, 0, none⟩ = some (.slice (some ⟨b2, off2, none⟩) k cc) := (show Blk (World.alloc W.drew (.cells #[.slice (some ⟨b2, off2, none⟩) k cc, .slice (some (behindA b2 off2 k cc)) (m - (k + 1)) (cc - (k + 1))] 26)) W.heap.size 26 #[.slice (some ⟨b2, off2, none⟩) k cc, .slice (some (behindA b2 off2 k cc)) (m - (k + 1)) (cc - (k + 1))] from Blk.new _ _ _).cell 0
          have E1 : ((World.alloc W (.cells #[.slice (some ⟨b2, off2, none⟩) k cc, .slice (some (behindA b2 off2 k cc)) (m - (k + 1)) (cc - (k + 1))] 26)).drew).cell? ⟨W.heap.size, 1, none⟩ = some (.slice (some (behindA b2 off2 k cc)) (m - (k + 1)) (cc - (k + 1))) := (show Blk (World.alloc W.drew (.cells #[.slice (some ⟨b2, off2, none⟩) k cc, .slice (some (behindA b2 off2 k cc)) (m - (k + 1)) (cc - (k + 1))] 26)) W.heap.size 26 #[.slice (some ⟨b2, off2, none⟩) k cc, .slice (some (behindA b2 off2 k cc)) (m - (k + 1)) (cc - (k + 1))] from Blk.new _ _ _).cell 1
          have gG : W.heap.size < ((World.alloc W (.cells #[.slice (some ⟨b2, off2, none⟩) k cc, .slice (some (behindA b2 off2 k cc)) (m - (k + 1)) (cc - (k + 1))] 26)).drew).heap.size := by simp
          have q1 : Below W.heap.size W ((World.alloc W (.cells #[.slice (some ⟨b2, off2, none⟩) k cc, .slice (some (behindA b2 off2 k cc)) (m - (k + 1)) (cc - (k + 1))] 26)).drew) := ((Below.refl W.heap.size W).alloc (Nat.le_refl _) _).drew
          generalize (World.alloc W (.cells #[.slice (some ⟨b2, off2, none⟩) k cc, .slice (some (behindA b2 off2 k cc)) (m - (k + 1)) (cc - (k + 1))] 26)).drew = u1 at E0 E1 gG q1 ⊢
          refine hK.out _ _ q1 (fun hHeld1 => ?_)
          clear hK K
          try simp only [Act.put, List.setIfInBounds_toArray, List.set_cons_zero, List.set_cons_succ]
          refine wpAnyH_ready (rs := [10]) (by kernel_rfl) (by simp) ?_
          refine AllReadyH.cons rfl (fun K hK => ?_) AllReadyH.nil
          go_simp
          refine (ConcatCover_any W.heap.size ⟨b2, off2, none⟩ (behindA b2 off2 k cc) k (m - (k + 1)) cc (cc - (k + 1)) (ps.take k) (ps.drop (k + 1)) _ E0 E1 gG (by rw [List.length_take, HL.out]; omega) (by rw [List.length_drop, HL.out]) (by omega) (by omega) ((rd_step HRW.out q1).takeV k) (Rd.behind HL.out hcc2 (rd_step HRW.out q1))).mono ?_
          rintro e u2 ⟨v2, rfl, ho, hb⟩
          go_wp2_with fail
          have q2 : Below W.heap.size W u2 := bl_step q1 hb
          obtain ⟨ao3, c3, rfl, hc3, hm3, RD⟩ := own_rd encCv_len ho HLD.out
          clear hb ho hc3 hm3
          refine hK.out _ _ q2 (fun hHeld2 => ?_)
          clear hK K
          try simp only [Act.put, List.setIfInBounds_toArray, List.set_cons_zero, List.set_cons_succ]
          refine wpAnyH_ready (rs := [11]) (by kernel_rfl) (by simp) ?_
          refine AllReadyH.cons rfl (fun K hK => ?_) AllReadyH.nil
          go_simp
          refine (bare_any wd hg (by omega) (by omega) _ _ _ (dropC ps k) _ HLD.out (by omega) RD (good_drop HG.out k)).mono ?_
          rintro e u3 ⟨rfl, hb⟩
          go_wp2_with fail
          rw [← HX.out, HX0.out]
          have q3 : Below W.heap.size W u3 := bl_step q2 hb
          clear hb
          refine hK.out _ _ q3 (fun hHeld3 => ?_)
          clear hK K hHeld hHeld1 hHeld2
          try simp only [Act.put, List.setIfInBounds_toArray, List.set_cons_zero, List.set_cons_succ]
          refine held_take 12 56 ?vv30 rfl (by kernel_rfl) (by kernel_rfl) (by kernel_rfl) rfl (fun _ _ _ h => h) (by rfl) ?hy30 (by assumption) ?rest30
          case hy30 => (intro w hSw; (try dsimp only at hSw); go_simp; try with_reducible rfl)
          try simp only [Act.put, List.setIfInBounds_toArray, List.set_cons_zero, List.set_cons_succ]
          refine wpAnyH_done (by kernel_rfl) ?_ _
          have HQ3 := hide q3
          clear hHeld3 E0 E1 gG q1 q2 q3 RD
          have HB4 := hide (bl_step BW.out HQ3.out)
          have HO4 := hide (own_step OW.out HQ3.out)
          have hsz := HB4.out.size
          obtain ⟨hi, hz0, hz1, hz2⟩ := HI.out
          go_wp2_with (at_builtin; refine wpList_append_own _ rfl _ _ 30 rfl w2.heap.size 3 i0 (.int .i64 0) 1 8 Try.underlying30 hi hz0 hz1 hz2 rfl (by decide) _ L _ rfl (HO4.out.alloc _) ⟨u3.heap.size, 0, none⟩ 1 1 [.int .i64 q] rfl rfl ?c1 ?c2 ?c3 ?c4 ?c5 ?_)
          case c1 => exact news_at #[.int .i64 q]
          case c2 => intro u hu; simp at hu; subst hu; rfl
          case c3 => unfold maxLen; omega
          case c4 => omega
          case c5 => simp; omega
          intro v' w3 hown' hgrow _
          have HB5 := hide (bl_grown (HB4.out.alloc hsz _) (HO4.out.alloc _) (Nat.le_refl _) hgrow)
          have HO5 := hide hown'
          clear hown' hgrow hi hz0 hz1 hz2
          go_wp2
          go_roundg (m - (k + 1))
          case measure => omega
          case rel => exact ⟨k + 1, by omega, by omega, by go_num, by rw [ndL_yes HQ.out HN2.out, flat_snoc, List.length_append, HLL.out]; exact HO5.out, HB5.out⟩
        · have HN2 : Hid (ndB wd hg ps k = false) := hide (by rw [HND.out, beq_eq_false_iff_ne.2 hx0])
          have hd1 : decide (X = 0) = false := by simp [hx0]
          have hd2 : (X == 0) = false := by simp [hx0]
          go_wp2_with fail
          refine wp_region_held_drew (S := fun w' => Below W.heap.size W w') (by kernel_rfl) (Below.refl _ _).drew (fun hHeld => ?_)
          refine held_take 0 44 ?vv31 rfl (by kernel_rfl) (by kernel_rfl) (by kernel_rfl) rfl (fun _ _ _ h => h) (by rfl) ?hy31 (by assumption) ?rest31
          case hy31 => (intro w hSw; (try dsimp only at hSw); go_simp; try with_reducible rfl)
          try simp only [Act.put, List.setIfInBounds_toArray, List.set_cons_zero, List.set_cons_succ]
          refine held_take 1 45 ?vv32 rfl (by kernel_rfl) (by kernel_rfl) (by kernel_rfl) rfl (fun _ _ _ h => h) (by rfl) ?hy32 (by assumption) ?rest32
          case hy32 => (intro w hSw; (try dsimp only at hSw); go_simp; try with_reducible rfl)
          try simp only [Act.put, List.setIfInBounds_toArray, List.set_cons_zero, List.set_cons_succ]
          refine held_take 2 46 ?vv33 rfl (by kernel_rfl) (by kernel_rfl) (by kernel_rfl) rfl (fun _ _ _ h => h) (by rfl) ?hy33 (by assumption) ?rest33
          case hy33 => (intro w hSw; (try dsimp only at hSw); go_simp; try with_reducible rfl)
          try simp only [Act.put, List.setIfInBounds_toArray, List.set_cons_zero, List.set_cons_succ]
          refine held_take 3 47 ?vv34 rfl (by kernel_rfl) (by kernel_rfl) (by kernel_rfl) rfl (fun _ _ _ h => h) (by rfl) ?hy34 (by assumption) ?rest34
          case hy34 => (intro w hSw; (try dsimp only at hSw); go_simp; try with_reducible rfl)
          try simp only [Act.put, List.setIfInBounds_toArray, List.set_cons_zero, List.set_cons_succ]
          refine held_take 4 48 ?vv35 rfl (by kernel_rfl) (by kernel_rfl) (by kernel_rfl) rfl (fun _ _ _ h => h) (by rfl) ?hy35 (by assumption) ?rest35
          case hy35 => (intro w hSw; (try dsimp only at hSw); go_simp; try with_reducible rfl)
          try simp only [Act.put, List.setIfInBounds_toArray, List.set_cons_zero, List.set_cons_succ]
          refine held_take 5 49 ?vv36 rfl (by kernel_rfl) (by kernel_rfl) (by kernel_rfl) rfl (fun _ _ _ h => h) (by rfl) ?hy36 (by assumption) ?rest36
          case hy36 => (intro w hSw; (try dsimp only at hSw); go_simp; try with_reducible rfl)
          try simp only [Act.put, List.setIfInBounds_toArray, List.set_cons_zero, List.set_cons_succ]
          refine held_take 6 50 ?vv37 rfl (by kernel_rfl) (by kernel_rfl) (by kernel_rfl) rfl (fun _ _ _ h => h) (by rfl) ?hy37 (by assumption) ?rest37
          case hy37 => (intro w hSw; (try dsimp only at hSw); go_simp; try with_reducible rfl)
          try simp only [Act.put, List.setIfInBounds_toArray, List.set_cons_zero, List.set_cons_succ]
          refine held_take 7 51 ?vv38 rfl (by kernel_rfl) (by kernel_rfl) (by kernel_rfl) rfl (fun _ _ _ h => h) (by rfl) ?hy38 (by assumption) ?rest38
          case hy38 => (intro w hSw; (try dsimp only at hSw); go_simp; try with_reducible rfl)
          try simp only [Act.put, List.setIfInBounds_toArray, List.set_cons_zero, List.set_cons_succ]
          refine held_take 8 52 (.slice (some (behindA b2 off2 k cc)) (m - (k + 1)) (cc - (k + 1))) rfl (by kernel_rfl) (by kernel_rfl) (by kernel_rfl) rfl (fun _ _ _ h => h) (by rfl) ?hy39 (by assumption) ?rest39
          case hy39 => (intro w hSw; (try dsimp only at hSw); go_simp; first | done | (with_reducible rfl) | (unfold behindA; by_cases hcc : cc = k + 1 <;> simp [hcc]))
          try simp only [Act.put, List.setIfInBounds_toArray, List.set_cons_zero, List.set_cons_succ]
          refine wpAnyH_ready (rs := [9]) (by kernel_rfl) (by simp) ?_
          refine AllReadyH.cons rfl (fun K hK => ?_) AllReadyH.nil
          go_simp
          have E0 : ((World.alloc W (.cells #[.slice (some ⟨b2, off2, none⟩) k cc, .slice (some (behindA b2 off2 k cc)) (m - (k + 1)) (cc - (k + 1))] 26)).drew).cell? ⟨W.heap.size, 0, none⟩ = some (.slice (some ⟨b2, off2, none⟩) k cc) := (show Blk (World.alloc W.drew (.cells #[.slice (some ⟨b2, off2, none⟩) k cc, .slice (some (behindA b2 off2 k cc)) (m - (k + 1)) (cc - (k + 1))] 26)) W.heap.size 26 #[.slice (some ⟨b2, off2, none⟩) k cc, .slice (some (behindA b2 off2 k cc)) (m - (k + 1)) (cc - (k + 1))] from Blk.new _ _ _).cell 0
          have E1 : ((World.alloc W (.cells #[.slice (some ⟨b2, off2, none⟩) k cc, .slice (some (behindA b2 off2 k cc)) (m - (k + 1)) (cc - (k + 1))] 26)).drew).cell? ⟨W.heap.size, 1, none⟩ = some (.slice (some (behindA b2 off2 k cc)) (m - (k + 1)) (cc - (k + 1))) := (show Blk (World.alloc W.drew (.cells #[.slice (some ⟨b2, off2, none⟩) k cc, .slice (some (behindA b2 off2 k cc)) (m - (k + 1)) (cc - (k + 1))] 26)) W.heap.size 26 #[.slice (some ⟨b2, off2, none⟩) k cc, .slice (some (behindA b2 off2 k cc)) (m - (k + 1)) (cc - (k + 1))] from Blk.new _ _ _).cell 1
          have gG : W.heap.size < ((World.alloc W (.cells #[.slice (some ⟨b2, off2, none⟩) k cc, .slice (some (behindA b2 off2 k cc)) (m - (k + 1)) (cc - (k + 1))] 26)).drew).heap.size := by simp
          have q1 : Below W.heap.size W ((World.alloc W (.cells #[.slice (some ⟨b2, off2, none⟩) k cc, .slice (some (behindA b2 off2 k cc)) (m - (k + 1)) (cc - (k + 1))] 26)).drew) := ((Below.refl W.heap.size W).alloc (Nat.le_refl _) _).drew
          generalize (World.alloc W (.cells #[.slice (some ⟨b2, off2, none⟩) k cc, .slice (some (behindA b2 off2 k cc)) (m - (k + 1)) (cc - (k + 1))] 26)).drew = u1 at E0 E1 gG q1 ⊢
          refine hK.out _ _ q1 (fun hHeld1 => ?_)
          clear hK K
          try simp only [Act.put, List.setIfInBounds_toArray, List.set_cons_zero, List.set_cons_succ]
          refine wpAnyH_ready (rs := [10]) (by kernel_rfl) (by simp) ?_
          refine AllReadyH.cons rfl (fun K hK => ?_) AllReadyH.nil
          go_simp
          refine (ConcatCover_any W.heap.size ⟨b2, off2, none⟩ (behindA b2 off2 k cc) k (m - (k + 1)) cc (cc - (k + 1)) (ps.take k) (ps.drop (k + 1)) _ E0 E1 gG (by rw [List.length_take, HL.out]; omega) (by rw [List.length_drop, HL.out]) (by omega) (by omega) ((rd_step HRW.out q1).takeV k) (Rd.behind HL.out hcc2 (rd_step HRW.out q1))).mono ?_
          rintro e u2 ⟨v2, rfl, ho, hb⟩
          go_wp2_with fail
          have q2 : Below W.heap.size W u2 := bl_step q1 hb
          obtain ⟨ao3, c3, rfl, hc3, hm3, RD⟩ := own_rd encCv_len ho HLD.out
          clear hb ho hc3 hm3
          refine hK.out _ _ q2 (fun hHeld2 => ?_)
          clear hK K
          try simp only [Act.put, List.setIfInBounds_toArray, List.set_cons_zero, List.set_cons_succ]
          refine wpAnyH_ready (rs := [11]) (by kernel_rfl) (by simp) ?_
          refine AllReadyH.cons rfl (fun K hK => ?_) AllReadyH.nil
          go_simp
          refine (bare_any wd hg (by omega) (by omega) _ _ _ (dropC ps k) _ HLD.out (by omega) RD (good_drop HG.out k)).mono ?_
          rintro e u3 ⟨rfl, hb⟩
          go_wp2_with fail
          rw [← HX.out]
          have q3 : Below W.heap.size W u3 := bl_step q2 hb
          clear hb
          refine hK.out _ _ q3 (fun hHeld3 => ?_)
          clear hK K hHeld hHeld1 hHeld2
          try simp only [Act.put, List.setIfInBounds_toArray, List.set_cons_zero, List.set_cons_succ]
          refine held_take 12 56 ?vv40 rfl (by kernel_rfl) (by kernel_rfl) (by kernel_rfl) rfl (fun _ _ _ h => h) (by rfl) ?hy40 (by assumption) ?rest40
          case hy40 => (intro w hSw; (try dsimp only at hSw); go_simp; try with_reducible rfl)
          try simp only [Act.put, List.setIfInBounds_toArray, List.set_cons_zero, List.set_cons_succ]
          refine wpAnyH_done (by kernel_rfl) ?_ _
          have HQ3 := hide q3
          clear hHeld3 E0 E1 gG q1 q2 q3 RD
          go_wp2
          go_roundg (m - (k + 1))
          case measure => omega
          case rel => exact ⟨k + 1, by omega, by omega, by go_num, by rw [ndL_no HN2.out, HLL.out]; exact own_step OW.out HQ3.out, bl_step BW.out HQ3.out⟩
      · have hge : ¬ (k : Int) < (m : Int) := by omega
        obtain rfl : k = m := by omega
        go_wp2
        go_ret2
        exact ⟨_, ret_vb HM.out.symm, by rw [HC.out]; exact own_base OW.out (Nat.le_trans hsw hsw2), HB2.out.trans (BW.out.mono HB2.out.size)⟩

end Go.Proofs.Ytpdfbijfklmonaa
