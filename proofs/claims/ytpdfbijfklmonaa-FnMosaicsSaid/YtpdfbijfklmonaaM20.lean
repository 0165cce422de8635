/- NeedlessCovers: the reference. -/
import Derived.Test.YtpdfbijfklmonaaM18
import Derived.Test.YtpdfbijfklmonaaM17
import Derived.Deep.AppendLies
namespace Go.Proofs.Ytpdfbijfklmonaa
open Go.RowKit
set_option linter.unusedVariables false
set_option linter.unusedSimpArgs false

set_option maxRecDepth 100000 in
set_option maxHeartbeats 2000000 in
theorem sNeedlessCovers_any (a b : Int) (ao : Option Addr) (n c : Nat) (zs : List Cv) (io : Option Addr) (m d : Nat) (is : List Int) (w : World) (hz : zs.length = n) (hn : n ≤ 1048576) (hr : Rd encCv 6 w.heap.size w ao zs) (hzi : is.length = m) (hm : m ≤ 1048576) (hri : Rd encI 1 w.heap.size w io is) :
    Calls Try.prog 28 #[.int .i64 a, .int .i64 b, .slice ao n c, .slice io m d] w fun e w' => ∃ v, e = .returned (.tuple #[v, .bool (mosV a b zs is)]) ∧ w'.ownsRow w.heap.size 3 1 v (needL a b zs is).length ((needL a b zs is).flatMap encI) ∧ Below w.heap.size w w' := by
  obtain ⟨W0, hW0⟩ : ∃ W, W = w.alloc (.cells #[] 3) := ⟨_, rfl⟩
  have HBW : Hid (Below w.heap.size w W0) := hide (by rw [hW0]; exact (Below.refl _ _).alloc (Nat.le_refl _) _)
  have HE : Hid (W0.ownsRow w.heap.size 3 1 (.slice (some ⟨w.heap.size, 0, none⟩) 0 0) 0 []) := hide (by rw [hW0]; exact World.ownsRow_made w #[] 0 (Nat.le_refl _) (by simp [maxLen]) rfl)
  have hs0 : W0.heap.size = w.heap.size + 1 := by rw [hW0]; simp
  have HS0 := hide hs0
  have HW := hide hW0
  have HS := hide (l12Some_any ao n c zs io m d is W0 hz hn (rd_step hr HBW.out) hzi hm (rd_step hri HBW.out))
  have HRI0 := hide (rd_step hri HBW.out)
  have HR0 := hide (rd_step hr HBW.out)
  clear hW0 hs0
  have HZ := hide hz
  have HR := hide hr
  have HZI := hide hzi
  have HRI := hide hri
  clear hz hr hzi hri
  rcases first2 (wallB a b zs) (frB zs is) with h1 | ⟨h1, h2⟩ | ⟨h1, h2⟩
  · have HM : Hid (mosV a b zs is = false) := hide (by unfold mosV; rw [okMos_fr, h1]; rfl)
    have HC : Hid (needL a b zs is = []) := hide (by unfold needL; rw [HM.out]; rfl)
    have H1 := hide h1
    clear h1
    go_enter Try.func28, Try.ntmps28
    go_wp2_with fail
    rw [← HW.out]
    refine HS.out.mono ?_
    rintro e w1 ⟨v, rfl, ho, hb⟩
    have HB1 := hide (bl_step HBW.out hb)
    have HE1 := hide (own_step HE.out hb)
    have HR1 := hide (rd_step HR0.out hb)
    clear hb ho HS
    go_wp2_with fail
    refine (l12Wall_any _ _ _ n c zs _ HZ.out hn HR1.out).mono ?_
    rintro e w2 ⟨rfl, hb⟩
    have HB2 := hide (bl_step HB1.out hb)
    have HE2 := hide (own_step HE1.out hb)
    clear hb
    rw [H1.out]
    go_wp2
    go_ret2
    exact ⟨_, ret_vb HM.out.symm, by rw [HC.out]; exact HE2.out, HB2.out⟩
  · have HM : Hid (mosV a b zs is = false) := hide (by unfold mosV; rw [okMos_fr, h1, h2]; rfl)
    have HC : Hid (needL a b zs is = []) := hide (by unfold needL; rw [HM.out]; rfl)
    have HFR : Hid ((foundB zs is && risB is) = false) := hide h2
    have H1 := hide h1
    clear h1 h2
    go_enter Try.func28, Try.ntmps28
    go_wp2_with fail
    rw [← HW.out]
    refine HS.out.mono ?_
    rintro e w1 ⟨v, rfl, ho, hb⟩
    have HB1 := hide (bl_step HBW.out hb)
    have HE1 := hide (own_step HE.out hb)
    have HR1 := hide (rd_step HR0.out hb)
    clear hb ho HS
    rw [HFR.out]
    go_wp2_with fail
    refine (l12Wall_any _ _ _ n c zs _ HZ.out hn HR1.out).mono ?_
    rintro e w2 ⟨rfl, hb⟩
    have HB2 := hide (bl_step HB1.out hb)
    have HE2 := hide (own_step HE1.out hb)
    clear hb
    rw [H1.out]
    go_wp2
    go_ret2
    exact ⟨_, ret_vb HM.out.symm, by rw [HC.out]; exact HE2.out, HB2.out⟩
  · have HFR : Hid ((foundB zs is && risB is) = true) := hide h2
    have hf : foundB zs is = true := by have := h2; unfold frB at this; simp only [Bool.and_eq_true] at this; exact this.1
    have hw2 := h1
    unfold wallB at hw2; simp only [Bool.and_eq_true] at hw2
    have b1 := inB_iff.1 hw2.1.1
    have b2 := inB_iff.1 hw2.1.2
    have HL : Hid ((picks zs is).length = m) := hide (by rw [picks_len, HZI.out])
    have HM : Hid (mosV a b zs is = (cntX (picks zs is) b.toNat a.toNat == 0)) := hide (by unfold mosV; rw [okMos_fr, h1, h2]; rfl)
    have HPI : Hid (∀ (k : Nat) (x : Cv), (picks zs is)[k]? = some x → is[k]? = some x.i) := hide (fun k x hx => picks_i hf hx)
    have HC0 : Hid (needL a b zs is = if mosV a b zs is then ndL a b (picks zs is) is m else []) := hide (by unfold needL; rw [HZI.out])
    have H1 := hide h1
    clear hw2 h1 h2 hf
    obtain ⟨wd, rfl⟩ : ∃ k : Nat, a = k := ⟨a.toNat, by omega⟩
    obtain ⟨hg, rfl⟩ : ∃ k : Nat, b = k := ⟨b.toNat, by omega⟩
    obtain ⟨i0, hi, hz0, hz1, hz2⟩ := info_parts infoCv
    have HI := hide (And.intro hi (And.intro hz0 (And.intro hz1 hz2)))
    clear hi hz0 hz1 hz2
    obtain ⟨i1, hi, hz0, hz1, hz2⟩ := info_parts infoI
    have HI2 := hide (And.intro hi (And.intro hz0 (And.intro hz1 hz2)))
    clear hi hz0 hz1 hz2
    obtain ⟨ps, hps⟩ : ∃ ps, ps = picks zs is := ⟨_, rfl⟩
    have HPS := hide hps
    rw [← hps] at HL HM HPI HC0
    clear hps
    obtain ⟨Y, hY⟩ : ∃ Y, Y = cntX ps hg wd := ⟨_, rfl⟩
    have hm2 : mosV wd hg zs is = (Y == 0) := by rw [HM.out, hY]; simp
    have hy0 : 0 ≤ Y := by rw [hY]; exact (cntX_bd ps (h := hg) (by omega) wd).1
    have HY := hide hY
    clear hY HM
    by_cases hy : Y = 0
    · have HM : Hid (mosV wd hg zs is = true) := hide (by rw [hm2, hy]; rfl)
      have HC : Hid (needL wd hg zs is = ndL wd hg ps is m) := hide (by rw [HC0.out, HM.out]; rfl)
      have HY0 := hide hy
      clear hm2 hy
      go_enter Try.func28, Try.ntmps28
      go_wp2_with fail
      rw [← HW.out]
      refine HS.out.mono ?_
      rintro e w1 ⟨v, rfl, ho, hb⟩
      have HB1 := hide (bl_step HBW.out hb)
      have HE1 := hide (own_step HE.out hb)
      have HR1 := hide (rd_step HR0.out hb)
      have HO1 := hide (show w1.ownsRow W0.heap.size 60 6 v m ((picks zs is).flatMap encCv) from ho HFR.out)
      rw [← HPS.out] at HO1
      clear hb ho HS
      rw [HFR.out]
      go_wp2_with fail
      refine (l12Wall_any _ _ _ n c zs _ HZ.out hn HR1.out).mono ?_
      rintro e w2 ⟨rfl, hb⟩
      have HB2 := hide (bl_step HB1.out hb)
      have HE2 := hide (own_step HE1.out hb)
      have HO2 := hide (own_step HO1.out hb)
      clear hb
      rw [H1.out]
      obtain ⟨ap, cc, rfl, hcc2, hrp, hba⟩ := own_rdB encCv_len HO2.out HL.out
      have HRP := hide hrp
      have HBA := hide hba
      clear hrp hba
      go_wp2_with fail
      refine (l12Bare_any wd hg (by omega) (by omega) ap m cc ps _ HL.out hm HRP.out).mono ?_
      rintro e w4 ⟨rfl, hb⟩
      have HB4 := hide (bl_step HB2.out hb)
      have HE4 := hide (own_step HE2.out hb)
      have HRP4 := hide (rd_step HRP.out hb)
      have hs4 := hb.size
      clear hb
      rw [← HY.out]
      rw [HY0.out]
      go_wp2
      go_loopg [10, 13] m (fun gk v i wr => ∃ k g cap : Nat, k ≤ m ∧ m - k ≤ gk ∧ i = .int .i64 k ∧ v = .slice (some ⟨g, 0, none⟩) (ndL wd hg ps is k).length cap ∧ Aside (wr.ownsRow w.heap.size 3 1 (.slice (some ⟨g, 0, none⟩) (ndL wd hg ps is k).length cap) (ndL wd hg ps is k).length ((ndL wd hg ps is k).flatMap encI)) ∧ Aside (g = w.heap.size ∨ w4.heap.size ≤ g) ∧ Aside (Rd encCv 6 w4.heap.size wr ap ps) ∧ Aside (Below w.heap.size w wr) ∧ Aside (w4.heap.size ≤ wr.heap.size))
      case atStart => exact ⟨0, w.heap.size, 0, Nat.zero_le _, by omega, rfl, rfl, HE4.out, .inl rfl, HRP4.out, HB4.out, Nat.le_refl _⟩
      case round =>
        obtain ⟨k, g, cap, hk, hgk, rfl, rfl, OW, GB, RV, BW, VS⟩ := hrel
        by_cases hlt : k < m
        · have hji : (k : Int) < (m : Int) := by omega
          have hj0 : (0 : Int) ≤ (k : Int) := by omega
          have HRW := hide (rd_at RV.out VS.out)
          obtain ⟨b2, off2, rfl, hbz, hat⟩ := rdCv HRW.out (by rw [HL.out]; omega)
          obtain ⟨x, hx, hxc⟩ := hat k (by rw [HL.out]; exact hlt)
          have HQ := hide (getI! (HPI.out k x hx))
          have HXC := hide hxc
          clear hx hxc hat
          have k4 : (k : Int) ≤ (cc : Int) := by omega
          have k5 : IntKind.i64.wrap ((k : Int) + 1) = (k : Int) + 1 := IntWalk.i64_in _ (by omega)
          have k6 : ((k : Int) + 1).toNat = k + 1 := by omega
          have k7 : (k : Int) + 1 ≤ (m : Int) := by omega
          have k8 : (0 : Int) ≤ (k : Int) + 1 := by omega
          have k10 : (k : Int) ≤ (k : Int) + 1 := by omega
          have HLD := hide (dropC_len HL.out hlt)
          obtain ⟨X, hX⟩ : ∃ X, X = cntX (dropC ps k) hg wd := ⟨_, rfl⟩
          have HND : Hid (ndB wd hg ps k = (X == 0)) := hide (by unfold ndB; rw [hX]; simp)
          have HX := hide hX
          clear hX
          have hgl := ndL_len wd hg ps is k
          generalize hll : (ndL wd hg ps is k).length = L at hgl OW ⊢
          have HLL := hide hll
          clear hll
          obtain ⟨W, hW⟩ : ∃ W, W = wr := ⟨_, rfl⟩
          subst hW
          by_cases hx0 : X = 0
          · have HN2 : Hid (ndB wd hg ps k = true) := hide (by rw [HND.out, hx0]; rfl)
            have HX0 := hide hx0
            clear hx0
            go_wp2_with fail
            refine wp_region_held_drew (S := fun w' => Below W.heap.size W w') (by kernel_rfl) (Below.refl _ _).drew (fun hHeld => ?_)
            refine held_take 0 44 ?vv1 rfl (by kernel_rfl) (by kernel_rfl) (by kernel_rfl) rfl (fun _ _ _ h => h) (by rfl) ?hy1 (by assumption) ?rest1
            case hy1 => (intro w hSw; (try dsimp only at hSw); go_simp; try with_reducible rfl)
            try simp only [Act.put, List.setIfInBounds_toArray, List.set_cons_zero, List.set_cons_succ]
            refine held_take 1 45 ?vv2 rfl (by kernel_rfl) (by kernel_rfl) (by kernel_rfl) rfl (fun _ _ _ h => h) (by rfl) ?hy2 (by assumption) ?rest2
            case hy2 => (intro w hSw; (try dsimp only at hSw); go_simp; try with_reducible rfl)
            try simp only [Act.put, List.setIfInBounds_toArray, List.set_cons_zero, List.set_cons_succ]
            refine held_take 3 47 ?vv3 rfl (by kernel_rfl) (by kernel_rfl) (by kernel_rfl) rfl (fun _ _ _ h => h) (by rfl) ?hy3 (by assumption) ?rest3
            case hy3 => (intro w hSw; (try dsimp only at hSw); go_simp; try with_reducible rfl)
            try simp only [Act.put, List.setIfInBounds_toArray, List.set_cons_zero, List.set_cons_succ]
            refine held_take 4 48 ?vv4 rfl (by kernel_rfl) (by kernel_rfl) (by kernel_rfl) rfl (fun _ _ _ h => h) (by rfl) ?hy4 (by assumption) ?rest4
            case hy4 => (intro w hSw; (try dsimp only at hSw); go_simp; try with_reducible rfl)
            try simp only [Act.put, List.setIfInBounds_toArray, List.set_cons_zero, List.set_cons_succ]
            refine held_take 5 49 ?vv5 rfl (by kernel_rfl) (by kernel_rfl) (by kernel_rfl) rfl (fun _ _ _ h => h) (by rfl) ?hy5 (by assumption) ?rest5
            case hy5 => (intro w hSw; (try dsimp only at hSw); go_simp; try with_reducible rfl)
            try simp only [Act.put, List.setIfInBounds_toArray, List.set_cons_zero, List.set_cons_succ]
            refine held_take 7 51 ?vv6 rfl (by kernel_rfl) (by kernel_rfl) (by kernel_rfl) rfl (fun _ _ _ h => h) (by rfl) ?hy6 (by assumption) ?rest6
            case hy6 => (intro w hSw; (try dsimp only at hSw); go_simp; try with_reducible rfl)
            try simp only [Act.put, List.setIfInBounds_toArray, List.set_cons_zero, List.set_cons_succ]
            refine held_take 8 52 ?vv7 rfl (by kernel_rfl) (by kernel_rfl) (by kernel_rfl) rfl (fun _ _ _ h => h) (by rfl) ?hy7 (by assumption) ?rest7
            case hy7 => (intro w hSw; (try dsimp only at hSw); go_simp; try with_reducible rfl)
            try simp only [Act.put, List.setIfInBounds_toArray, List.set_cons_zero, List.set_cons_succ]
            refine held_take 9 53 ?vv8 rfl (by kernel_rfl) (by kernel_rfl) (by kernel_rfl) rfl (fun _ _ _ h => h) (by rfl) ?hy8 (by assumption) ?rest8
            case hy8 => (intro w hSw; (try dsimp only at hSw); go_simp; try with_reducible rfl)
            try simp only [Act.put, List.setIfInBounds_toArray, List.set_cons_zero, List.set_cons_succ]
            refine held_take 10 54 (.slice (some (behindA b2 off2 k cc)) (m - (k + 1)) (cc - (k + 1))) rfl (by kernel_rfl) (by kernel_rfl) (by kernel_rfl) rfl (fun _ _ _ h => h) (by rfl) ?hy9 (by assumption) ?rest9
            case hy9 => (intro w hSw; (try dsimp only at hSw); go_simp; first | done | (with_reducible rfl) | (unfold behindA; by_cases hcc : cc = k + 1 <;> simp [hcc]))
            try simp only [Act.put, List.setIfInBounds_toArray, List.set_cons_zero, List.set_cons_succ]
            refine wpAnyH_ready (rs := [2]) (by kernel_rfl) (by simp) ?_
            refine AllReadyH.cons rfl (fun K hK => ?_) AllReadyH.nil
            go_simp
            have HE0 : (W.drew.alloc (.cells #[] 60)).ownsRow W.heap.size 60 6 (.slice (some ⟨W.heap.size, 0, none⟩) 0 0) 0 [] := World.ownsRow_made W.drew #[] 0 (Nat.le_refl _) (by simp [maxLen]) rfl
            have q0 : Below W.heap.size W (W.drew.alloc (.cells #[] 60)) := ((Below.refl W.heap.size W).drew).alloc (Nat.le_refl _) _
            refine hK.out _ _ q0 (fun hHeld2 => ?_)
            clear hK K hHeld
            obtain ⟨ei, ez0, ez1, ez2⟩ := HI.out
            try simp only [Act.put, List.setIfInBounds_toArray, List.set_cons_zero, List.set_cons_succ]
            refine wpAnyH_ready (rs := [6]) (by kernel_rfl) (by simp) ?_
            refine AllReadyH.cons rfl (fun K hK => ?_) AllReadyH.nil
            refine step_append_own (by rfl) _ _ _ (by rfl) W.heap.size 60 i0 _ 6 48 Try.underlying26 ei ez0 ez1 ez2 rfl (by omega) _ 0 [] (by rfl) HE0 ⟨b2, off2, none⟩ k cc ((ps.take k).flatMap encCv) (by rfl) (by rw [flat_len encCv_len, List.length_take, HL.out, Nat.min_eq_left (by omega)]) (rd_flat encCv_len ((rd_step HRW.out q0).takeV k)) (flat_one encCv_one _) (by unfold maxLen; omega) (by omega) (by have := Below.size q0; first | (simp; done) | (simp; omega) | omega) ?_
            intro v3 y3 hown hgrow
            have q3 : Below W.heap.size W y3 := bl_grown q0 HE0 (Nat.le_refl _) hgrow
            have ho3 : y3.ownsRow W.heap.size 60 6 v3 k ((ps.take k).flatMap encCv) := by first | exact hown | (rw [Nat.zero_add, List.nil_append] at hown; exact hown)
            refine hK.out _ _ q3 (fun hHeld3 => ?_)
            clear hK K hown hHeld2
            try simp only [Act.put, List.setIfInBounds_toArray, List.set_cons_zero, List.set_cons_succ]
            refine wpAnyH_ready (rs := [11]) (by kernel_rfl) (by simp) ?_
            refine AllReadyH.cons rfl (fun K hK => ?_) AllReadyH.nil
            refine step_append_own (by rfl) _ _ _ (by rfl) W.heap.size 60 i0 _ 6 48 Try.underlying26 ei ez0 ez1 ez2 rfl (by omega) _ k _ (by rfl) ho3 (behindA b2 off2 k cc) (m - (k + 1)) (cc - (k + 1)) ((ps.drop (k + 1)).flatMap encCv) (by rfl) (by rw [flat_len encCv_len, List.length_drop, HL.out]) (rd_flat encCv_len (Rd.behind HL.out hcc2 (rd_step HRW.out q3))) (flat_one encCv_one _) (by unfold maxLen; omega) (by omega) (by have := Below.size q3; first | (simp; done) | (simp; omega) | omega) ?_
            intro v4 y4 hown hgrow
            have q4 : Below W.heap.size W y4 := bl_grown q3 ho3 (Nat.le_refl _) hgrow
            have ho4 : y4.ownsRow W.heap.size 60 6 v4 (k + (m - (k + 1))) ((dropC ps k).flatMap encCv) := by unfold dropC; rw [List.flatMap_append]; exact hown
            refine hK.out _ _ q4 (fun hHeld4 => ?_)
            clear hK K hown hHeld3
            try simp only [Act.put, List.setIfInBounds_toArray, List.set_cons_zero, List.set_cons_succ]
            obtain ⟨ao3, c3, rfl, hc3, hm3, hrd⟩ := own_rd encCv_len ho4 HLD.out
            have HRD := hide hrd
            clear hrd hc3 hm3
            refine wpAnyH_ready (rs := [12]) (by kernel_rfl) (by simp) ?_
            refine AllReadyH.cons rfl (fun K hK => ?_) AllReadyH.nil
            go_simp
            refine (l12Bare_any wd hg (by omega) (by omega) _ _ _ (dropC ps k) _ HLD.out (by omega) HRD.out).mono ?_
            rintro e w6 ⟨rfl, hb⟩
            go_wp2_with fail
            rw [← HX.out, HX0.out]
            have q6 : Below W.heap.size W w6 := bl_step q4 hb
            clear hb
            refine hK.out _ _ q6 (fun hHeld6 => ?_)
            clear hK K hHeld4
            try simp only [Act.put, List.setIfInBounds_toArray, List.set_cons_zero, List.set_cons_succ]
            refine held_take 13 57 ?vv10 rfl (by kernel_rfl) (by kernel_rfl) (by kernel_rfl) rfl (fun _ _ _ h => h) (by rfl) ?hy10 (by assumption) ?rest10
            case hy10 => (intro w hSw; (try dsimp only at hSw); go_simp; try with_reducible rfl)
            try simp only [Act.put, List.setIfInBounds_toArray, List.set_cons_zero, List.set_cons_succ]
            refine wpAnyH_done (by kernel_rfl) ?_ _
            clear hHeld6 ho4 ho3 HE0 q0 q3 q4 HRD
            have q4 := q6
            clear q6
            obtain ⟨hbr, c0, _, _, _, _, _⟩ := HXC.out w6 q4
            have hb24 : b2 < w4.heap.size := by
              obtain ⟨b', o', he, h1, _⟩ := Rd.at_ RV.out (by rw [HL.out]; omega)
              injection he with he; injection he with he _ _; omega
            have HB5 := hide (bl_step BW.out q4)
            have HO5 := hide (own_step OW.out q4)
            have HR5 := hide (RV.out.below q4 VS.out)
            have hs5 : w4.heap.size ≤ w6.heap.size := Nat.le_trans VS.out q4.size
            have hsz := HB5.out.size
            obtain ⟨hi, hz0, hz1, hz2⟩ := HI2.out
            go_wp2_with (at_builtin; refine wpList_append_lies _ rfl _ _ 30 rfl w.heap.size 3 i1 (.int .i64 0) 1 8 Try.underlying30 hi hz0 hz1 hz2 rfl (by decide) _ L _ rfl (HO5.out.alloc _) ⟨w6.heap.size, 0, none⟩ 1 1 [.int .i64 x.i] rfl rfl ?c1 ?c2 (by decide) ?c3 ?c4 ?c5 _ rfl ?_)
            case c1 => exact news_at #[.int .i64 x.i]
            case c2 => intro u hu; simp at hu; subst hu; rfl
            case c3 => unfold maxLen; omega
            case c4 => omega
            case c5 => simp; omega
            intro g' cap' w7 hown' hgrow hlies _
            have HG7 : Hid (g' = w.heap.size ∨ w4.heap.size ≤ g') := hide (by
              rcases hlies with h | h
              · have : g = g' := by simpa [Value.ownBlock] using h
                rw [← this]; exact GB.out
              · right; rw [h]; first | exact hs5 | omega | (simp; omega))
            have HR7 : Hid (Rd encCv 6 w4.heap.size w7 (some ⟨b2, off2, none⟩) ps) := hide (rd_grown2 (HR5.out.alloc _) hgrow (fun bb oo hh => by
              injection hh with hh; injection hh with hh _ _
              intro h
              have h3 : b2 = g := by rw [← hh] at h; simpa [Value.ownBlock] using h
              have h4 := HBA.out b2 off2 rfl
              have h5 := HS0.out
              rcases GB.out with h6 | h6 <;> omega))
            have HB7 := hide (bl_grown (HB5.out.alloc hsz _) (HO5.out.alloc _) (Nat.le_refl _) hgrow)
            have HO7 := hide hown'
            have HV7 := hide (Nat.le_trans hs5 (Nat.le_trans (by simp) hgrow.size))
            clear hown' hgrow hi hz0 hz1 hz2 hlies
            go_wp2
            go_roundg (m - (k + 1))
            case measure => omega
            case rel => exact ⟨k + 1, g', cap', by omega, by omega, by go_num, by rw [ndL_yes HQ.out HN2.out, List.length_append, HLL.out]; rfl, by rw [ndL_yes HQ.out HN2.out, flat_snoc, List.length_append, HLL.out]; exact HO7.out, HG7.out, HR7.out, HB7.out, HV7.out⟩
          · have HN2 : Hid (ndB wd hg ps k = false) := hide (by rw [HND.out, beq_eq_false_iff_ne.2 hx0])
            have hd1 : decide (X = 0) = false := by simp [hx0]
            have hd2 : (X == 0) = false := by simp [hx0]
            go_wp2_with fail
            refine wp_region_held_drew (S := fun w' => Below W.heap.size W w') (by kernel_rfl) (Below.refl _ _).drew (fun hHeld => ?_)
            refine held_take 0 44 ?vv11 rfl (by kernel_rfl) (by kernel_rfl) (by kernel_rfl) rfl (fun _ _ _ h => h) (by rfl) ?hy11 (by assumption) ?rest11
            case hy11 => (intro w hSw; (try dsimp only at hSw); go_simp; try with_reducible rfl)
            try simp only [Act.put, List.setIfInBounds_toArray, List.set_cons_zero, List.set_cons_succ]
            refine held_take 1 45 ?vv12 rfl (by kernel_rfl) (by kernel_rfl) (by kernel_rfl) rfl (fun _ _ _ h => h) (by rfl) ?hy12 (by assumption) ?rest12
            case hy12 => (intro w hSw; (try dsimp only at hSw); go_simp; try with_reducible rfl)
            try simp only [Act.put, List.setIfInBounds_toArray, List.set_cons_zero, List.set_cons_succ]
            refine held_take 3 47 ?vv13 rfl (by kernel_rfl) (by kernel_rfl) (by kernel_rfl) rfl (fun _ _ _ h => h) (by rfl) ?hy13 (by assumption) ?rest13
            case hy13 => (intro w hSw; (try dsimp only at hSw); go_simp; try with_reducible rfl)
            try simp only [Act.put, List.setIfInBounds_toArray, List.set_cons_zero, List.set_cons_succ]
            refine held_take 4 48 ?vv14 rfl (by kernel_rfl) (by kernel_rfl) (by kernel_rfl) rfl (fun _ _ _ h => h) (by rfl) ?hy14 (by assumption) ?rest14
            case hy14 => (intro w hSw; (try dsimp only at hSw); go_simp; try with_reducible rfl)
            try simp only [Act.put, List.setIfInBounds_toArray, List.set_cons_zero, List.set_cons_succ]
            refine held_take 5 49 ?vv15 rfl (by kernel_rfl) (by kernel_rfl) (by kernel_rfl) rfl (fun _ _ _ h => h) (by rfl) ?hy15 (by assumption) ?rest15
            case hy15 => (intro w hSw; (try dsimp only at hSw); go_simp; try with_reducible rfl)
            try simp only [Act.put, List.setIfInBounds_toArray, List.set_cons_zero, List.set_cons_succ]
            refine held_take 7 51 ?vv16 rfl (by kernel_rfl) (by kernel_rfl) (by kernel_rfl) rfl (fun _ _ _ h => h) (by rfl) ?hy16 (by assumption) ?rest16
            case hy16 => (intro w hSw; (try dsimp only at hSw); go_simp; try with_reducible rfl)
            try simp only [Act.put, List.setIfInBounds_toArray, List.set_cons_zero, List.set_cons_succ]
            refine held_take 8 52 ?vv17 rfl (by kernel_rfl) (by kernel_rfl) (by kernel_rfl) rfl (fun _ _ _ h => h) (by rfl) ?hy17 (by assumption) ?rest17
            case hy17 => (intro w hSw; (try dsimp only at hSw); go_simp; try with_reducible rfl)
            try simp only [Act.put, List.setIfInBounds_toArray, List.set_cons_zero, List.set_cons_succ]
            refine held_take 9 53 ?vv18 rfl (by kernel_rfl) (by kernel_rfl) (by kernel_rfl) rfl (fun _ _ _ h => h) (by rfl) ?hy18 (by assumption) ?rest18
            case hy18 => (intro w hSw; (try dsimp only at hSw); go_simp; try with_reducible rfl)
            try simp only [Act.put, List.setIfInBounds_toArray, List.set_cons_zero, List.set_cons_succ]
            refine held_take 10 54 (.slice (some (behindA b2 off2 k cc)) (m - (k + 1)) (cc - (k + 1))) rfl (by kernel_rfl) (by kernel_rfl) (by kernel_rfl) rfl (fun _ _ _ h => h) (by rfl) ?hy19 (by assumption) ?rest19
            case hy19 => (intro w hSw; (try dsimp only at hSw); go_simp; first | done | (with_reducible rfl) | (unfold behindA; by_cases hcc : cc = k + 1 <;> simp [hcc]))
            try simp only [Act.put, List.setIfInBounds_toArray, List.set_cons_zero, List.set_cons_succ]
            refine wpAnyH_ready (rs := [2]) (by kernel_rfl) (by simp) ?_
            refine AllReadyH.cons rfl (fun K hK => ?_) AllReadyH.nil
            go_simp
            have HE0 : (W.drew.alloc (.cells #[] 60)).ownsRow W.heap.size 60 6 (.slice (some ⟨W.heap.size, 0, none⟩) 0 0) 0 [] := World.ownsRow_made W.drew #[] 0 (Nat.le_refl _) (by simp [maxLen]) rfl
            have q0 : Below W.heap.size W (W.drew.alloc (.cells #[] 60)) := ((Below.refl W.heap.size W).drew).alloc (Nat.le_refl _) _
            refine hK.out _ _ q0 (fun hHeld2 => ?_)
            clear hK K hHeld
            obtain ⟨ei, ez0, ez1, ez2⟩ := HI.out
            try simp only [Act.put, List.setIfInBounds_toArray, List.set_cons_zero, List.set_cons_succ]
            refine wpAnyH_ready (rs := [6]) (by kernel_rfl) (by simp) ?_
            refine AllReadyH.cons rfl (fun K hK => ?_) AllReadyH.nil
            refine step_append_own (by rfl) _ _ _ (by rfl) W.heap.size 60 i0 _ 6 48 Try.underlying26 ei ez0 ez1 ez2 rfl (by omega) _ 0 [] (by rfl) HE0 ⟨b2, off2, none⟩ k cc ((ps.take k).flatMap encCv) (by rfl) (by rw [flat_len encCv_len, List.length_take, HL.out, Nat.min_eq_left (by omega)]) (rd_flat encCv_len ((rd_step HRW.out q0).takeV k)) (flat_one encCv_one _) (by unfold maxLen; omega) (by omega) (by have := Below.size q0; first | (simp; done) | (simp; omega) | omega) ?_
            intro v3 y3 hown hgrow
            have q3 : Below W.heap.size W y3 := bl_grown q0 HE0 (Nat.le_refl _) hgrow
            have ho3 : y3.ownsRow W.heap.size 60 6 v3 k ((ps.take k).flatMap encCv) := by first | exact hown | (rw [Nat.zero_add, List.nil_append] at hown; exact hown)
            refine hK.out _ _ q3 (fun hHeld3 => ?_)
            clear hK K hown hHeld2
            try simp only [Act.put, List.setIfInBounds_toArray, List.set_cons_zero, List.set_cons_succ]
            refine wpAnyH_ready (rs := [11]) (by kernel_rfl) (by simp) ?_
            refine AllReadyH.cons rfl (fun K hK => ?_) AllReadyH.nil
            refine step_append_own (by rfl) _ _ _ (by rfl) W.heap.size 60 i0 _ 6 48 Try.underlying26 ei ez0 ez1 ez2 rfl (by omega) _ k _ (by rfl) ho3 (behindA b2 off2 k cc) (m - (k + 1)) (cc - (k + 1)) ((ps.drop (k + 1)).flatMap encCv) (by rfl) (by rw [flat_len encCv_len, List.length_drop, HL.out]) (rd_flat encCv_len (Rd.behind HL.out hcc2 (rd_step HRW.out q3))) (flat_one encCv_one _) (by unfold maxLen; omega) (by omega) (by have := Below.size q3; first | (simp; done) | (simp; omega) | omega) ?_
            intro v4 y4 hown hgrow
            have q4 : Below W.heap.size W y4 := bl_grown q3 ho3 (Nat.le_refl _) hgrow
            have ho4 : y4.ownsRow W.heap.size 60 6 v4 (k + (m - (k + 1))) ((dropC ps k).flatMap encCv) := by unfold dropC; rw [List.flatMap_append]; exact hown
            refine hK.out _ _ q4 (fun hHeld4 => ?_)
            clear hK K hown hHeld3
            try simp only [Act.put, List.setIfInBounds_toArray, List.set_cons_zero, List.set_cons_succ]
            obtain ⟨ao3, c3, rfl, hc3, hm3, hrd⟩ := own_rd encCv_len ho4 HLD.out
            have HRD := hide hrd
            clear hrd hc3 hm3
            refine wpAnyH_ready (rs := [12]) (by kernel_rfl) (by simp) ?_
            refine AllReadyH.cons rfl (fun K hK => ?_) AllReadyH.nil
            go_simp
            refine (l12Bare_any wd hg (by omega) (by omega) _ _ _ (dropC ps k) _ HLD.out (by omega) HRD.out).mono ?_
            rintro e w6 ⟨rfl, hb⟩
            go_wp2_with fail
            rw [← HX.out]
            have q6 : Below W.heap.size W w6 := bl_step q4 hb
            clear hb
            refine hK.out _ _ q6 (fun hHeld6 => ?_)
            clear hK K hHeld4
            try simp only [Act.put, List.setIfInBounds_toArray, List.set_cons_zero, List.set_cons_succ]
            refine held_take 13 57 ?vv20 rfl (by kernel_rfl) (by kernel_rfl) (by kernel_rfl) rfl (fun _ _ _ h => h) (by rfl) ?hy20 (by assumption) ?rest20
            case hy20 => (intro w hSw; (try dsimp only at hSw); go_simp; try with_reducible rfl)
            try simp only [Act.put, List.setIfInBounds_toArray, List.set_cons_zero, List.set_cons_succ]
            refine wpAnyH_done (by kernel_rfl) ?_ _
            clear hHeld6 ho4 ho3 HE0 q0 q3 q4 HRD
            have q4 := q6
            clear q6
            go_wp2
            go_roundg (m - (k + 1))
            case measure => omega
            case rel => exact ⟨k + 1, g, cap, by omega, by omega, by go_num, by rw [ndL_no HN2.out, HLL.out], by rw [ndL_no HN2.out, HLL.out]; exact own_step OW.out q4, GB.out, RV.out.below q4 VS.out, bl_step BW.out q4, Nat.le_trans VS.out q4.size⟩
        · have hge : ¬ (k : Int) < (m : Int) := by omega
          obtain rfl : k = m := by omega
          go_wp2
          go_ret2
          exact ⟨_, ret_vb HM.out.symm, by rw [HC.out]; exact OW.out, BW.out⟩
    · have HM : Hid (mosV wd hg zs is = false) := hide (by rw [hm2, beq_eq_false_iff_ne.2 hy])
      have HC : Hid (needL wd hg zs is = []) := hide (by rw [HC0.out, HM.out]; rfl)
      have hy1 : 0 < Y := by omega
      clear hm2
      go_enter Try.func28, Try.ntmps28
      go_wp2_with fail
      rw [← HW.out]
      refine HS.out.mono ?_
      rintro e w1 ⟨v, rfl, ho, hb⟩
      have HB1 := hide (bl_step HBW.out hb)
      have HE1 := hide (own_step HE.out hb)
      have HR1 := hide (rd_step HR0.out hb)
      have HO1 := hide (show w1.ownsRow W0.heap.size 60 6 v m ((picks zs is).flatMap encCv) from ho HFR.out)
      rw [← HPS.out] at HO1
      clear hb ho HS
      rw [HFR.out]
      go_wp2_with fail
      refine (l12Wall_any _ _ _ n c zs _ HZ.out hn HR1.out).mono ?_
      rintro e w2 ⟨rfl, hb⟩
      have HB2 := hide (bl_step HB1.out hb)
      have HE2 := hide (own_step HE1.out hb)
      have HO2 := hide (own_step HO1.out hb)
      clear hb
      rw [H1.out]
      obtain ⟨ap, cc, rfl, hcc2, hrp, hba⟩ := own_rdB encCv_len HO2.out HL.out
      have HRP := hide hrp
      have HBA := hide hba
      clear hrp hba
      go_wp2_with fail
      refine (l12Bare_any wd hg (by omega) (by omega) ap m cc ps _ HL.out hm HRP.out).mono ?_
      rintro e w4 ⟨rfl, hb⟩
      have HB4 := hide (bl_step HB2.out hb)
      have HE4 := hide (own_step HE2.out hb)
      have HRP4 := hide (rd_step HRP.out hb)
      have hs4 := hb.size
      clear hb
      rw [← HY.out]
      go_wp2
      go_ret2
      exact ⟨_, ret_vb HM.out.symm, by rw [HC.out]; exact HE4.out, HB4.out⟩

end Go.Proofs.Ytpdfbijfklmonaa
