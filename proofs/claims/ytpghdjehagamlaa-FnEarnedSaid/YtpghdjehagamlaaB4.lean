/- BestEarners: the reference. -/
import Derived.Test.YtpghdjehagamlaaB4S
namespace Go.Proofs.Ytpghdjehagamlaa
open Go.RowKit
set_option linter.unusedVariables false
set_option linter.unusedSimpArgs false

set_option maxRecDepth 100000 in
set_option maxHeartbeats 4000000 in
theorem sBestEarners_any (ro : Option Addr) (m d : Nat) (rz : List Rt) (ao : Option Addr) (n c : Nat) (zs : List Cp) (q : Int) (w : World) (hrz : rz.length = m) (hm : m ≤ 1048576) (hrr : Rd encRt 4 w.heap.size w ro rz) (hz : zs.length = n) (hn : n ≤ 1048576) (hr : Rd encCp 4 w.heap.size w ao zs) :
    Calls Try.prog 33 #[.slice ro m d, .slice ao n c, .int .i64 q] w fun e w' => ∃ v, e = .returned (.tuple #[v, .bool (okBest rz zs q)]) ∧ w'.ownsRow w.heap.size 3 1 v (bestV rz zs q).length ((bestV rz zs q).flatMap encI) ∧ Below w.heap.size w w' := by
  have HZ := hide hz
  have HR := hide hr
  have HRZ := hide hrz
  have HRR := hide hrr
  clear hz hr hrz hrr
  have HA := hide (l14Good0_any ro m d rz ao n c zs w HRZ.out hm HRR.out HZ.out hn HR.out)
  rcases first2 (lawful rz zs) (inB q 0 10) with h1 | ⟨h1, h2⟩ | ⟨h1, h2⟩
  iterate 2
    · have HO : Hid (okBest rz zs q = false) := hide (by simp [okBest, *])
      have HC : Hid (bestV rz zs q = []) := hide (by unfold bestV; rw [HO.out]; rfl)
      go_enter Try.func33, Try.ntmps33
      go_wp2_with fail
      refine HA.out.mono ?_
      rintro e w1 ⟨rfl, hb⟩
      have HB := hide hb
      clear hb
      go_wp2_with (go_at_call 78; refine (l1In_any _ _ _ _).mono ?_; rintro e w' ⟨rfl, rfl⟩)
      go_ret2
      exact ⟨_, ret_vb HO.out.symm, by rw [HC.out]; exact World.ownsRow_made _ #[] 0 HB.out.size (by simp [maxLen]) rfl, HB.out.alloc HB.out.size _⟩
  have HO : Hid (okBest rz zs q = true) := hide (by simp [okBest, *])
  have b2 := inB_iff.1 h2
  obtain ⟨qn, rfl⟩ : ∃ k : Nat, q = k := ⟨q.toNat, by omega⟩
  have HC : Hid (bestV rz zs qn = (bestL rz zs).take qn) := hide (by unfold bestV; rw [HO.out]; rfl)
  have h10 := best_10 h1
  rw [HRZ.out] at h10
  have hinf := infoI
  obtain ⟨i0, hi, hz0, hz1, hz2⟩ := info_parts hinf
  clear hinf
  have HI := hide (And.intro hi (And.intro hz0 (And.intro hz1 hz2)))
  clear hi hz0 hz1 hz2
  go_enter Try.func33, Try.ntmps33
  go_wp2_with fail
  refine HA.out.mono ?_
  rintro e w1 ⟨rfl, hb⟩
  rw [h1]
  have HB := hide hb
  have HEM : Hid ((w1.alloc (.cells #[] 3)).ownsRow w.heap.size 3 1 (.slice (some ⟨w1.heap.size, 0, none⟩) 0 0) 0 []) := hide (World.ownsRow_made w1 #[] 0 hb.size (by simp [maxLen]) rfl)
  clear hb HA
  go_wp2_with (go_at_call 78; refine (l1In_any _ _ _ _).mono ?_; rintro e w' ⟨rfl, rfl⟩)
  obtain ⟨E, hE⟩ : ∃ E, E = earnV rz zs := ⟨_, rfl⟩
  have HE := hide hE
  clear hE
  go_loopg [8, 9] m (fun gk v i wr => ∃ k g cap : Nat, k ≤ m ∧ m - k ≤ gk ∧ i = .int .i64 k ∧ v = .slice (some ⟨g, 0, none⟩) k cap ∧ k ≤ cap ∧ cap ≤ maxLen ∧ Aside (wr.ownsRow w.heap.size 3 1 (.slice (some ⟨g, 0, none⟩) k cap) k ((sortE E ((rz.map Rt.s).take k)).flatMap encI)) ∧ Aside (Below w.heap.size w wr))
  case atStart => exact ⟨0, _, 0, Nat.zero_le _, by omega, rfl, rfl, Nat.le_refl _, by simp [maxLen], HEM.out, HB.out.alloc HB.out.size _⟩
  case round =>
    obtain ⟨k, g, cap, hk, hg, rfl, rfl, hNc, hcm, OW, BW⟩ := hrel
    by_cases hlt : k < m
    · have hltz : (k : Int) < (m : Int) := by omega
      obtain ⟨b, off, rfl, hb1, hat⟩ := rdRt HRR.out (by rw [HRZ.out]; omega)
      obtain ⟨r, hr, hrc⟩ := hat k (by rw [HRZ.out]; exact hlt)
      have hX : (rz.map Rt.s)[k]? = some r.s := by rw [List.getElem?_map, hr]; rfl
      have HXC := hide hrc
      obtain ⟨hbr, c0, c1, c2, c3⟩ := hrc wr BW.out
      obtain ⟨ord, hord⟩ : ∃ ord, ord = sortE E ((rz.map Rt.s).take k) := ⟨_, rfl⟩
      have HON : Hid (ord.length = k) := hide (by rw [hord, sortE_lenk E _ k (by rw [List.length_map, HRZ.out]; omega)])
      have HNX : Hid (sortE E ((rz.map Rt.s).take (k + 1)) = rowE ord r.s [] (refk E ord (E r.s) k)) := hide (by rw [sortE_succ hX, ← hord]; unfold insE; rw [HON.out])
      rw [← hord] at OW
      clear hord hr hX hrc hat
      go_wp2_with fail
      refine (l14Earned_any _ _ _ rz _ _ _ zs _ _ HRZ.out hm (rd_step HRR.out BW.out) HZ.out hn (rd_step HR.out BW.out)).mono ?_
      rintro e w2 ⟨rfl, hb⟩
      have OA : Aside (w2.ownsRow w.heap.size 3 1 (.slice (some ⟨g, 0, none⟩) k cap) k (ord.flatMap encI)) := own_step OW.out hb
      have BA : Aside (Below w.heap.size w w2) := bl_step BW.out hb
      rw [show earnV rz zs r.s = E r.s by rw [HE.out]]
      clear hb OW BW c0 c1 c2 c3
      generalize hS : E r.s = S
      have HSV := hide hS
      clear hS
      go_wp2
      go_loopg [11] k (fun g2 vj wr2 => ∃ j : Nat, vj = .int .i64 j ∧ j ≤ k ∧ j ≤ g2 ∧ Aside (wr2.ownsRow w.heap.size 3 1 (.slice (some ⟨g, 0, none⟩) k cap) k (ord.flatMap encI)) ∧ Aside (Below w.heap.size w wr2) ∧ Hid (refk E ord S j = refk E ord S k))
      case atStart => exact ⟨k, rfl, Nat.le_refl _, Nat.le_refl _, OA, BA, rfl⟩
      case round =>
        clear OA BA
        obtain ⟨j, rfl, hjk, hg2, OJ, BJ, HK⟩ := hrel
        have key : j = 0 ∨ (∃ jp y, j = jp + 1 ∧ ord[jp]? = some y ∧ ¬ E y < S) ∨ (∃ jp y, j = jp + 1 ∧ ord[jp]? = some y ∧ E y < S) := by
          cases j with
          | zero => exact .inl rfl
          | succ jp =>
            have hjl : jp < ord.length := by rw [HON.out]; omega
            have hy := List.getElem?_eq_getElem hjl
            by_cases h : E ord[jp] < S
            · exact .inr (.inr ⟨jp, _, rfl, hy, h⟩)
            · exact .inr (.inl ⟨jp, _, rfl, hy, h⟩)
        rcases key with hj0 | ⟨jp, y, hj, hy, hlty⟩ | ⟨jp, y, hj, hy, hlty⟩
        · have HREF : Hid (refk E ord (E r.s) k = j) := hide (by rw [HSV.out, ← HK.out, hj0]; rfl)
          have hj0' : ¬ (0 : Int) < (j : Int) := by omega
          clear hj0
          go_wp2_with fail
          obtain ⟨W, hW⟩ : ∃ W, W = wr := ⟨_, rfl⟩
          subst hW
          have HBr := hide BJ.out
          obtain ⟨hbW, cR, _⟩ := HXC.out W BJ.out
          have HRO := hide (own_rd' encI_len OJ.out HON.out)
          have hjN : j ≤ k := by omega
          have N1 : k ≤ 1000000 := by omega
          have kq1 : (j : Int) ≤ (cap : Int) := by omega
          have kq2 : (0 : Int) ≤ (j : Int) := by omega
          have kq3 : (j : Int) ≤ (k : Int) := by omega
          have kq4 : ((j : Int)).toNat = j := by omega
          have kq5 : IntKind.i64.wrap (j : Int) = (j : Int) := IntWalk.i64_in _ (by omega)
          clear BJ OJ
          obtain ⟨hi, hz0, hz1, hz2⟩ := HI.out
          go_wp2_with fail
          refine wp_region_held_drew (S := fun w' => w'.cell? ⟨b, off + k * 4, none⟩ = some (.int .i64 r.s) ∧ Below W.heap.size W w') (by kernel_rfl) ⟨((show Below W.heap.size W W.drew from (Below.refl _ _).drew).cell (p := ⟨b, off + k * 4, none⟩) hbW).trans cR, (show Below W.heap.size W W.drew from (Below.refl _ _).drew)⟩ (fun hHeld => ?_)
          refine heldI_take 1 56 ?vv1 rfl (by kernel_rfl) (by kernel_rfl) (by kernel_rfl) rfl (fun _ _ _ h => h) (by rfl) ?hy1 (by assumption) ?rest1
          case hy1 => (intro w hSw; (try dsimp only at hSw); go_simp; try with_reducible rfl)
          try simp only [Act.put, List.setIfInBounds_toArray, List.set_cons_zero, List.set_cons_succ]
          refine heldI_take 2 57 ?vv2 rfl (by kernel_rfl) (by kernel_rfl) (by kernel_rfl) rfl (fun _ _ _ h => h) (by rfl) ?hy2 (by assumption) ?rest2
          case hy2 => (intro w hSw; (try dsimp only at hSw); go_simp; try with_reducible rfl)
          try simp only [Act.put, List.setIfInBounds_toArray, List.set_cons_zero, List.set_cons_succ]
          refine heldI_take 3 58 (.slice (some ⟨g, 0, none⟩) j cap) rfl (by kernel_rfl) (by kernel_rfl) (by kernel_rfl) rfl (fun _ _ _ h => h) (by rfl) ?hy3 (by assumption) ?rest3
          case hy3 => (intro w hSw; (try dsimp only at hSw); go_simp; first | done | (with_reducible rfl) | (unfold behindJ; by_cases hcc : cap = j <;> simp [hcc]))
          try simp only [Act.put, List.setIfInBounds_toArray, List.set_cons_zero, List.set_cons_succ]
          refine heldI_take 5 60 ?vv4 rfl (by kernel_rfl) (by kernel_rfl) (by kernel_rfl) rfl (fun _ _ _ h => h) (by rfl) ?hy4 (by assumption) ?rest4
          case hy4 => (intro w hSw; (try dsimp only at hSw); go_simp; try with_reducible rfl)
          try simp only [Act.put, List.setIfInBounds_toArray, List.set_cons_zero, List.set_cons_succ]
          refine heldI_take 6 61 ?vv5 rfl (by kernel_rfl) (by kernel_rfl) (by kernel_rfl) rfl (fun _ _ _ h => h) (by rfl) ?hy5 (by assumption) ?rest5
          case hy5 => (intro w hSw; (try dsimp only at hSw); go_simp; try with_reducible rfl)
          try simp only [Act.put, List.setIfInBounds_toArray, List.set_cons_zero, List.set_cons_succ]
          refine heldI_take 7 62 ?vv6 rfl (by kernel_rfl) (by kernel_rfl) (by kernel_rfl) rfl (fun _ _ _ h => h) (by rfl) ?hy6 (by assumption) ?rest6
          case hy6 => (intro w hSw; (try dsimp only at hSw); go_simp; try with_reducible rfl)
          try simp only [Act.put, List.setIfInBounds_toArray, List.set_cons_zero, List.set_cons_succ]
          refine heldI_take 8 63 ?vv7 rfl (by kernel_rfl) (by kernel_rfl) (by kernel_rfl) rfl (fun _ _ _ h => h) (by rfl) ?hy7 (by assumption) ?rest7
          case hy7 => (intro w hSw; (try dsimp only at hSw); go_simp; try with_reducible rfl)
          try simp only [Act.put, List.setIfInBounds_toArray, List.set_cons_zero, List.set_cons_succ]
          refine heldI_take 9 64 ?vv8 rfl (by kernel_rfl) (by kernel_rfl) (by kernel_rfl) rfl (fun _ _ _ h => h) (by rfl) ?hy8 (by assumption) ?rest8
          case hy8 => (intro w hSw; (try dsimp only at hSw); go_simp; try with_reducible rfl)
          try simp only [Act.put, List.setIfInBounds_toArray, List.set_cons_zero, List.set_cons_succ]
          refine heldI_take 12 67 ?vv9 rfl (by kernel_rfl) (by kernel_rfl) (by kernel_rfl) rfl (fun _ _ _ h => h) (by rfl) ?hy9 (by assumption) ?rest9
          case hy9 => (intro w hSw; (try dsimp only at hSw); go_simp; try with_reducible rfl)
          try simp only [Act.put, List.setIfInBounds_toArray, List.set_cons_zero, List.set_cons_succ]
          refine heldI_take 13 68 ?vv10 rfl (by kernel_rfl) (by kernel_rfl) (by kernel_rfl) rfl (fun _ _ _ h => h) (by rfl) ?hy10 (by assumption) ?rest10
          case hy10 => (intro w hSw; (try dsimp only at hSw); go_simp; try with_reducible rfl)
          try simp only [Act.put, List.setIfInBounds_toArray, List.set_cons_zero, List.set_cons_succ]
          refine heldI_take 14 69 (.slice (some (behindJ g j cap 1)) (k - j) (cap - j)) rfl (by kernel_rfl) (by kernel_rfl) (by kernel_rfl) rfl (fun _ _ _ h => h) (by rfl) ?hy11 (by assumption) ?rest11
          case hy11 => (intro w hSw; (try dsimp only at hSw); go_simp; first | done | (with_reducible rfl) | (unfold behindJ; by_cases hcc : cap = j <;> simp [hcc]))
          try simp only [Act.put, List.setIfInBounds_toArray, List.set_cons_zero, List.set_cons_succ]
          refine wpAnyH_ready (rs := [0, 10]) (by kernel_rfl) (by simp) ?_
          refine AllReadyH.cons rfl (fun K hK => ?_) (AllReadyH.cons rfl (fun K hK => ?_) AllReadyH.nil)
          · go_simp
            have own0 : ((World.alloc W (.cells #[] 3)).drew).ownsRow W.heap.size 3 1 (.slice (some ⟨W.heap.size, 0, none⟩) 0 0) 0 [] := World.ownsRow_made W.drew #[] 0 (Nat.le_refl _) (by simp [maxLen]) rfl
            have q1 : Below W.heap.size W ((World.alloc W (.cells #[] 3)).drew) := (Below.drew (Below.refl W.heap.size W)).alloc (Nat.le_refl _) _
            have gE : W.heap.size < ((World.alloc W (.cells #[] 3)).drew).heap.size := by simp
            generalize (World.alloc W (.cells #[] 3)).drew = u1 at own0 q1 gE ⊢
            refine hK.out _ _ ⟨(q1.cell (p := ⟨b, off + k * 4, none⟩) hbW).trans cR, q1⟩ (fun hHeld1 => ?_)
            clear hK K
            try simp only [Act.put, List.setIfInBounds_toArray, List.set_cons_zero, List.set_cons_succ]
            refine wpAnyH_ready (rs := [4, 10]) (by kernel_rfl) (by simp) ?_
            refine AllReadyH.cons rfl (fun K hK => ?_) (AllReadyH.cons rfl (fun K hK => ?_) AllReadyH.nil)
            · refine step_append_ownJ (by rfl) _ _ _ (by rfl) W.heap.size 3 i0 _ 1 8 Try.underlying56 hi hz0 hz1 hz2 rfl (by omega) _ 0 [] (by rfl) own0 ⟨g, 0, none⟩ j cap ((ord.take j).flatMap encI) (by rfl) (by rw [flat_len encI_len, List.length_take, HON.out, Nat.min_eq_left hjN]) (rd_flat encI_len ((rd_at0 HRO.out q1).takeJ j)) (encJ_one (fun x u hu => by simp [encI] at hu; subst hu; rfl) _) (by unfold maxLen; omega) (by omega) q1.size ?_
              intro v3 w3 hown3 hgrow3
              have q3 : Below W.heap.size W w3 := bl_grown q1 own0 (Nat.le_refl _) hgrow3
              have ho3 : w3.ownsRow W.heap.size 3 1 v3 j ((ord.take j).flatMap encI) := by first | exact hown3 | (rw [Nat.zero_add, List.nil_append] at hown3; exact hown3)
              clear hown3
              refine hK.out _ _ ⟨(q3.cell (p := ⟨b, off + k * 4, none⟩) hbW).trans cR, q3⟩ (fun hHeld2 => ?_)
              clear hK K
              try simp only [Act.put, List.setIfInBounds_toArray, List.set_cons_zero, List.set_cons_succ]
              refine wpAnyH_ready (rs := [10]) (by kernel_rfl) (by simp) ?_
              refine AllReadyH.cons rfl (fun K hK => ?_) AllReadyH.nil
              go_simp
              have hX : Blk (World.alloc w3 (.cells #[.int .i64 r.s] 3)) w3.heap.size 3 #[.int .i64 r.s] := Blk.new w3 _ _
              have q2 : Below W.heap.size W (World.alloc w3 (.cells #[.int .i64 r.s] 3)) := q3.alloc q3.size _
              have gX : w3.heap.size < (World.alloc w3 (.cells #[.int .i64 r.s] 3)).heap.size := by simp
              have ho3 := ho3.alloc (.cells #[.int .i64 r.s] 3)
              generalize World.alloc w3 (.cells #[.int .i64 r.s] 3) = u2 at ho3 hX q2 gX ⊢
              refine hK.out _ _ ⟨(q2.cell (p := ⟨b, off + k * 4, none⟩) hbW).trans cR, q2⟩ (fun hHeld3 => ?_)
              clear hK K
              try simp only [Act.put, List.setIfInBounds_toArray, List.set_cons_zero, List.set_cons_succ]
              refine wpAnyH_ready (rs := [11]) (by kernel_rfl) (by simp) ?_
              refine AllReadyH.cons rfl (fun K hK => ?_) AllReadyH.nil
              refine step_append_ownJ (by rfl) _ _ _ (by rfl) W.heap.size 3 i0 _ 1 8 Try.underlying56 hi hz0 hz1 hz2 rfl (by omega) _ j _ (by rfl) ho3 ⟨w3.heap.size, 0, none⟩ 1 1 ([.int .i64 r.s]) (by rfl) (by rfl) (World.news_of_block (cs := #[.int .i64 r.s]) (t := 3) (fr := (0, 0)) hX) (by simp [Value.oneCell']) (by unfold maxLen; omega) (by omega) q2.size ?_
              intro v4 w4 hown4 hgrow4
              have q4 : Below W.heap.size W w4 := bl_grown q2 ho3 (Nat.le_refl _) hgrow4
              refine hK.out _ _ ⟨(q4.cell (p := ⟨b, off + k * 4, none⟩) hbW).trans cR, q4⟩ (fun hHeld4 => ?_)
              clear hK K
              try simp only [Act.put, List.setIfInBounds_toArray, List.set_cons_zero, List.set_cons_succ]
              clear hgrow4
              refine wpAnyH_ready (rs := [15]) (by kernel_rfl) (by simp) ?_
              refine AllReadyH.cons rfl (fun K hK => ?_) AllReadyH.nil
              refine step_append_ownJ (by rfl) _ _ _ (by rfl) W.heap.size 3 i0 _ 1 8 Try.underlying56 hi hz0 hz1 hz2 rfl (by omega) _ (j + 1) _ (by rfl) hown4 (behindJ g j cap 1) (k - j) (cap - j) ((ord.drop j).flatMap encI) (by rfl) (by rw [flat_len encI_len, List.length_drop, HON.out]) (rd_flat encI_len (Rd.behindJ HON.out hNc (rd_at0 HRO.out q4))) (encJ_one (fun x u hu => by simp [encI] at hu; subst hu; rfl) _) (by unfold maxLen; omega) (by omega) q4.size ?_
              intro v5 w5 hown5 hgrow5
              have q5 : Below W.heap.size W w5 := bl_grown q4 hown4 (Nat.le_refl _) hgrow5
              refine hK.out _ _ ⟨(q5.cell (p := ⟨b, off + k * 4, none⟩) hbW).trans cR, q5⟩ (fun hHeld5 => ?_)
              clear hK K
              try simp only [Act.put, List.setIfInBounds_toArray, List.set_cons_zero, List.set_cons_succ]
              refine heldI_take 16 8 ?vv12 rfl (by kernel_rfl) (by kernel_rfl) (by kernel_rfl) rfl (fun _ _ _ h => h) (by rfl) ?hy12 (by assumption) ?rest12
              case hy12 => (intro w hSw; (try dsimp only at hSw); go_simp; try with_reducible rfl)
              try simp only [Act.put, List.setIfInBounds_toArray, List.set_cons_zero, List.set_cons_succ]
              refine wpAnyH_done (by kernel_rfl) ?_ _
              have ho5 : w5.ownsRow W.heap.size 3 1 v5 (k + 1) ((rowE ord r.s [] j).flatMap encI) := by
                have e1 : j + 1 + (k - j) = k + 1 := by omega
                have h9 := hown5
                rw [e1] at h9
                have e2 : (rowE ord r.s [] j).flatMap encI = (ord.take j).flatMap encI ++ [.int .i64 r.s] ++ (ord.drop j).flatMap encI := by unfold rowE; simp [encI]
                rw [e2]; exact h9
              have HO5 := hide ho5
              have HB5 := hide q5
              clear ho5 hown5 hgrow5 q5 hown4 q4 ho3
              try clear q3
              try clear q2
              try clear q1
              try clear own0
              try clear hX
              try clear gX
              try clear gE
              try clear hgrow3
              clear hi hz0 hz1 hz2
              have hlen : (rowE ord r.s [] j).length = k + 1 := by rw [rowE_len, HON.out]; rfl
              rcases own_form encI_len HO5.out hlen with ⟨_, h0, _⟩ | ⟨g', cap', cs, rfl, hg', hB', hs', hnc', hm', ht'⟩
              · omega
              have HO6 : Hid (rowE ord r.s [] j = sortE E ((rz.map Rt.s).take (k + 1))) := hide (by rw [HNX.out, HREF.out])
              clear hB' hs' ht' hg' hlen
              go_wp2
              go_roundg (m - (k + 1))
              case measure => omega
              case rel =>
                refine ⟨k + 1, g', cap', by omega, by omega, by go_num, rfl, hnc', hm', ?_, (HBr.out.trans (HB5.out.mono HBr.out.size) : Below w.heap.size w _)⟩
                rw [← HO6.out]; exact own_baseE HO5.out HBr.out.size
            · go_simp
              have hX : Blk (World.alloc u1 (.cells #[.int .i64 r.s] 3)) u1.heap.size 3 #[.int .i64 r.s] := Blk.new u1 _ _
              have q2 : Below W.heap.size W (World.alloc u1 (.cells #[.int .i64 r.s] 3)) := q1.alloc q1.size _
              have gX : u1.heap.size < (World.alloc u1 (.cells #[.int .i64 r.s] 3)).heap.size := by simp
              have own0 := own0.alloc (.cells #[.int .i64 r.s] 3)
              generalize World.alloc u1 (.cells #[.int .i64 r.s] 3) = u2 at own0 hX q2 gX ⊢
              refine hK.out _ _ ⟨(q2.cell (p := ⟨b, off + k * 4, none⟩) hbW).trans cR, q2⟩ (fun hHeld6 => ?_)
              clear hK K
              try simp only [Act.put, List.setIfInBounds_toArray, List.set_cons_zero, List.set_cons_succ]
              refine wpAnyH_ready (rs := [4]) (by kernel_rfl) (by simp) ?_
              refine AllReadyH.cons rfl (fun K hK => ?_) AllReadyH.nil
              refine step_append_ownJ (by rfl) _ _ _ (by rfl) W.heap.size 3 i0 _ 1 8 Try.underlying56 hi hz0 hz1 hz2 rfl (by omega) _ 0 [] (by rfl) own0 ⟨g, 0, none⟩ j cap ((ord.take j).flatMap encI) (by rfl) (by rw [flat_len encI_len, List.length_take, HON.out, Nat.min_eq_left hjN]) (rd_flat encI_len ((rd_at0 HRO.out q2).takeJ j)) (encJ_one (fun x u hu => by simp [encI] at hu; subst hu; rfl) _) (by unfold maxLen; omega) (by omega) q2.size ?_
              intro v3 w3 hown3 hgrow3
              have q3 : Below W.heap.size W w3 := bl_grown q2 own0 (Nat.le_refl _) hgrow3
              have ho3 : w3.ownsRow W.heap.size 3 1 v3 j ((ord.take j).flatMap encI) := by first | exact hown3 | (rw [Nat.zero_add, List.nil_append] at hown3; exact hown3)
              clear hown3
              have hX := hX.grown hgrow3 (by simp [Value.ownBlock]; omega)
              refine hK.out _ _ ⟨(q3.cell (p := ⟨b, off + k * 4, none⟩) hbW).trans cR, q3⟩ (fun hHeld7 => ?_)
              clear hK K
              try simp only [Act.put, List.setIfInBounds_toArray, List.set_cons_zero, List.set_cons_succ]
              refine wpAnyH_ready (rs := [11]) (by kernel_rfl) (by simp) ?_
              refine AllReadyH.cons rfl (fun K hK => ?_) AllReadyH.nil
              refine step_append_ownJ (by rfl) _ _ _ (by rfl) W.heap.size 3 i0 _ 1 8 Try.underlying56 hi hz0 hz1 hz2 rfl (by omega) _ j _ (by rfl) ho3 ⟨u1.heap.size, 0, none⟩ 1 1 ([.int .i64 r.s]) (by rfl) (by rfl) (World.news_of_block (cs := #[.int .i64 r.s]) (t := 3) (fr := (0, 0)) hX) (by simp [Value.oneCell']) (by unfold maxLen; omega) (by omega) q3.size ?_
              intro v4 w4 hown4 hgrow4
              have q4 : Below W.heap.size W w4 := bl_grown q3 ho3 (Nat.le_refl _) hgrow4
              refine hK.out _ _ ⟨(q4.cell (p := ⟨b, off + k * 4, none⟩) hbW).trans cR, q4⟩ (fun hHeld8 => ?_)
              clear hK K
              try simp only [Act.put, List.setIfInBounds_toArray, List.set_cons_zero, List.set_cons_succ]
              clear hgrow4
              refine wpAnyH_ready (rs := [15]) (by kernel_rfl) (by simp) ?_
              refine AllReadyH.cons rfl (fun K hK => ?_) AllReadyH.nil
              refine step_append_ownJ (by rfl) _ _ _ (by rfl) W.heap.size 3 i0 _ 1 8 Try.underlying56 hi hz0 hz1 hz2 rfl (by omega) _ (j + 1) _ (by rfl) hown4 (behindJ g j cap 1) (k - j) (cap - j) ((ord.drop j).flatMap encI) (by rfl) (by rw [flat_len encI_len, List.length_drop, HON.out]) (rd_flat encI_len (Rd.behindJ HON.out hNc (rd_at0 HRO.out q4))) (encJ_one (fun x u hu => by simp [encI] at hu; subst hu; rfl) _) (by unfold maxLen; omega) (by omega) q4.size ?_
              intro v5 w5 hown5 hgrow5
              have q5 : Below W.heap.size W w5 := bl_grown q4 hown4 (Nat.le_refl _) hgrow5
              refine hK.out _ _ ⟨(q5.cell (p := ⟨b, off + k * 4, none⟩) hbW).trans cR, q5⟩ (fun hHeld9 => ?_)
              clear hK K
              try simp only [Act.put, List.setIfInBounds_toArray, List.set_cons_zero, List.set_cons_succ]
              refine heldI_take 16 8 ?vv13 rfl (by kernel_rfl) (by kernel_rfl) (by kernel_rfl) rfl (fun _ _ _ h => h) (by rfl) ?hy13 (by assumption) ?rest13
              case hy13 => (intro w hSw; (try dsimp only at hSw); go_simp; try with_reducible rfl)
              try simp only [Act.put, List.setIfInBounds_toArray, List.set_cons_zero, List.set_cons_succ]
              refine wpAnyH_done (by kernel_rfl) ?_ _
              have ho5 : w5.ownsRow W.heap.size 3 1 v5 (k + 1) ((rowE ord r.s [] j).flatMap encI) := by
                have e1 : j + 1 + (k - j) = k + 1 := by omega
                have h9 := hown5
                rw [e1] at h9
                have e2 : (rowE ord r.s [] j).flatMap encI = (ord.take j).flatMap encI ++ [.int .i64 r.s] ++ (ord.drop j).flatMap encI := by unfold rowE; simp [encI]
                rw [e2]; exact h9
              have HO5 := hide ho5
              have HB5 := hide q5
              clear ho5 hown5 hgrow5 q5 hown4 q4 ho3
              try clear q3
              try clear q2
              try clear q1
              try clear own0
              try clear hX
              try clear gX
              try clear gE
              try clear hgrow3
              clear hi hz0 hz1 hz2
              have hlen : (rowE ord r.s [] j).length = k + 1 := by rw [rowE_len, HON.out]; rfl
              rcases own_form encI_len HO5.out hlen with ⟨_, h0, _⟩ | ⟨g', cap', cs, rfl, hg', hB', hs', hnc', hm', ht'⟩
              · omega
              have HO6 : Hid (rowE ord r.s [] j = sortE E ((rz.map Rt.s).take (k + 1))) := hide (by rw [HNX.out, HREF.out])
              clear hB' hs' ht' hg' hlen
              go_wp2
              go_roundg (m - (k + 1))
              case measure => omega
              case rel =>
                refine ⟨k + 1, g', cap', by omega, by omega, by go_num, rfl, hnc', hm', ?_, (HBr.out.trans (HB5.out.mono HBr.out.size) : Below w.heap.size w _)⟩
                rw [← HO6.out]; exact own_baseE HO5.out HBr.out.size
          · go_simp
            have hX : Blk ((World.alloc W (.cells #[.int .i64 r.s] 3)).drew) W.heap.size 3 #[.int .i64 r.s] := Blk.new W.drew _ _
            have q1 : Below W.heap.size W ((World.alloc W (.cells #[.int .i64 r.s] 3)).drew) := (Below.drew (Below.refl W.heap.size W)).alloc (Nat.le_refl _) _
            have gX : W.heap.size < ((World.alloc W (.cells #[.int .i64 r.s] 3)).drew).heap.size := by simp
            generalize (World.alloc W (.cells #[.int .i64 r.s] 3)).drew = u1 at hX q1 gX ⊢
            refine hK.out _ _ ⟨(q1.cell (p := ⟨b, off + k * 4, none⟩) hbW).trans cR, q1⟩ (fun hHeld10 => ?_)
            clear hK K
            try simp only [Act.put, List.setIfInBounds_toArray, List.set_cons_zero, List.set_cons_succ]
            refine wpAnyH_ready (rs := [0]) (by kernel_rfl) (by simp) ?_
            refine AllReadyH.cons rfl (fun K hK => ?_) AllReadyH.nil
            go_simp
            have own0 : (World.alloc u1 (.cells #[] 3)).ownsRow W.heap.size 3 1 (.slice (some ⟨u1.heap.size, 0, none⟩) 0 0) 0 [] := World.ownsRow_made u1 #[] 0 q1.size (by simp [maxLen]) rfl
            have q2 : Below W.heap.size W (World.alloc u1 (.cells #[] 3)) := q1.alloc q1.size _
            have gE : u1.heap.size < (World.alloc u1 (.cells #[] 3)).heap.size := by simp
            have hX := hX.alloc (.cells #[] 3)
            generalize World.alloc u1 (.cells #[] 3) = u2 at own0 hX q2 gE ⊢
            refine hK.out _ _ ⟨(q2.cell (p := ⟨b, off + k * 4, none⟩) hbW).trans cR, q2⟩ (fun hHeld11 => ?_)
            clear hK K
            try simp only [Act.put, List.setIfInBounds_toArray, List.set_cons_zero, List.set_cons_succ]
            refine wpAnyH_ready (rs := [4]) (by kernel_rfl) (by simp) ?_
            refine AllReadyH.cons rfl (fun K hK => ?_) AllReadyH.nil
            refine step_append_ownJ (by rfl) _ _ _ (by rfl) W.heap.size 3 i0 _ 1 8 Try.underlying56 hi hz0 hz1 hz2 rfl (by omega) _ 0 [] (by rfl) own0 ⟨g, 0, none⟩ j cap ((ord.take j).flatMap encI) (by rfl) (by rw [flat_len encI_len, List.length_take, HON.out, Nat.min_eq_left hjN]) (rd_flat encI_len ((rd_at0 HRO.out q2).takeJ j)) (encJ_one (fun x u hu => by simp [encI] at hu; subst hu; rfl) _) (by unfold maxLen; omega) (by omega) q2.size ?_
            intro v3 w3 hown3 hgrow3
            have q3 : Below W.heap.size W w3 := bl_grown q2 own0 (Nat.le_refl _) hgrow3
            have ho3 : w3.ownsRow W.heap.size 3 1 v3 j ((ord.take j).flatMap encI) := by first | exact hown3 | (rw [Nat.zero_add, List.nil_append] at hown3; exact hown3)
            clear hown3
            have hX := hX.grown hgrow3 (by simp [Value.ownBlock]; omega)
            refine hK.out _ _ ⟨(q3.cell (p := ⟨b, off + k * 4, none⟩) hbW).trans cR, q3⟩ (fun hHeld12 => ?_)
            clear hK K
            try simp only [Act.put, List.setIfInBounds_toArray, List.set_cons_zero, List.set_cons_succ]
            refine wpAnyH_ready (rs := [11]) (by kernel_rfl) (by simp) ?_
            refine AllReadyH.cons rfl (fun K hK => ?_) AllReadyH.nil
            refine step_append_ownJ (by rfl) _ _ _ (by rfl) W.heap.size 3 i0 _ 1 8 Try.underlying56 hi hz0 hz1 hz2 rfl (by omega) _ j _ (by rfl) ho3 ⟨W.heap.size, 0, none⟩ 1 1 ([.int .i64 r.s]) (by rfl) (by rfl) (World.news_of_block (cs := #[.int .i64 r.s]) (t := 3) (fr := (0, 0)) hX) (by simp [Value.oneCell']) (by unfold maxLen; omega) (by omega) q3.size ?_
            intro v4 w4 hown4 hgrow4
            have q4 : Below W.heap.size W w4 := bl_grown q3 ho3 (Nat.le_refl _) hgrow4
            refine hK.out _ _ ⟨(q4.cell (p := ⟨b, off + k * 4, none⟩) hbW).trans cR, q4⟩ (fun hHeld13 => ?_)
            clear hK K
            try simp only [Act.put, List.setIfInBounds_toArray, List.set_cons_zero, List.set_cons_succ]
            clear hgrow4
            refine wpAnyH_ready (rs := [15]) (by kernel_rfl) (by simp) ?_
            refine AllReadyH.cons rfl (fun K hK => ?_) AllReadyH.nil
            refine step_append_ownJ (by rfl) _ _ _ (by rfl) W.heap.size 3 i0 _ 1 8 Try.underlying56 hi hz0 hz1 hz2 rfl (by omega) _ (j + 1) _ (by rfl) hown4 (behindJ g j cap 1) (k - j) (cap - j) ((ord.drop j).flatMap encI) (by rfl) (by rw [flat_len encI_len, List.length_drop, HON.out]) (rd_flat encI_len (Rd.behindJ HON.out hNc (rd_at0 HRO.out q4))) (encJ_one (fun x u hu => by simp [encI] at hu; subst hu; rfl) _) (by unfold maxLen; omega) (by omega) q4.size ?_
            intro v5 w5 hown5 hgrow5
            have q5 : Below W.heap.size W w5 := bl_grown q4 hown4 (Nat.le_refl _) hgrow5
            refine hK.out _ _ ⟨(q5.cell (p := ⟨b, off + k * 4, none⟩) hbW).trans cR, q5⟩ (fun hHeld14 => ?_)
            clear hK K
            try simp only [Act.put, List.setIfInBounds_toArray, List.set_cons_zero, List.set_cons_succ]
            refine heldI_take 16 8 ?vv14 rfl (by kernel_rfl) (by kernel_rfl) (by kernel_rfl) rfl (fun _ _ _ h => h) (by rfl) ?hy14 (by assumption) ?rest14
            case hy14 => (intro w hSw; (try dsimp only at hSw); go_simp; try with_reducible rfl)
            try simp only [Act.put, List.setIfInBounds_toArray, List.set_cons_zero, List.set_cons_succ]
            refine wpAnyH_done (by kernel_rfl) ?_ _
            have ho5 : w5.ownsRow W.heap.size 3 1 v5 (k + 1) ((rowE ord r.s [] j).flatMap encI) := by
              have e1 : j + 1 + (k - j) = k + 1 := by omega
              have h9 := hown5
              rw [e1] at h9
              have e2 : (rowE ord r.s [] j).flatMap encI = (ord.take j).flatMap encI ++ [.int .i64 r.s] ++ (ord.drop j).flatMap encI := by unfold rowE; simp [encI]
              rw [e2]; exact h9
            have HO5 := hide ho5
            have HB5 := hide q5
            clear ho5 hown5 hgrow5 q5 hown4 q4 ho3
            try clear q3
            try clear q2
            try clear q1
            try clear own0
            try clear hX
            try clear gX
            try clear gE
            try clear hgrow3
            clear hi hz0 hz1 hz2
            have hlen : (rowE ord r.s [] j).length = k + 1 := by rw [rowE_len, HON.out]; rfl
            rcases own_form encI_len HO5.out hlen with ⟨_, h0, _⟩ | ⟨g', cap', cs, rfl, hg', hB', hs', hnc', hm', ht'⟩
            · omega
            have HO6 : Hid (rowE ord r.s [] j = sortE E ((rz.map Rt.s).take (k + 1))) := hide (by rw [HNX.out, HREF.out])
            clear hB' hs' ht' hg' hlen
            go_wp2
            go_roundg (m - (k + 1))
            case measure => omega
            case rel =>
              refine ⟨k + 1, g', cap', by omega, by omega, by go_num, rfl, hnc', hm', ?_, (HBr.out.trans (HB5.out.mono HBr.out.size) : Below w.heap.size w _)⟩
              rw [← HO6.out]; exact own_baseE HO5.out HBr.out.size
        · have HREF : Hid (refk E ord (E r.s) k = j) := hide (by rw [HSV.out, ← HK.out, hj, refk_stop (by rw [getB hy]; exact hlty)])
          have hjl : jp < ord.length := by rw [HON.out]; omega
          obtain ⟨b', off', he, hb', hat⟩ := rdI (own_rd' encI_len OJ.out HON.out) (by omega)
          cases he
          obtain ⟨y', hy', hyc⟩ := hat jp hjl
          obtain rfl : y' = y := by rw [hy] at hy'; injection hy' with h; exact h.symm
          obtain ⟨_, cy⟩ := hyc wr (Below.refl _ _)
          rw [Nat.zero_add] at cy
          clear hy' hyc hat
          have HYY := hide hy
          have HLT := hide hlty
          clear hy hlty
          subst hj
          have k2 : (0 : Int) < (jp : Int) + 1 := by omega
          have k3 : (0 : Int) ≤ (jp : Int) := by omega
          have k4 : (jp : Int) < (k : Int) := by omega
          have k5 : IntKind.i64.wrap ((jp : Int) + 1) = (jp : Int) + 1 := IntWalk.i64_in _ (by omega)
          have k7 : IntKind.i64.wrap (jp : Int) = (jp : Int) := IntWalk.i64_in _ (by omega)
          go_wp2_with fail
          refine (l14Earned_any _ _ _ rz _ _ _ zs _ _ HRZ.out hm (rd_step HRR.out BJ.out) HZ.out hn (rd_step HR.out BJ.out)).mono ?_
          rintro e w3 ⟨rfl, hb⟩
          have OJ : Aside (w3.ownsRow w.heap.size 3 1 (.slice (some ⟨g, 0, none⟩) k cap) k (ord.flatMap encI)) := own_step OJ.out hb
          have BJ : Aside (Below w.heap.size w w3) := bl_step BJ.out hb
          rw [show earnV rz zs y' = E y' by rw [HE.out]]
          have hcmp := HLT.out
          clear hb cy HLT
          generalize E y' = Y at hcmp
          obtain ⟨j, hj⟩ : ∃ j, j = jp + 1 := ⟨_, rfl⟩
          have hjz : ((jp : Int) + 1) = (j : Int) := by omega
          rw [← hj] at HREF hjk
          simp only [hjz] at *
          clear hj hjz k2 k3 k4 k5 k7 HYY hjl
          go_wp2_with fail
          obtain ⟨W, hW⟩ : ∃ W, W = w3 := ⟨_, rfl⟩
          subst hW
          have HBr := hide BJ.out
          obtain ⟨hbW, cR, _⟩ := HXC.out W BJ.out
          have HRO := hide (own_rd' encI_len OJ.out HON.out)
          have hjN : j ≤ k := by omega
          have N1 : k ≤ 1000000 := by omega
          have kq1 : (j : Int) ≤ (cap : Int) := by omega
          have kq2 : (0 : Int) ≤ (j : Int) := by omega
          have kq3 : (j : Int) ≤ (k : Int) := by omega
          have kq4 : ((j : Int)).toNat = j := by omega
          have kq5 : IntKind.i64.wrap (j : Int) = (j : Int) := IntWalk.i64_in _ (by omega)
          clear BJ OJ
          obtain ⟨hi, hz0, hz1, hz2⟩ := HI.out
          go_wp2_with fail
          refine wp_region_held_drew (S := fun w' => w'.cell? ⟨b, off + k * 4, none⟩ = some (.int .i64 r.s) ∧ Below W.heap.size W w') (by kernel_rfl) ⟨((show Below W.heap.size W W.drew from (Below.refl _ _).drew).cell (p := ⟨b, off + k * 4, none⟩) hbW).trans cR, (show Below W.heap.size W W.drew from (Below.refl _ _).drew)⟩ (fun hHeld => ?_)
          refine heldI_take 1 56 ?vv15 rfl (by kernel_rfl) (by kernel_rfl) (by kernel_rfl) rfl (fun _ _ _ h => h) (by rfl) ?hy15 (by assumption) ?rest15
          case hy15 => (intro w hSw; (try dsimp only at hSw); go_simp; try with_reducible rfl)
          try simp only [Act.put, List.setIfInBounds_toArray, List.set_cons_zero, List.set_cons_succ]
          refine heldI_take 2 57 ?vv16 rfl (by kernel_rfl) (by kernel_rfl) (by kernel_rfl) rfl (fun _ _ _ h => h) (by rfl) ?hy16 (by assumption) ?rest16
          case hy16 => (intro w hSw; (try dsimp only at hSw); go_simp; try with_reducible rfl)
          try simp only [Act.put, List.setIfInBounds_toArray, List.set_cons_zero, List.set_cons_succ]
          refine heldI_take 3 58 (.slice (some ⟨g, 0, none⟩) j cap) rfl (by kernel_rfl) (by kernel_rfl) (by kernel_rfl) rfl (fun _ _ _ h => h) (by rfl) ?hy17 (by assumption) ?rest17
          case hy17 => (intro w hSw; (try dsimp only at hSw); go_simp; first | done | (with_reducible rfl) | (unfold behindJ; by_cases hcc : cap = j <;> simp [hcc]))
          try simp only [Act.put, List.setIfInBounds_toArray, List.set_cons_zero, List.set_cons_succ]
          refine heldI_take 5 60 ?vv18 rfl (by kernel_rfl) (by kernel_rfl) (by kernel_rfl) rfl (fun _ _ _ h => h) (by rfl) ?hy18 (by assumption) ?rest18
          case hy18 => (intro w hSw; (try dsimp only at hSw); go_simp; try with_reducible rfl)
          try simp only [Act.put, List.setIfInBounds_toArray, List.set_cons_zero, List.set_cons_succ]
          refine heldI_take 6 61 ?vv19 rfl (by kernel_rfl) (by kernel_rfl) (by kernel_rfl) rfl (fun _ _ _ h => h) (by rfl) ?hy19 (by assumption) ?rest19
          case hy19 => (intro w hSw; (try dsimp only at hSw); go_simp; try with_reducible rfl)
          try simp only [Act.put, List.setIfInBounds_toArray, List.set_cons_zero, List.set_cons_succ]
          refine heldI_take 7 62 ?vv20 rfl (by kernel_rfl) (by kernel_rfl) (by kernel_rfl) rfl (fun _ _ _ h => h) (by rfl) ?hy20 (by assumption) ?rest20
          case hy20 => (intro w hSw; (try dsimp only at hSw); go_simp; try with_reducible rfl)
          try simp only [Act.put, List.setIfInBounds_toArray, List.set_cons_zero, List.set_cons_succ]
          refine heldI_take 8 63 ?vv21 rfl (by kernel_rfl) (by kernel_rfl) (by kernel_rfl) rfl (fun _ _ _ h => h) (by rfl) ?hy21 (by assumption) ?rest21
          case hy21 => (intro w hSw; (try dsimp only at hSw); go_simp; try with_reducible rfl)
          try simp only [Act.put, List.setIfInBounds_toArray, List.set_cons_zero, List.set_cons_succ]
          refine heldI_take 9 64 ?vv22 rfl (by kernel_rfl) (by kernel_rfl) (by kernel_rfl) rfl (fun _ _ _ h => h) (by rfl) ?hy22 (by assumption) ?rest22
          case hy22 => (intro w hSw; (try dsimp only at hSw); go_simp; try with_reducible rfl)
          try simp only [Act.put, List.setIfInBounds_toArray, List.set_cons_zero, List.set_cons_succ]
          refine heldI_take 12 67 ?vv23 rfl (by kernel_rfl) (by kernel_rfl) (by kernel_rfl) rfl (fun _ _ _ h => h) (by rfl) ?hy23 (by assumption) ?rest23
          case hy23 => (intro w hSw; (try dsimp only at hSw); go_simp; try with_reducible rfl)
          try simp only [Act.put, List.setIfInBounds_toArray, List.set_cons_zero, List.set_cons_succ]
          refine heldI_take 13 68 ?vv24 rfl (by kernel_rfl) (by kernel_rfl) (by kernel_rfl) rfl (fun _ _ _ h => h) (by rfl) ?hy24 (by assumption) ?rest24
          case hy24 => (intro w hSw; (try dsimp only at hSw); go_simp; try with_reducible rfl)
          try simp only [Act.put, List.setIfInBounds_toArray, List.set_cons_zero, List.set_cons_succ]
          refine heldI_take 14 69 (.slice (some (behindJ g j cap 1)) (k - j) (cap - j)) rfl (by kernel_rfl) (by kernel_rfl) (by kernel_rfl) rfl (fun _ _ _ h => h) (by rfl) ?hy25 (by assumption) ?rest25
          case hy25 => (intro w hSw; (try dsimp only at hSw); go_simp; first | done | (with_reducible rfl) | (unfold behindJ; by_cases hcc : cap = j <;> simp [hcc]))
          try simp only [Act.put, List.setIfInBounds_toArray, List.set_cons_zero, List.set_cons_succ]
          refine wpAnyH_ready (rs := [0, 10]) (by kernel_rfl) (by simp) ?_
          refine AllReadyH.cons rfl (fun K hK => ?_) (AllReadyH.cons rfl (fun K hK => ?_) AllReadyH.nil)
          · go_simp
            have own0 : ((World.alloc W (.cells #[] 3)).drew).ownsRow W.heap.size 3 1 (.slice (some ⟨W.heap.size, 0, none⟩) 0 0) 0 [] := World.ownsRow_made W.drew #[] 0 (Nat.le_refl _) (by simp [maxLen]) rfl
            have q1 : Below W.heap.size W ((World.alloc W (.cells #[] 3)).drew) := (Below.drew (Below.refl W.heap.size W)).alloc (Nat.le_refl _) _
            have gE : W.heap.size < ((World.alloc W (.cells #[] 3)).drew).heap.size := by simp
            generalize (World.alloc W (.cells #[] 3)).drew = u1 at own0 q1 gE ⊢
            refine hK.out _ _ ⟨(q1.cell (p := ⟨b, off + k * 4, none⟩) hbW).trans cR, q1⟩ (fun hHeld1 => ?_)
            clear hK K
            try simp only [Act.put, List.setIfInBounds_toArray, List.set_cons_zero, List.set_cons_succ]
            refine wpAnyH_ready (rs := [4, 10]) (by kernel_rfl) (by simp) ?_
            refine AllReadyH.cons rfl (fun K hK => ?_) (AllReadyH.cons rfl (fun K hK => ?_) AllReadyH.nil)
            · refine step_append_ownJ (by rfl) _ _ _ (by rfl) W.heap.size 3 i0 _ 1 8 Try.underlying56 hi hz0 hz1 hz2 rfl (by omega) _ 0 [] (by rfl) own0 ⟨g, 0, none⟩ j cap ((ord.take j).flatMap encI) (by rfl) (by rw [flat_len encI_len, List.length_take, HON.out, Nat.min_eq_left hjN]) (rd_flat encI_len ((rd_at0 HRO.out q1).takeJ j)) (encJ_one (fun x u hu => by simp [encI] at hu; subst hu; rfl) _) (by unfold maxLen; omega) (by omega) q1.size ?_
              intro v3 w3 hown3 hgrow3
              have q3 : Below W.heap.size W w3 := bl_grown q1 own0 (Nat.le_refl _) hgrow3
              have ho3 : w3.ownsRow W.heap.size 3 1 v3 j ((ord.take j).flatMap encI) := by first | exact hown3 | (rw [Nat.zero_add, List.nil_append] at hown3; exact hown3)
              clear hown3
              refine hK.out _ _ ⟨(q3.cell (p := ⟨b, off + k * 4, none⟩) hbW).trans cR, q3⟩ (fun hHeld2 => ?_)
              clear hK K
              try simp only [Act.put, List.setIfInBounds_toArray, List.set_cons_zero, List.set_cons_succ]
              refine wpAnyH_ready (rs := [10]) (by kernel_rfl) (by simp) ?_
              refine AllReadyH.cons rfl (fun K hK => ?_) AllReadyH.nil
              go_simp
              have hX : Blk (World.alloc w3 (.cells #[.int .i64 r.s] 3)) w3.heap.size 3 #[.int .i64 r.s] := Blk.new w3 _ _
              have q2 : Below W.heap.size W (World.alloc w3 (.cells #[.int .i64 r.s] 3)) := q3.alloc q3.size _
              have gX : w3.heap.size < (World.alloc w3 (.cells #[.int .i64 r.s] 3)).heap.size := by simp
              have ho3 := ho3.alloc (.cells #[.int .i64 r.s] 3)
              generalize World.alloc w3 (.cells #[.int .i64 r.s] 3) = u2 at ho3 hX q2 gX ⊢
              refine hK.out _ _ ⟨(q2.cell (p := ⟨b, off + k * 4, none⟩) hbW).trans cR, q2⟩ (fun hHeld3 => ?_)
              clear hK K
              try simp only [Act.put, List.setIfInBounds_toArray, List.set_cons_zero, List.set_cons_succ]
              refine wpAnyH_ready (rs := [11]) (by kernel_rfl) (by simp) ?_
              refine AllReadyH.cons rfl (fun K hK => ?_) AllReadyH.nil
              refine step_append_ownJ (by rfl) _ _ _ (by rfl) W.heap.size 3 i0 _ 1 8 Try.underlying56 hi hz0 hz1 hz2 rfl (by omega) _ j _ (by rfl) ho3 ⟨w3.heap.size, 0, none⟩ 1 1 ([.int .i64 r.s]) (by rfl) (by rfl) (World.news_of_block (cs := #[.int .i64 r.s]) (t := 3) (fr := (0, 0)) hX) (by simp [Value.oneCell']) (by unfold maxLen; omega) (by omega) q2.size ?_
              intro v4 w4 hown4 hgrow4
              have q4 : Below W.heap.size W w4 := bl_grown q2 ho3 (Nat.le_refl _) hgrow4
              refine hK.out _ _ ⟨(q4.cell (p := ⟨b, off + k * 4, none⟩) hbW).trans cR, q4⟩ (fun hHeld4 => ?_)
              clear hK K
              try simp only [Act.put, List.setIfInBounds_toArray, List.set_cons_zero, List.set_cons_succ]
              clear hgrow4
              refine wpAnyH_ready (rs := [15]) (by kernel_rfl) (by simp) ?_
              refine AllReadyH.cons rfl (fun K hK => ?_) AllReadyH.nil
              refine step_append_ownJ (by rfl) _ _ _ (by rfl) W.heap.size 3 i0 _ 1 8 Try.underlying56 hi hz0 hz1 hz2 rfl (by omega) _ (j + 1) _ (by rfl) hown4 (behindJ g j cap 1) (k - j) (cap - j) ((ord.drop j).flatMap encI) (by rfl) (by rw [flat_len encI_len, List.length_drop, HON.out]) (rd_flat encI_len (Rd.behindJ HON.out hNc (rd_at0 HRO.out q4))) (encJ_one (fun x u hu => by simp [encI] at hu; subst hu; rfl) _) (by unfold maxLen; omega) (by omega) q4.size ?_
              intro v5 w5 hown5 hgrow5
              have q5 : Below W.heap.size W w5 := bl_grown q4 hown4 (Nat.le_refl _) hgrow5
              refine hK.out _ _ ⟨(q5.cell (p := ⟨b, off + k * 4, none⟩) hbW).trans cR, q5⟩ (fun hHeld5 => ?_)
              clear hK K
              try simp only [Act.put, List.setIfInBounds_toArray, List.set_cons_zero, List.set_cons_succ]
              refine heldI_take 16 8 ?vv26 rfl (by kernel_rfl) (by kernel_rfl) (by kernel_rfl) rfl (fun _ _ _ h => h) (by rfl) ?hy26 (by assumption) ?rest26
              case hy26 => (intro w hSw; (try dsimp only at hSw); go_simp; try with_reducible rfl)
              try simp only [Act.put, List.setIfInBounds_toArray, List.set_cons_zero, List.set_cons_succ]
              refine wpAnyH_done (by kernel_rfl) ?_ _
              have ho5 : w5.ownsRow W.heap.size 3 1 v5 (k + 1) ((rowE ord r.s [] j).flatMap encI) := by
                have e1 : j + 1 + (k - j) = k + 1 := by omega
                have h9 := hown5
                rw [e1] at h9
                have e2 : (rowE ord r.s [] j).flatMap encI = (ord.take j).flatMap encI ++ [.int .i64 r.s] ++ (ord.drop j).flatMap encI := by unfold rowE; simp [encI]
                rw [e2]; exact h9
              have HO5 := hide ho5
              have HB5 := hide q5
              clear ho5 hown5 hgrow5 q5 hown4 q4 ho3
              try clear q3
              try clear q2
              try clear q1
              try clear own0
              try clear hX
              try clear gX
              try clear gE
              try clear hgrow3
              clear hi hz0 hz1 hz2
              have hlen : (rowE ord r.s [] j).length = k + 1 := by rw [rowE_len, HON.out]; rfl
              rcases own_form encI_len HO5.out hlen with ⟨_, h0, _⟩ | ⟨g', cap', cs, rfl, hg', hB', hs', hnc', hm', ht'⟩
              · omega
              have HO6 : Hid (rowE ord r.s [] j = sortE E ((rz.map Rt.s).take (k + 1))) := hide (by rw [HNX.out, HREF.out])
              clear hB' hs' ht' hg' hlen
              go_wp2
              go_roundg (m - (k + 1))
              case measure => omega
              case rel =>
                refine ⟨k + 1, g', cap', by omega, by omega, by go_num, rfl, hnc', hm', ?_, (HBr.out.trans (HB5.out.mono HBr.out.size) : Below w.heap.size w _)⟩
                rw [← HO6.out]; exact own_baseE HO5.out HBr.out.size
            · go_simp
              have hX : Blk (World.alloc u1 (.cells #[.int .i64 r.s] 3)) u1.heap.size 3 #[.int .i64 r.s] := Blk.new u1 _ _
              have q2 : Below W.heap.size W (World.alloc u1 (.cells #[.int .i64 r.s] 3)) := q1.alloc q1.size _
              have gX : u1.heap.size < (World.alloc u1 (.cells #[.int .i64 r.s] 3)).heap.size := by simp
              have own0 := own0.alloc (.cells #[.int .i64 r.s] 3)
              generalize World.alloc u1 (.cells #[.int .i64 r.s] 3) = u2 at own0 hX q2 gX ⊢
              refine hK.out _ _ ⟨(q2.cell (p := ⟨b, off + k * 4, none⟩) hbW).trans cR, q2⟩ (fun hHeld6 => ?_)
              clear hK K
              try simp only [Act.put, List.setIfInBounds_toArray, List.set_cons_zero, List.set_cons_succ]
              refine wpAnyH_ready (rs := [4]) (by kernel_rfl) (by simp) ?_
              refine AllReadyH.cons rfl (fun K hK => ?_) AllReadyH.nil
              refine step_append_ownJ (by rfl) _ _ _ (by rfl) W.heap.size 3 i0 _ 1 8 Try.underlying56 hi hz0 hz1 hz2 rfl (by omega) _ 0 [] (by rfl) own0 ⟨g, 0, none⟩ j cap ((ord.take j).flatMap encI) (by rfl) (by rw [flat_len encI_len, List.length_take, HON.out, Nat.min_eq_left hjN]) (rd_flat encI_len ((rd_at0 HRO.out q2).takeJ j)) (encJ_one (fun x u hu => by simp [encI] at hu; subst hu; rfl) _) (by unfold maxLen; omega) (by omega) q2.size ?_
              intro v3 w3 hown3 hgrow3
              have q3 : Below W.heap.size W w3 := bl_grown q2 own0 (Nat.le_refl _) hgrow3
              have ho3 : w3.ownsRow W.heap.size 3 1 v3 j ((ord.take j).flatMap encI) := by first | exact hown3 | (rw [Nat.zero_add, List.nil_append] at hown3; exact hown3)
              clear hown3
              have hX := hX.grown hgrow3 (by simp [Value.ownBlock]; omega)
              refine hK.out _ _ ⟨(q3.cell (p := ⟨b, off + k * 4, none⟩) hbW).trans cR, q3⟩ (fun hHeld7 => ?_)
              clear hK K
              try simp only [Act.put, List.setIfInBounds_toArray, List.set_cons_zero, List.set_cons_succ]
              refine wpAnyH_ready (rs := [11]) (by kernel_rfl) (by simp) ?_
              refine AllReadyH.cons rfl (fun K hK => ?_) AllReadyH.nil
              refine step_append_ownJ (by rfl) _ _ _ (by rfl) W.heap.size 3 i0 _ 1 8 Try.underlying56 hi hz0 hz1 hz2 rfl (by omega) _ j _ (by rfl) ho3 ⟨u1.heap.size, 0, none⟩ 1 1 ([.int .i64 r.s]) (by rfl) (by rfl) (World.news_of_block (cs := #[.int .i64 r.s]) (t := 3) (fr := (0, 0)) hX) (by simp [Value.oneCell']) (by unfold maxLen; omega) (by omega) q3.size ?_
              intro v4 w4 hown4 hgrow4
              have q4 : Below W.heap.size W w4 := bl_grown q3 ho3 (Nat.le_refl _) hgrow4
              refine hK.out _ _ ⟨(q4.cell (p := ⟨b, off + k * 4, none⟩) hbW).trans cR, q4⟩ (fun hHeld8 => ?_)
              clear hK K
              try simp only [Act.put, List.setIfInBounds_toArray, List.set_cons_zero, List.set_cons_succ]
              clear hgrow4
              refine wpAnyH_ready (rs := [15]) (by kernel_rfl) (by simp) ?_
              refine AllReadyH.cons rfl (fun K hK => ?_) AllReadyH.nil
              refine step_append_ownJ (by rfl) _ _ _ (by rfl) W.heap.size 3 i0 _ 1 8 Try.underlying56 hi hz0 hz1 hz2 rfl (by omega) _ (j + 1) _ (by rfl) hown4 (behindJ g j cap 1) (k - j) (cap - j) ((ord.drop j).flatMap encI) (by rfl) (by rw [flat_len encI_len, List.length_drop, HON.out]) (rd_flat encI_len (Rd.behindJ HON.out hNc (rd_at0 HRO.out q4))) (encJ_one (fun x u hu => by simp [encI] at hu; subst hu; rfl) _) (by unfold maxLen; omega) (by omega) q4.size ?_
              intro v5 w5 hown5 hgrow5
              have q5 : Below W.heap.size W w5 := bl_grown q4 hown4 (Nat.le_refl _) hgrow5
              refine hK.out _ _ ⟨(q5.cell (p := ⟨b, off + k * 4, none⟩) hbW).trans cR, q5⟩ (fun hHeld9 => ?_)
              clear hK K
              try simp only [Act.put, List.setIfInBounds_toArray, List.set_cons_zero, List.set_cons_succ]
              refine heldI_take 16 8 ?vv27 rfl (by kernel_rfl) (by kernel_rfl) (by kernel_rfl) rfl (fun _ _ _ h => h) (by rfl) ?hy27 (by assumption) ?rest27
              case hy27 => (intro w hSw; (try dsimp only at hSw); go_simp; try with_reducible rfl)
              try simp only [Act.put, List.setIfInBounds_toArray, List.set_cons_zero, List.set_cons_succ]
              refine wpAnyH_done (by kernel_rfl) ?_ _
              have ho5 : w5.ownsRow W.heap.size 3 1 v5 (k + 1) ((rowE ord r.s [] j).flatMap encI) := by
                have e1 : j + 1 + (k - j) = k + 1 := by omega
                have h9 := hown5
                rw [e1] at h9
                have e2 : (rowE ord r.s [] j).flatMap encI = (ord.take j).flatMap encI ++ [.int .i64 r.s] ++ (ord.drop j).flatMap encI := by unfold rowE; simp [encI]
                rw [e2]; exact h9
              have HO5 := hide ho5
              have HB5 := hide q5
              clear ho5 hown5 hgrow5 q5 hown4 q4 ho3
              try clear q3
              try clear q2
              try clear q1
              try clear own0
              try clear hX
              try clear gX
              try clear gE
              try clear hgrow3
              clear hi hz0 hz1 hz2
              have hlen : (rowE ord r.s [] j).length = k + 1 := by rw [rowE_len, HON.out]; rfl
              rcases own_form encI_len HO5.out hlen with ⟨_, h0, _⟩ | ⟨g', cap', cs, rfl, hg', hB', hs', hnc', hm', ht'⟩
              · omega
              have HO6 : Hid (rowE ord r.s [] j = sortE E ((rz.map Rt.s).take (k + 1))) := hide (by rw [HNX.out, HREF.out])
              clear hB' hs' ht' hg' hlen
              go_wp2
              go_roundg (m - (k + 1))
              case measure => omega
              case rel =>
                refine ⟨k + 1, g', cap', by omega, by omega, by go_num, rfl, hnc', hm', ?_, (HBr.out.trans (HB5.out.mono HBr.out.size) : Below w.heap.size w _)⟩
                rw [← HO6.out]; exact own_baseE HO5.out HBr.out.size
          · go_simp
            have hX : Blk ((World.alloc W (.cells #[.int .i64 r.s] 3)).drew) W.heap.size 3 #[.int .i64 r.s] := Blk.new W.drew _ _
            have q1 : Below W.heap.size W ((World.alloc W (.cells #[.int .i64 r.s] 3)).drew) := (Below.drew (Below.refl W.heap.size W)).alloc (Nat.le_refl _) _
            have gX : W.heap.size < ((World.alloc W (.cells #[.int .i64 r.s] 3)).drew).heap.size := by simp
            generalize (World.alloc W (.cells #[.int .i64 r.s] 3)).drew = u1 at hX q1 gX ⊢
            refine hK.out _ _ ⟨(q1.cell (p := ⟨b, off + k * 4, none⟩) hbW).trans cR, q1⟩ (fun hHeld10 => ?_)
            clear hK K
            try simp only [Act.put, List.setIfInBounds_toArray, List.set_cons_zero, List.set_cons_succ]
            refine wpAnyH_ready (rs := [0]) (by kernel_rfl) (by simp) ?_
            refine AllReadyH.cons rfl (fun K hK => ?_) AllReadyH.nil
            go_simp
            have own0 : (World.alloc u1 (.cells #[] 3)).ownsRow W.heap.size 3 1 (.slice (some ⟨u1.heap.size, 0, none⟩) 0 0) 0 [] := World.ownsRow_made u1 #[] 0 q1.size (by simp [maxLen]) rfl
            have q2 : Below W.heap.size W (World.alloc u1 (.cells #[] 3)) := q1.alloc q1.size _
            have gE : u1.heap.size < (World.alloc u1 (.cells #[] 3)).heap.size := by simp
            have hX := hX.alloc (.cells #[] 3)
            generalize World.alloc u1 (.cells #[] 3) = u2 at own0 hX q2 gE ⊢
            refine hK.out _ _ ⟨(q2.cell (p := ⟨b, off + k * 4, none⟩) hbW).trans cR, q2⟩ (fun hHeld11 => ?_)
            clear hK K
            try simp only [Act.put, List.setIfInBounds_toArray, List.set_cons_zero, List.set_cons_succ]
            refine wpAnyH_ready (rs := [4]) (by kernel_rfl) (by simp) ?_
            refine AllReadyH.cons rfl (fun K hK => ?_) AllReadyH.nil
            refine step_append_ownJ (by rfl) _ _ _ (by rfl) W.heap.size 3 i0 _ 1 8 Try.underlying56 hi hz0 hz1 hz2 rfl (by omega) _ 0 [] (by rfl) own0 ⟨g, 0, none⟩ j cap ((ord.take j).flatMap encI) (by rfl) (by rw [flat_len encI_len, List.length_take, HON.out, Nat.min_eq_left hjN]) (rd_flat encI_len ((rd_at0 HRO.out q2).takeJ j)) (encJ_one (fun x u hu => by simp [encI] at hu; subst hu; rfl) _) (by unfold maxLen; omega) (by omega) q2.size ?_
            intro v3 w3 hown3 hgrow3
            have q3 : Below W.heap.size W w3 := bl_grown q2 own0 (Nat.le_refl _) hgrow3
            have ho3 : w3.ownsRow W.heap.size 3 1 v3 j ((ord.take j).flatMap encI) := by first | exact hown3 | (rw [Nat.zero_add, List.nil_append] at hown3; exact hown3)
            clear hown3
            have hX := hX.grown hgrow3 (by simp [Value.ownBlock]; omega)
            refine hK.out _ _ ⟨(q3.cell (p := ⟨b, off + k * 4, none⟩) hbW).trans cR, q3⟩ (fun hHeld12 => ?_)
            clear hK K
            try simp only [Act.put, List.setIfInBounds_toArray, List.set_cons_zero, List.set_cons_succ]
            refine wpAnyH_ready (rs := [11]) (by kernel_rfl) (by simp) ?_
            refine AllReadyH.cons rfl (fun K hK => ?_) AllReadyH.nil
            refine step_append_ownJ (by rfl) _ _ _ (by rfl) W.heap.size 3 i0 _ 1 8 Try.underlying56 hi hz0 hz1 hz2 rfl (by omega) _ j _ (by rfl) ho3 ⟨W.heap.size, 0, none⟩ 1 1 ([.int .i64 r.s]) (by rfl) (by rfl) (World.news_of_block (cs := #[.int .i64 r.s]) (t := 3) (fr := (0, 0)) hX) (by simp [Value.oneCell']) (by unfold maxLen; omega) (by omega) q3.size ?_
            intro v4 w4 hown4 hgrow4
            have q4 : Below W.heap.size W w4 := bl_grown q3 ho3 (Nat.le_refl _) hgrow4
            refine hK.out _ _ ⟨(q4.cell (p := ⟨b, off + k * 4, none⟩) hbW).trans cR, q4⟩ (fun hHeld13 => ?_)
            clear hK K
            try simp only [Act.put, List.setIfInBounds_toArray, List.set_cons_zero, List.set_cons_succ]
            clear hgrow4
            refine wpAnyH_ready (rs := [15]) (by kernel_rfl) (by simp) ?_
            refine AllReadyH.cons rfl (fun K hK => ?_) AllReadyH.nil
            refine step_append_ownJ (by rfl) _ _ _ (by rfl) W.heap.size 3 i0 _ 1 8 Try.underlying56 hi hz0 hz1 hz2 rfl (by omega) _ (j + 1) _ (by rfl) hown4 (behindJ g j cap 1) (k - j) (cap - j) ((ord.drop j).flatMap encI) (by rfl) (by rw [flat_len encI_len, List.length_drop, HON.out]) (rd_flat encI_len (Rd.behindJ HON.out hNc (rd_at0 HRO.out q4))) (encJ_one (fun x u hu => by simp [encI] at hu; subst hu; rfl) _) (by unfold maxLen; omega) (by omega) q4.size ?_
            intro v5 w5 hown5 hgrow5
            have q5 : Below W.heap.size W w5 := bl_grown q4 hown4 (Nat.le_refl _) hgrow5
            refine hK.out _ _ ⟨(q5.cell (p := ⟨b, off + k * 4, none⟩) hbW).trans cR, q5⟩ (fun hHeld14 => ?_)
            clear hK K
            try simp only [Act.put, List.setIfInBounds_toArray, List.set_cons_zero, List.set_cons_succ]
            refine heldI_take 16 8 ?vv28 rfl (by kernel_rfl) (by kernel_rfl) (by kernel_rfl) rfl (fun _ _ _ h => h) (by rfl) ?hy28 (by assumption) ?rest28
            case hy28 => (intro w hSw; (try dsimp only at hSw); go_simp; try with_reducible rfl)
            try simp only [Act.put, List.setIfInBounds_toArray, List.set_cons_zero, List.set_cons_succ]
            refine wpAnyH_done (by kernel_rfl) ?_ _
            have ho5 : w5.ownsRow W.heap.size 3 1 v5 (k + 1) ((rowE ord r.s [] j).flatMap encI) := by
              have e1 : j + 1 + (k - j) = k + 1 := by omega
              have h9 := hown5
              rw [e1] at h9
              have e2 : (rowE ord r.s [] j).flatMap encI = (ord.take j).flatMap encI ++ [.int .i64 r.s] ++ (ord.drop j).flatMap encI := by unfold rowE; simp [encI]
              rw [e2]; exact h9
            have HO5 := hide ho5
            have HB5 := hide q5
            clear ho5 hown5 hgrow5 q5 hown4 q4 ho3
            try clear q3
            try clear q2
            try clear q1
            try clear own0
            try clear hX
            try clear gX
            try clear gE
            try clear hgrow3
            clear hi hz0 hz1 hz2
            have hlen : (rowE ord r.s [] j).length = k + 1 := by rw [rowE_len, HON.out]; rfl
            rcases own_form encI_len HO5.out hlen with ⟨_, h0, _⟩ | ⟨g', cap', cs, rfl, hg', hB', hs', hnc', hm', ht'⟩
            · omega
            have HO6 : Hid (rowE ord r.s [] j = sortE E ((rz.map Rt.s).take (k + 1))) := hide (by rw [HNX.out, HREF.out])
            clear hB' hs' ht' hg' hlen
            go_wp2
            go_roundg (m - (k + 1))
            case measure => omega
            case rel =>
              refine ⟨k + 1, g', cap', by omega, by omega, by go_num, rfl, hnc', hm', ?_, (HBr.out.trans (HB5.out.mono HBr.out.size) : Below w.heap.size w _)⟩
              rw [← HO6.out]; exact own_baseE HO5.out HBr.out.size
        · have HGO := hide (refk_go (s := S) (show E ord[jp]! < S by rw [getB hy]; exact hlty))
          have hjl : jp < ord.length := by rw [HON.out]; omega
          obtain ⟨b', off', he, hb', hat⟩ := rdI (own_rd' encI_len OJ.out HON.out) (by omega)
          cases he
          obtain ⟨y', hy', hyc⟩ := hat jp hjl
          obtain rfl : y' = y := by rw [hy] at hy'; injection hy' with h; exact h.symm
          obtain ⟨_, cy⟩ := hyc wr (Below.refl _ _)
          rw [Nat.zero_add] at cy
          clear hy' hyc hat
          have HYY := hide hy
          have HLT := hide hlty
          clear hy hlty
          subst hj
          have k2 : (0 : Int) < (jp : Int) + 1 := by omega
          have k3 : (0 : Int) ≤ (jp : Int) := by omega
          have k4 : (jp : Int) < (k : Int) := by omega
          have k5 : IntKind.i64.wrap ((jp : Int) + 1) = (jp : Int) + 1 := IntWalk.i64_in _ (by omega)
          have k7 : IntKind.i64.wrap (jp : Int) = (jp : Int) := IntWalk.i64_in _ (by omega)
          go_wp2_with fail
          refine (l14Earned_any _ _ _ rz _ _ _ zs _ _ HRZ.out hm (rd_step HRR.out BJ.out) HZ.out hn (rd_step HR.out BJ.out)).mono ?_
          rintro e w3 ⟨rfl, hb⟩
          have OJ : Aside (w3.ownsRow w.heap.size 3 1 (.slice (some ⟨g, 0, none⟩) k cap) k (ord.flatMap encI)) := own_step OJ.out hb
          have BJ : Aside (Below w.heap.size w w3) := bl_step BJ.out hb
          rw [show earnV rz zs y' = E y' by rw [HE.out]]
          have hcmp := HLT.out
          clear hb cy HLT
          generalize E y' = Y at hcmp
          go_wp2
          go_roundg jp
          case measure => omega
          case rel => exact ⟨jp, by go_num, by omega, Nat.le_refl _, OJ, BJ, by show _ = _; rw [← HK.out, HGO.out]⟩
    · have hltz : ¬ (k : Int) < (m : Int) := by omega
      obtain rfl : k = m := by omega
      have hML : (rz.map Rt.s).length = k := by rw [List.length_map, HRZ.out]
      have HLB : Hid ((bestL rz zs).length = k) := hide (by unfold bestL; rw [sortE_len, hML])
      have HOB : Hid (wr.ownsRow w.heap.size 3 1 (.slice (some ⟨g, 0, none⟩) k cap) k ((bestL rz zs).flatMap encI)) := hide (by
        have h9 := OW.out
        rw [List.take_of_length_le (by rw [hML]; exact Nat.le_refl _), HE.out] at h9; exact h9)
      have HRB := hide ((own_rd' encI_len HOB.out HLB.out).takeJ (min qn k))
      have HL2 : Hid (((bestL rz zs).take (min qn k)).length = min qn k) := hide (by rw [List.length_take, HLB.out]; omega)
      have HC2 : Hid (bestV rz zs qn = (bestL rz zs).take (min qn k)) := hide (by
        rw [HC.out]
        have h9 := List.take_take (l := bestL rz zs) (i := qn) (j := k)
        rw [List.take_of_length_le (l := bestL rz zs) (i := k) (by rw [HLB.out]; exact Nat.le_refl _)] at h9
        exact h9)
      clear hML OW HC
      have hmin1 : min qn k ≤ k := Nat.min_le_right _ _
      have HLE := hide (leastE_any qn k wr)
      generalize min qn k = j at hmin1 HRB HL2 HC2 HLE
      have kq1 : (j : Int) ≤ (cap : Int) := by omega
      have kq2 : (0 : Int) ≤ (j : Int) := by omega
      have HBr := hide BW.out
      go_wp2_with fail
      refine HLE.out.mono ?_
      rintro e w' ⟨rfl, rfl⟩
      go_wp2_with fail
      refine (l1Own_any ⟨g, 0, none⟩ j cap ((bestL rz zs).take j) _ HL2.out (by omega) HRB.out).mono ?_
      rintro e w3 ⟨v, rfl, ho, hb⟩
      have HO3 := hide (own_baseE ho HBr.out.size)
      have HB3 := hide (bl_step HBr.out hb)
      clear ho hb
      go_wp2
      go_ret2
      exact ⟨_, ret_vb HO.out.symm, by rw [HC2.out, HL2.out]; exact HO3.out, HB3.out⟩

end Go.Proofs.Ytpghdjehagamlaa
