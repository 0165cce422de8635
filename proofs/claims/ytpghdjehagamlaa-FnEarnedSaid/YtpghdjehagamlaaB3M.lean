/- BestEarners: the program. -/
import Derived.Test.YtpghdjehagamlaaB3S
namespace Go.Proofs.Ytpghdjehagamlaa
open Go.RowKit
set_option linter.unusedVariables false
set_option linter.unusedSimpArgs false

set_option maxRecDepth 100000 in
set_option maxHeartbeats 2000000 in
theorem BestEarners_any (ro : Option Addr) (m d : Nat) (rz : List Rt) (ao : Option Addr) (n c : Nat) (zs : List Cp) (q : Int) (w : World) (hrz : rz.length = m) (hm : m ≤ 1048576) (hrr : Rd encRt 4 w.heap.size w ro rz) (hz : zs.length = n) (hn : n ≤ 1048576) (hr : Rd encCp 4 w.heap.size w ao zs) :
    Calls Try.prog 34 #[.slice ro m d, .slice ao n c, .int .i64 q] w fun e w' => ∃ v, e = .returned (.tuple #[v, .bool (okBest rz zs q)]) ∧ w'.ownsRow w.heap.size 3 1 v (bestV rz zs q).length ((bestV rz zs q).flatMap encI) ∧ Below w.heap.size w w' := by
  have HZ := hide hz
  have HR := hide hr
  have HRZ := hide hrz
  have HRR := hide hrr
  clear hz hr hrz hrr
  have eg : Hid (∀ args w, (callFunc 83 args).run Try.prog w = .ok (.enter 83 args) w) := hide (enters_at Try.func83 (by kernel_rfl) rfl)
  obtain ⟨W, hW⟩ : ∃ W, W = (w.alloc (.cells #[.slice ro m d] 31)).alloc (.cells #[.slice ao n c] 28) := ⟨_, rfl⟩
  have HBW : Hid (Below w.heap.size w W) := hide (by rw [hW]; exact ((Below.refl _ _).alloc (Nat.le_refl _) _).alloc (by simp) _)
  have e0 : W.cell? ⟨w.heap.size, 0, none⟩ = some (.slice ro m d) := by rw [hW]; simp
  have e1 : W.cell? ⟨w.heap.size + 1, 0, none⟩ = some (.slice ao n c) := by rw [hW]; simp
  have g0 : w.heap.size + 1 < W.heap.size := by rw [hW]; simp
  replace HR := hide (rd_step HR.out HBW.out)
  replace HRR := hide (rd_step HRR.out HBW.out)
  have HW := hide hW
  clear hW
  have HA := hide (AreLawful_any ro m d rz ao n c zs W HRZ.out hm HRR.out HZ.out hn HR.out)
  have E0 := hide e0
  have E1 := hide e1
  rcases first2 (lawful rz zs) (inB q 0 10) with h1 | ⟨h1, h2⟩ | ⟨h1, h2⟩
  iterate 2
    · have HO : Hid (okBest rz zs q = false) := hide (by simp [okBest, *])
      have HC : Hid (bestV rz zs q = []) := hide (by unfold bestV; rw [HO.out]; rfl)
      go_enter Try.func34, Try.ntmps34
      go_wp2_with fail
      rw [← HW.out]
      refine HA.out.mono ?_
      rintro e w1 ⟨rfl, hb⟩
      have HB := hide (HBW.out.trans (hb.mono HBW.out.size))
      clear hb
      go_wp2_with (go_at_call 76; refine (within_any _ _ _ _).mono ?_; rintro e w' ⟨rfl, rfl⟩)
      go_ret2
      exact ⟨_, ret_vb HO.out.symm, by rw [HC.out]; exact World.ownsRow_nil _ _ _ _, HB.out⟩
  have HO : Hid (okBest rz zs q = true) := hide (by simp [okBest, *])
  have b2 := inB_iff.1 h2
  obtain ⟨qn, rfl⟩ : ∃ k : Nat, q = k := ⟨q.toNat, by omega⟩
  have HC : Hid (bestV rz zs qn = (bestL rz zs).take qn) := hide (by unfold bestV; rw [HO.out]; rfl)
  have h10 := best_10 h1
  rw [HRZ.out] at h10
  have hinf := infoI
  obtain ⟨i0, hi, hz0, hz1, hz2⟩ := info_parts hinf
  clear hinf
  have HI := hide (And.intro hi (And.intro hz0 (And.intro hz1 hz2)))
  clear hi hz0 hz1 hz2
  go_enter Try.func34, Try.ntmps34
  go_wp2_with fail
  rw [← HW.out]
  refine HA.out.mono ?_
  rintro e w1 ⟨rfl, hb⟩
  have HB := hide hb
  have f0 := (hb.cell (p := ⟨w.heap.size, 0, none⟩) (by show w.heap.size < W.heap.size; omega)).trans E0.out
  clear hb HA e0 e1
  go_wp2_with (go_at_call 76; refine (within_any _ _ _ _).mono ?_; rintro e w' ⟨rfl, rfl⟩)
  clear f0
  go_loopg [8, 22] m (fun gk v i wr => ∃ k : Nat, k ≤ m ∧ m - k ≤ gk ∧ i = .int .i64 k ∧ Aside (wr.ownsRow W.heap.size 3 1 v ((rz.map Rt.s).take k).length (((rz.map Rt.s).take k).flatMap encI)) ∧ Aside (Below W.heap.size W wr))
  case atStart => exact ⟨0, Nat.zero_le _, by omega, rfl, World.ownsRow_nil _ _ _ _, HB.out⟩
  case round =>
    obtain ⟨k, hk, hg, rfl, OW, BW⟩ := hrel
    by_cases hlt : k < m
    · have hltz : (k : Int) < (m : Int) := by omega
      obtain ⟨b, off, rfl, hb1, hat⟩ := rdRt HRR.out (by rw [HRZ.out]; omega)
      obtain ⟨r, hr, hrc⟩ := hat k (by rw [HRZ.out]; exact hlt)
      have HX : Hid ((rz.map Rt.s).take (k + 1) = (rz.map Rt.s).take k ++ [r.s]) := hide (by rw [List.take_add_one, List.getElem?_map, hr]; rfl)
      obtain ⟨hbr, c0, c1, c2, c3⟩ := hrc wr BW.out
      have HWN := hide (BW.out.alloc BW.out.size (.cells #[.int .i64 r.s, .int .i64 r.e, .int .i64 r.h, .int .i64 r.f] 72))
      have OWN := hide (OW.out.alloc (.cells #[.int .i64 r.s, .int .i64 r.e, .int .i64 r.h, .int .i64 r.f] 72))
      have hsz := HWN.out.size
      have htl : ((rz.map Rt.s).take k).length ≤ k := List.length_take_le _ _
      generalize hl : ((rz.map Rt.s).take k).length = L at htl
      have HL := hide hl
      rw [hl] at OWN
      clear hl hr hrc hat
      obtain ⟨hi, hz0, hz1, hz2⟩ := HI.out
      go_wp2_with (at_builtin; refine wpList_append_own _ rfl _ _ 56 rfl W.heap.size 3 i0 (.int .i64 0) 1 8 Try.underlying56 hi hz0 hz1 hz2 rfl (by decide) _ L _ rfl (OWN.out.alloc _) ⟨wr.heap.size + 1, 0, none⟩ 1 1 [.int .i64 r.s] rfl rfl ?c1 ?c2 ?c3 ?c4 ?c5 ?_)
      case c1 => intro j u hu; have h9 := news_at (w := wr.alloc (.cells #[.int .i64 r.s, .int .i64 r.e, .int .i64 r.h, .int .i64 r.f] 72)) (t := 3) #[.int .i64 r.s] j u hu; rwa [show (wr.alloc (.cells #[.int .i64 r.s, .int .i64 r.e, .int .i64 r.h, .int .i64 r.f] 72)).heap.size = wr.heap.size + 1 from by simp] at h9
      case c2 => intro u hu; simp at hu; subst hu; rfl
      case c3 => unfold maxLen; omega
      case c4 => omega
      case c5 => simp at hsz ⊢; omega
      intro v' w3 hown' hgrow _
      have HB3 := hide (bl_grown (HWN.out.alloc hsz _) (OWN.out.alloc _) (Nat.le_refl _) hgrow)
      have HO3 := hide hown'
      clear hown' hgrow hi hz0 hz1 hz2
      go_wp2
      go_roundg (m - (k + 1))
      case measure => omega
      case rel => exact ⟨k + 1, by omega, by omega, by go_num, by rw [HX.out, flat_snoc, List.length_append, HL.out]; exact HO3.out, HB3.out⟩
    · have hltz : ¬ (k : Int) < (m : Int) := by omega
      obtain rfl : k = m := by omega
      have hML : (rz.map Rt.s).length = k := by rw [List.length_map, HRZ.out]
      have OM := OW.out
      rw [List.take_of_length_le (by rw [hML]; exact Nat.le_refl _), hML] at OM
      have hsW := BW.out.size
      have hcmp : ∀ g, W.heap.size ≤ g → CmpAt 83 #[.pointer (some ⟨w.heap.size, 0, none⟩), .pointer (some ⟨w.heap.size + 1, 0, none⟩)] (fun x y => cmpE (earnV rz zs y) (earnV rz zs x)) wr g := fun g hg V x y hV => by
        have hsV := hV.size
        have r0 : Rd encRt 4 V.heap.size V ro rz := (rd_grown (HRR.out.below BW.out (Nat.le_refl _)) hV hg).mono (by omega)
        have r1 : Rd encCp 4 V.heap.size V ao zs := (rd_grown (HR.out.below BW.out (Nat.le_refl _)) hV hg).mono (by omega)
        have c0 := hV.cell ((BW.out.cell (p := ⟨w.heap.size, 0, none⟩) (by show w.heap.size < W.heap.size; omega)).trans E0.out) (by intro e; injection e with e; simp at e; omega)
        have c1 := hV.cell ((BW.out.cell (p := ⟨w.heap.size + 1, 0, none⟩) (by show w.heap.size + 1 < W.heap.size; omega)).trans E1.out) (by intro e; injection e with e; simp at e; omega)
        exact best1_any w.heap.size (w.heap.size + 1) ro k d rz ao n c zs x y V HRZ.out hm r0 HZ.out hn r1 c0 c1
      have HCM := hide hcmp
      have HOM := hide OM
      have HML := hide hML
      clear hcmp OM hML OW
      go_wp2_with fail
      refine (SortStable_own 83 _ _ (earnV rz zs) eg.out (fun x y => cmpE_neg _ _) _ k (rz.map Rt.s) wr HOM.out HML.out (by omega) HCM.out).mono ?_
      rintro e w2 ⟨rfl, hgr, ho⟩
      have HB2 := hide (bl_grown BW.out HOM.out (Nat.le_refl _) hgr)
      have HO2 := hide ho
      clear ho hgr
      have HLB : Hid ((bestL rz zs).length = k) := hide (by unfold bestL; rw [sortE_len, HML.out])
      by_cases hq : qn ≤ k
      · have hqi : (qn : Int) ≤ (k : Int) := by omega
        obtain ⟨ao2, c2, rfl, hc2, hnil, ht⟩ := own_takeI HO2.out (by rw [sortE_len, HML.out]) qn (by omega)
        have HT := hide ht
        have k1 : (qn : Int) ≤ (c2 : Int) := by omega
        have k2 : (0 : Int) ≤ (qn : Int) := by omega
        have HL2 : Hid (((bestL rz zs).take qn).length = qn) := hide (by rw [List.length_take, HLB.out]; omega)
        clear ht
        go_wp2
        go_ret2
        exact ⟨_, ret_vb HO.out.symm, by rw [HC.out, HL2.out]; exact own_baseE HT.out HBW.out.size, HBW.out.trans (HB2.out.mono HBW.out.size)⟩
      · have hqi : ¬ (qn : Int) ≤ (k : Int) := by omega
        obtain ⟨ao2, c2, rfl, hc2, hnil, ht⟩ := own_takeI HO2.out (by rw [sortE_len, HML.out]) k (by omega)
        have HT := hide ht
        have k1 : (k : Int) ≤ (c2 : Int) := by omega
        have k2 : (0 : Int) ≤ (k : Int) := by omega
        have HL2 : Hid ((bestL rz zs).take qn = bestL rz zs) := hide (List.take_of_length_le (by rw [HLB.out]; omega))
        have HL3 : Hid ((sortE (earnV rz zs) (rz.map Rt.s)).take k = bestL rz zs) := hide (List.take_of_length_le (by rw [sortE_len, HML.out]; exact Nat.le_refl _))
        clear ht
        go_wp2
        go_ret2
        exact ⟨_, ret_vb HO.out.symm, by rw [HC.out, HL2.out, HLB.out, ← HL3.out]; exact own_baseE HT.out HBW.out.size, HBW.out.trans (HB2.out.mono HBW.out.size)⟩

end Go.Proofs.Ytpghdjehagamlaa
