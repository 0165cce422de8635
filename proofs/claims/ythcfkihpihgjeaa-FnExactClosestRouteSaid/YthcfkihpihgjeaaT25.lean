/- ClosestRoute: the reference. -/
import Derived.Test.YthcfkihpihgjeaaT24
namespace Go.Proofs.Ythcfkihpihgjeaa
open Go.RowKit
set_option linter.unusedVariables false
set_option linter.unusedSimpArgs false

set_option maxRecDepth 100000 in
set_option maxHeartbeats 4000000 in
theorem sClosestRoute_any (e n : Int) (w : World) :
    Calls Try.prog 7 #[.int .i64 e, .int .i64 n] w fun e' w' => ∃ v, e' = .returned (.tuple #[v, .bool (okCl e n)]) ∧ w'.ownsRow w.heap.size 65 3 v (clV e n).length ((clV e n).flatMap encLg) ∧ Below w.heap.size w w' := by
  obtain ⟨W, hW⟩ : ∃ W, W = w.alloc (.cells #[] 65) := ⟨_, rfl⟩
  have HBW : Hid (Below w.heap.size w W) := hide (by rw [hW]; exact (Below.refl _ _).alloc (Nat.le_refl _) _)
  have HE : Hid (W.ownsRow w.heap.size 65 3 (.slice (some ⟨w.heap.size, 0, none⟩) 0 0) 0 []) := hide (by rw [hW]; exact World.ownsRow_made w #[] 0 (Nat.le_refl _) (by simp [maxLen]) rfl)
  have HW := hide hW
  clear hW
  rcases first2 (inB e (-999) 999) (inB n (-999) 999) with h1 | ⟨h1, h2⟩ | ⟨h1, h2⟩
  iterate 2
    · have HO : Hid (okCl e n = false) := hide (by simp [okCl, *])
      have HC : Hid (clV e n = []) := hide (by unfold clV; rw [HO.out]; rfl)
      go_enter Try.func7, Try.ntmps7
      go_wp2_with (go_at_call 40; refine (l1In_any _ _ _ _).mono ?_; rintro e w' ⟨rfl, rfl⟩)
      go_ret2
      exact ⟨_, ret_vb HO.out.symm, by rw [HC.out, ← HW.out]; exact HE.out, by rw [← HW.out]; exact HBW.out⟩
  · have be := inB_iff.1 h1
    have bn := inB_iff.1 h2
    have HO : Hid (okCl e n = true) := hide (by simp [okCl, h1, h2])
    have HC : Hid (clV e n = clI e n) := hide (by unfold clV; rw [HO.out]; rfl)
    obtain ⟨p, hp⟩ : ∃ p : Int, (e.natAbs : Int) = p := ⟨_, rfl⟩
    obtain ⟨q, hq⟩ : ∃ q : Int, (n.natAbs : Int) = q := ⟨_, rfl⟩
    obtain ⟨m, hm⟩ : ∃ m : Int, clM e n = m := ⟨_, rfl⟩
    obtain ⟨sx, hsx⟩ : ∃ s : Int, sg e = s := ⟨_, rfl⟩
    obtain ⟨sy, hsy⟩ : ∃ s : Int, sg n = s := ⟨_, rfl⟩
    have bsx := sg_bd e
    have bsy := sg_bd n
    rw [hsx] at bsx
    rw [hsy] at bsy
    have nzx : e ≠ 0 → sx ≠ 0 := fun h => by rw [← hsx]; exact sg_nz h
    have nzy : n ≠ 0 → sy ≠ 0 := fun h => by rw [← hsy]; exact sg_nz h
    have hmm : m = if p < q then p else q := by rw [← hm, ← hp, ← hq]; rfl
    have bm : 0 ≤ m ∧ m ≤ p ∧ m ≤ q := by rw [hmm]; split <;> omega
    have pe : (e = 0 ∧ p = 0) ∨ (e ≠ 0 ∧ 0 < p) := by omega
    have pn : (n = 0 ∧ q = 0) ∨ (n ≠ 0 ∧ 0 < q) := by omega
    have pb : p ≤ 999 ∧ q ≤ 999 := by omega
    obtain ⟨W1, hW1⟩ : ∃ t : Int, wv sx sy = t := ⟨_, rfl⟩
    obtain ⟨W3, hW3⟩ : ∃ t : Int, wv sx 0 = t := ⟨_, rfl⟩
    obtain ⟨W4, hW4⟩ : ∃ t : Int, wv 0 sy = t := ⟨_, rfl⟩
    have HV := hide (cl_valS hm hsx hsy hp hq hW1 hW3 hW4)
    have a1 : e * sx = p := by rw [← hsx, ← hp]; exact abs_sg e
    have a2 : n * sy = q := by rw [← hsy, ← hq]; exact abs_sg n
    have y1 : IntKind.i64.wrap (e * sx) = p := by rw [a1]; exact IntWalk.i64_in _ (by omega)
    have y2 : IntKind.i64.wrap (n * sy) = q := by rw [a2]; exact IntWalk.i64_in _ (by omega)
    have y3 : IntKind.i64.wrap (p - m) = p - m := IntWalk.i64_in _ (by omega)
    have y4 : IntKind.i64.wrap (q - m) = q - m := IntWalk.i64_in _ (by omega)
    have HM : Hid (mi p q = m) := hide (by rw [hmm]; rfl)
    have HSX := hide hsx
    have HSY := hide hsy
    have HW1 := hide hW1
    have HW3 := hide hW3
    have HW4 := hide hW4
    have hEz : m = 0 ∨ 0 < m := by omega
    have KW1 : Hid (0 < m → okW sx sy) := hide (fun h => ⟨by omega, by omega, by omega, by omega, .inl (nzx (by omega))⟩)
    have KW3 : Hid (m < p → okW sx 0) := hide (fun h => ⟨by omega, by omega, by omega, by omega, .inl (nzx (by omega))⟩)
    have KW4 : Hid (m < q → okW 0 sy) := hide (fun h => ⟨by omega, by omega, by omega, by omega, .inr (nzy (by omega))⟩)
    have hab : (m < p ∧ q = m) ∨ (p = m ∧ m < q) ∨ (p = m ∧ q = m) := by rw [hmm]; split <;> omega
    clear hp hq hm hsx hsy hmm hW1 hW3 hW4 nzx nzy pe pn a1 a2
    obtain ⟨i0, hi, hz0, hz1, hz2⟩ := info_parts infoLg
    rcases hEz with hm0 | hmp
    · have g0 : ¬ 0 < m := by omega
      clear hm0
      rcases hab with ⟨hA, hB⟩ | ⟨hA, hB⟩ | ⟨hA, hB⟩
      · have n1 : 0 < p - m := by omega
        have n2 : ¬ 0 < q - m := by omega
        have HK := hide (KW3.out hA)
        have HLS : Hid (clV e n = ([] ++ [⟨W3, p - m, 0⟩]) ++ []) := hide (by rw [HC.out, HV.out, if_neg g0, if_pos n1, if_neg n2])
        obtain ⟨da, hda⟩ : ∃ t : Int, p - m = t := ⟨_, rfl⟩
        obtain ⟨db, hdb⟩ : ∃ t : Int, q - m = t := ⟨_, rfl⟩
        rw [hda] at n1 y3
        rw [hdb] at n2 y4
        have y3 : IntKind.i64.wrap (p - m) = da := by rw [hda]; exact y3
        have y4 : IntKind.i64.wrap (q - m) = db := by rw [hdb]; exact y4
        have HDA := hide hda
        have HDB := hide hdb
        clear hda hdb hA hB
        go_enter Try.func7, Try.ntmps7
        go_wp2_with (first | (go_at_call 40; refine (l1In_any _ _ _ _).mono ?_; rintro ee w' ⟨rfl, rfl⟩))
        rw [← HW.out]
        refine (l15Sign_any e _).mono ?_
        rintro ee w' ⟨rfl, rfl⟩
        rw [HSX.out]
        go_wp2_with fail
        refine (l15Sign_any n _).mono ?_
        rintro ee w' ⟨rfl, rfl⟩
        rw [HSY.out]
        go_wp2_with fail
        refine (l1Least_any p q _).mono ?_
        rintro ee w' ⟨rfl, rfl⟩
        rw [HM.out]
        go_wp2_with fail
        refine (l15Way_any sx 0 _ HK.out).mono ?_
        rintro ee wc0 ⟨rfl, hb⟩
        have BC0 := hide (bl_step HBW.out hb)
        have OC0 := hide (own_step HE.out hb)
        clear hb
        rw [HW3.out]
        go_wp2_with (at_builtin; refine wpList_append_own _ rfl _ _ 22 rfl w.heap.size 65 i0 (.agg #[.int .i64 0, .int .i64 0, .int .i64 0]) 3 24 Try.underlying22 hi hz0 hz1 hz2 rfl (by decide) _ 0 _ rfl (OC0.out.alloc _) ⟨wc0.heap.size, 0, none⟩ 1 1 [.int .i64 W3, .int .i64 (da), .int .i64 0] rfl rfl ?c1 ?c2 ?c3 ?c4 ?c5 ?_)
        case c1 => exact news_at #[.int .i64 W3, .int .i64 (da), .int .i64 0]
        case c2 => intro u hu; simp at hu; rcases hu with rfl | rfl | rfl <;> rfl
        case c3 => unfold maxLen; omega
        case c4 => omega
        case c5 => have := BC0.out.size; simp; omega
        intro v0 wd0 hown' hgrow _
        have BD0 := hide (bl_grown (BC0.out.alloc BC0.out.size _) (OC0.out.alloc _) (Nat.le_refl _) hgrow)
        have OD0 : Hid (wd0.ownsRow w.heap.size 65 3 v0 1 ((([⟨W3, da, 0⟩] : List Lg)).flatMap encLg)) := hide (by first | exact hown' | simpa [encLg] using hown')
        clear hown' hgrow
        go_wp2
        go_ret2
        exact ⟨_, ret_vb HO.out.symm, by rw [HLS.out, HDA.out]; exact OD0.out, BD0.out⟩
      · have n1 : ¬ 0 < p - m := by omega
        have n2 : 0 < q - m := by omega
        have HK := hide (KW4.out hB)
        have HLS : Hid (clV e n = ([] ++ []) ++ [⟨W4, q - m, 0⟩]) := hide (by rw [HC.out, HV.out, if_neg g0, if_neg n1, if_pos n2])
        obtain ⟨da, hda⟩ : ∃ t : Int, p - m = t := ⟨_, rfl⟩
        obtain ⟨db, hdb⟩ : ∃ t : Int, q - m = t := ⟨_, rfl⟩
        rw [hda] at n1 y3
        rw [hdb] at n2 y4
        have y3 : IntKind.i64.wrap (p - m) = da := by rw [hda]; exact y3
        have y4 : IntKind.i64.wrap (q - m) = db := by rw [hdb]; exact y4
        have HDA := hide hda
        have HDB := hide hdb
        clear hda hdb hA hB
        go_enter Try.func7, Try.ntmps7
        go_wp2_with (first | (go_at_call 40; refine (l1In_any _ _ _ _).mono ?_; rintro ee w' ⟨rfl, rfl⟩))
        rw [← HW.out]
        refine (l15Sign_any e _).mono ?_
        rintro ee w' ⟨rfl, rfl⟩
        rw [HSX.out]
        go_wp2_with fail
        refine (l15Sign_any n _).mono ?_
        rintro ee w' ⟨rfl, rfl⟩
        rw [HSY.out]
        go_wp2_with fail
        refine (l1Least_any p q _).mono ?_
        rintro ee w' ⟨rfl, rfl⟩
        rw [HM.out]
        go_wp2_with fail
        refine (l15Way_any 0 sy _ HK.out).mono ?_
        rintro ee wc0 ⟨rfl, hb⟩
        have BC0 := hide (bl_step HBW.out hb)
        have OC0 := hide (own_step HE.out hb)
        clear hb
        rw [HW4.out]
        go_wp2_with (at_builtin; refine wpList_append_own _ rfl _ _ 22 rfl w.heap.size 65 i0 (.agg #[.int .i64 0, .int .i64 0, .int .i64 0]) 3 24 Try.underlying22 hi hz0 hz1 hz2 rfl (by decide) _ 0 _ rfl (OC0.out.alloc _) ⟨wc0.heap.size, 0, none⟩ 1 1 [.int .i64 W4, .int .i64 (db), .int .i64 0] rfl rfl ?c1 ?c2 ?c3 ?c4 ?c5 ?_)
        case c1 => exact news_at #[.int .i64 W4, .int .i64 (db), .int .i64 0]
        case c2 => intro u hu; simp at hu; rcases hu with rfl | rfl | rfl <;> rfl
        case c3 => unfold maxLen; omega
        case c4 => omega
        case c5 => have := BC0.out.size; simp; omega
        intro v0 wd0 hown' hgrow _
        have BD0 := hide (bl_grown (BC0.out.alloc BC0.out.size _) (OC0.out.alloc _) (Nat.le_refl _) hgrow)
        have OD0 : Hid (wd0.ownsRow w.heap.size 65 3 v0 1 ((([⟨W4, db, 0⟩] : List Lg)).flatMap encLg)) := hide (by first | exact hown' | simpa [encLg] using hown')
        clear hown' hgrow
        go_wp2
        go_ret2
        exact ⟨_, ret_vb HO.out.symm, by rw [HLS.out, HDB.out]; exact OD0.out, BD0.out⟩
      · have n1 : ¬ 0 < p - m := by omega
        have n2 : ¬ 0 < q - m := by omega
        have HLS : Hid (clV e n = ([] ++ []) ++ []) := hide (by rw [HC.out, HV.out, if_neg g0, if_neg n1, if_neg n2])
        obtain ⟨da, hda⟩ : ∃ t : Int, p - m = t := ⟨_, rfl⟩
        obtain ⟨db, hdb⟩ : ∃ t : Int, q - m = t := ⟨_, rfl⟩
        rw [hda] at n1 y3
        rw [hdb] at n2 y4
        have y3 : IntKind.i64.wrap (p - m) = da := by rw [hda]; exact y3
        have y4 : IntKind.i64.wrap (q - m) = db := by rw [hdb]; exact y4
        have HDA := hide hda
        have HDB := hide hdb
        clear hda hdb hA hB
        go_enter Try.func7, Try.ntmps7
        go_wp2_with (first | (go_at_call 40; refine (l1In_any _ _ _ _).mono ?_; rintro ee w' ⟨rfl, rfl⟩))
        rw [← HW.out]
        refine (l15Sign_any e _).mono ?_
        rintro ee w' ⟨rfl, rfl⟩
        rw [HSX.out]
        go_wp2_with fail
        refine (l15Sign_any n _).mono ?_
        rintro ee w' ⟨rfl, rfl⟩
        rw [HSY.out]
        go_wp2_with fail
        refine (l1Least_any p q _).mono ?_
        rintro ee w' ⟨rfl, rfl⟩
        rw [HM.out]
        go_wp2
        go_ret2
        exact ⟨_, ret_vb HO.out.symm, by rw [HLS.out]; exact HE.out, HBW.out⟩
    · have g0 : 0 < m := hmp
      rcases hab with ⟨hA, hB⟩ | ⟨hA, hB⟩ | ⟨hA, hB⟩
      · have n1 : 0 < p - m := by omega
        have n2 : ¬ 0 < q - m := by omega
        have HK := hide (KW3.out hA)
        have HLS : Hid (clV e n = ([⟨W1, m, 0⟩] ++ [⟨W3, p - m, 0⟩]) ++ []) := hide (by rw [HC.out, HV.out, if_pos g0, if_pos n1, if_neg n2])
        obtain ⟨da, hda⟩ : ∃ t : Int, p - m = t := ⟨_, rfl⟩
        obtain ⟨db, hdb⟩ : ∃ t : Int, q - m = t := ⟨_, rfl⟩
        rw [hda] at n1 y3
        rw [hdb] at n2 y4
        have y3 : IntKind.i64.wrap (p - m) = da := by rw [hda]; exact y3
        have y4 : IntKind.i64.wrap (q - m) = db := by rw [hdb]; exact y4
        have HDA := hide hda
        have HDB := hide hdb
        clear hda hdb hA hB
        go_enter Try.func7, Try.ntmps7
        go_wp2_with (first | (go_at_call 40; refine (l1In_any _ _ _ _).mono ?_; rintro ee w' ⟨rfl, rfl⟩))
        rw [← HW.out]
        refine (l15Sign_any e _).mono ?_
        rintro ee w' ⟨rfl, rfl⟩
        rw [HSX.out]
        go_wp2_with fail
        refine (l15Sign_any n _).mono ?_
        rintro ee w' ⟨rfl, rfl⟩
        rw [HSY.out]
        go_wp2_with fail
        refine (l1Least_any p q _).mono ?_
        rintro ee w' ⟨rfl, rfl⟩
        rw [HM.out]
        go_wp2_with fail
        refine (l15Way_any sx sy _ (KW1.out g0)).mono ?_
        rintro ee wc0 ⟨rfl, hb⟩
        have BC0 := hide (bl_step HBW.out hb)
        have OC0 := hide (own_step HE.out hb)
        clear hb
        rw [HW1.out]
        go_wp2_with (at_builtin; refine wpList_append_own _ rfl _ _ 22 rfl w.heap.size 65 i0 (.agg #[.int .i64 0, .int .i64 0, .int .i64 0]) 3 24 Try.underlying22 hi hz0 hz1 hz2 rfl (by decide) _ 0 _ rfl (OC0.out.alloc _) ⟨wc0.heap.size, 0, none⟩ 1 1 [.int .i64 W1, .int .i64 (m), .int .i64 0] rfl rfl ?c1 ?c2 ?c3 ?c4 ?c5 ?_)
        case c1 => exact news_at #[.int .i64 W1, .int .i64 (m), .int .i64 0]
        case c2 => intro u hu; simp at hu; rcases hu with rfl | rfl | rfl <;> rfl
        case c3 => unfold maxLen; omega
        case c4 => omega
        case c5 => have := BC0.out.size; simp; omega
        intro v0 wd0 hown' hgrow _
        have BD0 := hide (bl_grown (BC0.out.alloc BC0.out.size _) (OC0.out.alloc _) (Nat.le_refl _) hgrow)
        have OD0 : Hid (wd0.ownsRow w.heap.size 65 3 v0 1 ((([⟨W1, m, 0⟩] : List Lg)).flatMap encLg)) := hide (by first | exact hown' | simpa [encLg] using hown')
        clear hown' hgrow
        go_wp2_with fail
        refine (l15Way_any sx 0 _ HK.out).mono ?_
        rintro ee wc1 ⟨rfl, hb⟩
        have BC1 := hide (bl_step BD0.out hb)
        have OC1 := hide (own_step OD0.out hb)
        clear hb
        rw [HW3.out]
        go_wp2_with (at_builtin; refine wpList_append_own _ rfl _ _ 22 rfl w.heap.size 65 i0 (.agg #[.int .i64 0, .int .i64 0, .int .i64 0]) 3 24 Try.underlying22 hi hz0 hz1 hz2 rfl (by decide) _ 1 _ rfl (OC1.out.alloc _) ⟨wc1.heap.size, 0, none⟩ 1 1 [.int .i64 W3, .int .i64 (da), .int .i64 0] rfl rfl ?c1 ?c2 ?c3 ?c4 ?c5 ?_)
        case c1 => exact news_at #[.int .i64 W3, .int .i64 (da), .int .i64 0]
        case c2 => intro u hu; simp at hu; rcases hu with rfl | rfl | rfl <;> rfl
        case c3 => unfold maxLen; omega
        case c4 => omega
        case c5 => have := BC1.out.size; simp; omega
        intro v1 wd1 hown' hgrow _
        have BD1 := hide (bl_grown (BC1.out.alloc BC1.out.size _) (OC1.out.alloc _) (Nat.le_refl _) hgrow)
        have OD1 : Hid (wd1.ownsRow w.heap.size 65 3 v1 2 ((([⟨W1, m, 0⟩, ⟨W3, da, 0⟩] : List Lg)).flatMap encLg)) := hide (by first | exact hown' | simpa [encLg] using hown')
        clear hown' hgrow
        go_wp2
        go_ret2
        exact ⟨_, ret_vb HO.out.symm, by rw [HLS.out, HDA.out]; exact OD1.out, BD1.out⟩
      · have n1 : ¬ 0 < p - m := by omega
        have n2 : 0 < q - m := by omega
        have HK := hide (KW4.out hB)
        have HLS : Hid (clV e n = ([⟨W1, m, 0⟩] ++ []) ++ [⟨W4, q - m, 0⟩]) := hide (by rw [HC.out, HV.out, if_pos g0, if_neg n1, if_pos n2])
        obtain ⟨da, hda⟩ : ∃ t : Int, p - m = t := ⟨_, rfl⟩
        obtain ⟨db, hdb⟩ : ∃ t : Int, q - m = t := ⟨_, rfl⟩
        rw [hda] at n1 y3
        rw [hdb] at n2 y4
        have y3 : IntKind.i64.wrap (p - m) = da := by rw [hda]; exact y3
        have y4 : IntKind.i64.wrap (q - m) = db := by rw [hdb]; exact y4
        have HDA := hide hda
        have HDB := hide hdb
        clear hda hdb hA hB
        go_enter Try.func7, Try.ntmps7
        go_wp2_with (first | (go_at_call 40; refine (l1In_any _ _ _ _).mono ?_; rintro ee w' ⟨rfl, rfl⟩))
        rw [← HW.out]
        refine (l15Sign_any e _).mono ?_
        rintro ee w' ⟨rfl, rfl⟩
        rw [HSX.out]
        go_wp2_with fail
        refine (l15Sign_any n _).mono ?_
        rintro ee w' ⟨rfl, rfl⟩
        rw [HSY.out]
        go_wp2_with fail
        refine (l1Least_any p q _).mono ?_
        rintro ee w' ⟨rfl, rfl⟩
        rw [HM.out]
        go_wp2_with fail
        refine (l15Way_any sx sy _ (KW1.out g0)).mono ?_
        rintro ee wc0 ⟨rfl, hb⟩
        have BC0 := hide (bl_step HBW.out hb)
        have OC0 := hide (own_step HE.out hb)
        clear hb
        rw [HW1.out]
        go_wp2_with (at_builtin; refine wpList_append_own _ rfl _ _ 22 rfl w.heap.size 65 i0 (.agg #[.int .i64 0, .int .i64 0, .int .i64 0]) 3 24 Try.underlying22 hi hz0 hz1 hz2 rfl (by decide) _ 0 _ rfl (OC0.out.alloc _) ⟨wc0.heap.size, 0, none⟩ 1 1 [.int .i64 W1, .int .i64 (m), .int .i64 0] rfl rfl ?c1 ?c2 ?c3 ?c4 ?c5 ?_)
        case c1 => exact news_at #[.int .i64 W1, .int .i64 (m), .int .i64 0]
        case c2 => intro u hu; simp at hu; rcases hu with rfl | rfl | rfl <;> rfl
        case c3 => unfold maxLen; omega
        case c4 => omega
        case c5 => have := BC0.out.size; simp; omega
        intro v0 wd0 hown' hgrow _
        have BD0 := hide (bl_grown (BC0.out.alloc BC0.out.size _) (OC0.out.alloc _) (Nat.le_refl _) hgrow)
        have OD0 : Hid (wd0.ownsRow w.heap.size 65 3 v0 1 ((([⟨W1, m, 0⟩] : List Lg)).flatMap encLg)) := hide (by first | exact hown' | simpa [encLg] using hown')
        clear hown' hgrow
        go_wp2_with fail
        refine (l15Way_any 0 sy _ HK.out).mono ?_
        rintro ee wc1 ⟨rfl, hb⟩
        have BC1 := hide (bl_step BD0.out hb)
        have OC1 := hide (own_step OD0.out hb)
        clear hb
        rw [HW4.out]
        go_wp2_with (at_builtin; refine wpList_append_own _ rfl _ _ 22 rfl w.heap.size 65 i0 (.agg #[.int .i64 0, .int .i64 0, .int .i64 0]) 3 24 Try.underlying22 hi hz0 hz1 hz2 rfl (by decide) _ 1 _ rfl (OC1.out.alloc _) ⟨wc1.heap.size, 0, none⟩ 1 1 [.int .i64 W4, .int .i64 (db), .int .i64 0] rfl rfl ?c1 ?c2 ?c3 ?c4 ?c5 ?_)
        case c1 => exact news_at #[.int .i64 W4, .int .i64 (db), .int .i64 0]
        case c2 => intro u hu; simp at hu; rcases hu with rfl | rfl | rfl <;> rfl
        case c3 => unfold maxLen; omega
        case c4 => omega
        case c5 => have := BC1.out.size; simp; omega
        intro v1 wd1 hown' hgrow _
        have BD1 := hide (bl_grown (BC1.out.alloc BC1.out.size _) (OC1.out.alloc _) (Nat.le_refl _) hgrow)
        have OD1 : Hid (wd1.ownsRow w.heap.size 65 3 v1 2 ((([⟨W1, m, 0⟩, ⟨W4, db, 0⟩] : List Lg)).flatMap encLg)) := hide (by first | exact hown' | simpa [encLg] using hown')
        clear hown' hgrow
        go_wp2
        go_ret2
        exact ⟨_, ret_vb HO.out.symm, by rw [HLS.out, HDB.out]; exact OD1.out, BD1.out⟩
      · have n1 : ¬ 0 < p - m := by omega
        have n2 : ¬ 0 < q - m := by omega
        have HLS : Hid (clV e n = ([⟨W1, m, 0⟩] ++ []) ++ []) := hide (by rw [HC.out, HV.out, if_pos g0, if_neg n1, if_neg n2])
        obtain ⟨da, hda⟩ : ∃ t : Int, p - m = t := ⟨_, rfl⟩
        obtain ⟨db, hdb⟩ : ∃ t : Int, q - m = t := ⟨_, rfl⟩
        rw [hda] at n1 y3
        rw [hdb] at n2 y4
        have y3 : IntKind.i64.wrap (p - m) = da := by rw [hda]; exact y3
        have y4 : IntKind.i64.wrap (q - m) = db := by rw [hdb]; exact y4
        have HDA := hide hda
        have HDB := hide hdb
        clear hda hdb hA hB
        go_enter Try.func7, Try.ntmps7
        go_wp2_with (first | (go_at_call 40; refine (l1In_any _ _ _ _).mono ?_; rintro ee w' ⟨rfl, rfl⟩))
        rw [← HW.out]
        refine (l15Sign_any e _).mono ?_
        rintro ee w' ⟨rfl, rfl⟩
        rw [HSX.out]
        go_wp2_with fail
        refine (l15Sign_any n _).mono ?_
        rintro ee w' ⟨rfl, rfl⟩
        rw [HSY.out]
        go_wp2_with fail
        refine (l1Least_any p q _).mono ?_
        rintro ee w' ⟨rfl, rfl⟩
        rw [HM.out]
        go_wp2_with fail
        refine (l15Way_any sx sy _ (KW1.out g0)).mono ?_
        rintro ee wc0 ⟨rfl, hb⟩
        have BC0 := hide (bl_step HBW.out hb)
        have OC0 := hide (own_step HE.out hb)
        clear hb
        rw [HW1.out]
        go_wp2_with (at_builtin; refine wpList_append_own _ rfl _ _ 22 rfl w.heap.size 65 i0 (.agg #[.int .i64 0, .int .i64 0, .int .i64 0]) 3 24 Try.underlying22 hi hz0 hz1 hz2 rfl (by decide) _ 0 _ rfl (OC0.out.alloc _) ⟨wc0.heap.size, 0, none⟩ 1 1 [.int .i64 W1, .int .i64 (m), .int .i64 0] rfl rfl ?c1 ?c2 ?c3 ?c4 ?c5 ?_)
        case c1 => exact news_at #[.int .i64 W1, .int .i64 (m), .int .i64 0]
        case c2 => intro u hu; simp at hu; rcases hu with rfl | rfl | rfl <;> rfl
        case c3 => unfold maxLen; omega
        case c4 => omega
        case c5 => have := BC0.out.size; simp; omega
        intro v0 wd0 hown' hgrow _
        have BD0 := hide (bl_grown (BC0.out.alloc BC0.out.size _) (OC0.out.alloc _) (Nat.le_refl _) hgrow)
        have OD0 : Hid (wd0.ownsRow w.heap.size 65 3 v0 1 ((([⟨W1, m, 0⟩] : List Lg)).flatMap encLg)) := hide (by first | exact hown' | simpa [encLg] using hown')
        clear hown' hgrow
        go_wp2
        go_ret2
        exact ⟨_, ret_vb HO.out.symm, by rw [HLS.out]; exact OD0.out, BD0.out⟩

end Go.Proofs.Ythcfkihpihgjeaa
