/- ClosestRoute: the program. -/
import Derived.Test.YthcfkihpihgjeaaT23
namespace Go.Proofs.Ythcfkihpihgjeaa
open Go.RowKit
set_option linter.unusedVariables false
set_option linter.unusedSimpArgs false

theorem cl_val {e n m sx sy X Y s3 s4 ax ay W1 W2 : Int} (hm : clM e n = m) (h1 : sg e = sx) (h2 : sg n = sy) (hX : clX e n = X) (hY : clX n e = Y) (h3 : sg X = s3) (h4 : sg Y = s4) (h5 : (X.natAbs : Int) = ax) (h6 : (Y.natAbs : Int) = ay) (hW1 : wv sx sy = W1) (hW2 : wv s3 s4 = W2) :
    clI e n = (if 0 < m then [⟨W1, m, 0⟩] else []) ++ (if X ≠ 0 ∨ Y ≠ 0 then [⟨W2, ax + ay, 0⟩] else []) := by
  subst hm h1 h2 hX hY h3 h4 h5 h6 hW1 hW2; rfl
theorem cl_valS {e n m p q sx sy W1 W3 W4 : Int} (hm : clM e n = m) (h1 : sg e = sx) (h2 : sg n = sy) (hp : (e.natAbs : Int) = p) (hq : (n.natAbs : Int) = q) (hW1 : wv sx sy = W1) (hW3 : wv sx 0 = W3) (hW4 : wv 0 sy = W4) :
    clI e n = ((if 0 < m then [⟨W1, m, 0⟩] else []) ++ (if 0 < p - m then [⟨W3, p - m, 0⟩] else [])) ++ (if 0 < q - m then [⟨W4, q - m, 0⟩] else []) := by
  have h : mi (e * sg e) (n * sg n) = clM e n := by rw [abs_sg, abs_sg]; rfl
  rw [← cl_eq]
  unfold clS clS1
  rw [h, abs_sg, abs_sg]
  subst hm h1 h2 hp hq hW1 hW3 hW4; rfl
theorem mul_sg_bd {m s : Int} (hm : 0 ≤ m ∧ m ≤ 999) (hs : -1 ≤ s ∧ s ≤ 1) : -999 ≤ m * s ∧ m * s ≤ 999 := by
  have : s = -1 ∨ s = 0 ∨ s = 1 := by omega
  rcases this with rfl | rfl | rfl <;> omega

set_option maxRecDepth 100000 in
set_option maxHeartbeats 4000000 in
theorem ClosestRoute_any (e n : Int) (w : World) :
    Calls Try.prog 8 #[.int .i64 e, .int .i64 n] w fun e' w' => ∃ v, e' = .returned (.tuple #[v, .bool (okCl e n)]) ∧ w'.ownsRow w.heap.size 65 3 v (clV e n).length ((clV e n).flatMap encLg) ∧ Below w.heap.size w w' := by
  rcases first2 (inB e (-999) 999) (inB n (-999) 999) with h1 | ⟨h1, h2⟩ | ⟨h1, h2⟩
  iterate 2
    · have HO : Hid (okCl e n = false) := hide (by simp [okCl, *])
      have HC : Hid (clV e n = []) := hide (by unfold clV; rw [HO.out]; rfl)
      go_enter Try.func8, Try.ntmps8
      go_wp2_with (go_at_call 44; refine (within_any _ _ _ _).mono ?_; rintro e w' ⟨rfl, rfl⟩)
      go_ret2
      exact ⟨_, ret_vb HO.out.symm, by rw [HC.out]; exact World.ownsRow_nil _ _ _ _, Below.refl _ _⟩
  · have be := inB_iff.1 h1
    have bn := inB_iff.1 h2
    have HO : Hid (okCl e n = true) := hide (by simp [okCl, h1, h2])
    have HC : Hid (clV e n = clI e n) := hide (by unfold clV; rw [HO.out]; rfl)
    obtain ⟨p, hp⟩ : ∃ p : Int, (e.natAbs : Int) = p := ⟨_, rfl⟩
    obtain ⟨q, hq⟩ : ∃ q : Int, (n.natAbs : Int) = q := ⟨_, rfl⟩
    obtain ⟨m, hm⟩ : ∃ m : Int, clM e n = m := ⟨_, rfl⟩
    obtain ⟨sx, hsx⟩ : ∃ s : Int, sg e = s := ⟨_, rfl⟩
    obtain ⟨sy, hsy⟩ : ∃ s : Int, sg n = s := ⟨_, rfl⟩
    have bsx := sg_bd e
    have bsy := sg_bd n
    rw [hsx] at bsx
    rw [hsy] at bsy
    have nzx : e ≠ 0 → sx ≠ 0 := fun h => by rw [← hsx]; exact sg_nz h
    have nzy : n ≠ 0 → sy ≠ 0 := fun h => by rw [← hsy]; exact sg_nz h
    have hmm : m = if p < q then p else q := by rw [← hm, ← hp, ← hq]; rfl
    have bm : 0 ≤ m ∧ m ≤ p ∧ m ≤ q := by rw [hmm]; split <;> omega
    have pe : (e = 0 ∧ p = 0) ∨ (e ≠ 0 ∧ 0 < p) := by omega
    have pn : (n = 0 ∧ q = 0) ∨ (n ≠ 0 ∧ 0 < q) := by omega
    have pb : p ≤ 999 ∧ q ≤ 999 := by omega
    have x1 : (if q < p then q else p) = m := by rw [hmm]; split <;> split <;> omega
    have x2 : (if p < q then p else q) = m := hmm.symm
    have b1 := mul_sg_bd (m := m) (s := sx) (by omega) bsx
    have b2 := mul_sg_bd (m := m) (s := sy) (by omega) bsy
    obtain ⟨t1, ht1⟩ : ∃ t : Int, m * sx = t := ⟨_, rfl⟩
    obtain ⟨t2, ht2⟩ : ∃ t : Int, m * sy = t := ⟨_, rfl⟩
    rw [ht1] at b1
    rw [ht2] at b2
    obtain ⟨X, hX⟩ : ∃ t : Int, e - t1 = t := ⟨_, rfl⟩
    obtain ⟨Y, hY⟩ : ∃ t : Int, n - t2 = t := ⟨_, rfl⟩
    have hXX : clX e n = X := by unfold clX; rw [hm, hsx, ht1, hX]
    have hYY : clX n e = Y := by unfold clX; rw [clM_comm, hm, hsy, ht2, hY]
    obtain ⟨s3, hs3⟩ : ∃ s : Int, sg X = s := ⟨_, rfl⟩
    obtain ⟨s4, hs4⟩ : ∃ s : Int, sg Y = s := ⟨_, rfl⟩
    have bs3 := sg_bd X
    have bs4 := sg_bd Y
    rw [hs3] at bs3
    rw [hs4] at bs4
    have nz3 : X ≠ 0 → s3 ≠ 0 := fun h => by rw [← hs3]; exact sg_nz h
    have nz4 : Y ≠ 0 → s4 ≠ 0 := fun h => by rw [← hs4]; exact sg_nz h
    obtain ⟨ax, hax⟩ : ∃ t : Int, (X.natAbs : Int) = t := ⟨_, rfl⟩
    obtain ⟨ay, hay⟩ : ∃ t : Int, (Y.natAbs : Int) = t := ⟨_, rfl⟩
    obtain ⟨W1, hW1⟩ : ∃ t : Int, wv sx sy = t := ⟨_, rfl⟩
    obtain ⟨W2, hW2⟩ : ∃ t : Int, wv s3 s4 = t := ⟨_, rfl⟩
    have bX : -1998 ≤ X ∧ X ≤ 1998 := by omega
    have bY : -1998 ≤ Y ∧ Y ≤ 1998 := by omega
    have baxy : 0 ≤ ax + ay ∧ ax + ay ≤ 4000 := by omega
    have HV := hide (cl_val hm hsx hsy hXX hYY hs3 hs4 hax hay hW1 hW2)
    have y1 : IntKind.i64.wrap (m * sx) = t1 := by rw [ht1]; exact IntWalk.i64_in _ (by omega)
    have y2 : IntKind.i64.wrap (m * sy) = t2 := by rw [ht2]; exact IntWalk.i64_in _ (by omega)
    have y3 : IntKind.i64.wrap (e - t1) = X := by rw [hX]; exact IntWalk.i64_in _ (by omega)
    have y4 : IntKind.i64.wrap (n - t2) = Y := by rw [hY]; exact IntWalk.i64_in _ (by omega)
    have y5 : IntKind.i64.wrap (ax + ay) = ax + ay := IntWalk.i64_in _ (by omega)
    have HP := hide hp
    have HQ := hide hq
    have HSX := hide hsx
    have HSY := hide hsy
    have HS3 := hide hs3
    have HS4 := hide hs4
    have HAX := hide hax
    have HAY := hide hay
    have HW1 := hide hW1
    have HW2 := hide hW2
    have HBX := hide bX
    have HBY := hide bY
    have hEz : m = 0 ∨ 0 < m := by omega
    have KW1 : Hid (0 < m → okW sx sy) := hide (fun h => ⟨by omega, by omega, by omega, by omega, .inl (nzx (by omega))⟩)
    have KW2 : Hid (X ≠ 0 ∨ Y ≠ 0 → okW s3 s4) := hide (fun h => ⟨by omega, by omega, by omega, by omega, h.imp nz3 nz4⟩)
    clear hp hq hm hsx hsy hmm ht1 ht2 hX hY hXX hYY hs3 hs4 hax hay hW1 hW2 nzx nzy nz3 nz4 b1 b2 baxy pe pn bX bY bs3 bs4 bsx bsy
    obtain ⟨i0, hi, hz0, hz1, hz2⟩ := info_parts infoLg
    have hxy : X ≠ 0 ∨ (X = 0 ∧ Y ≠ 0) ∨ (X = 0 ∧ Y = 0) := by omega
    rcases hEz with hm0 | hmp
    · have g0 : ¬ 0 < m := by omega
      clear hm0
      rcases hxy with hx | ⟨hx, hy⟩ | ⟨hx, hy⟩
      · have n1 : (X != 0) = true := by simpa using hx
        have n1b : (X == 0) = false := by simpa using hx
        have HK := hide (KW2.out (.inl hx))
        have HR := hide (show X ≠ 0 ∨ Y ≠ 0 from .inl hx)
        clear hx
        have HLS : Hid (clV e n = [] ++ [⟨W2, ax + ay, 0⟩]) := hide (by rw [HC.out, HV.out, if_neg g0, if_pos HR.out])
        go_enter Try.func8, Try.ntmps8
        go_wp2_with (go_at_call 44; refine (within_any _ _ _ _).mono ?_; rintro e w' ⟨rfl, rfl⟩)
        refine (abs_any e (by omega) _).mono ?_
        rintro ee w' ⟨rfl, rfl⟩
        rw [HP.out]
        go_wp2_with fail
        refine (abs_any n (by omega) _).mono ?_
        rintro ee w' ⟨rfl, rfl⟩
        rw [HQ.out]
        go_wp2_with fail
        refine (sign_any e _).mono ?_
        rintro ee w' ⟨rfl, rfl⟩
        rw [HSX.out]
        go_wp2_with fail
        refine (sign_any n _).mono ?_
        rintro ee w' ⟨rfl, rfl⟩
        rw [HSY.out]
        go_wp2_with fail
        refine (sign_any X _).mono ?_
        rintro ee w' ⟨rfl, rfl⟩
        rw [HS3.out]
        go_wp2_with fail
        refine (sign_any Y _).mono ?_
        rintro ee w' ⟨rfl, rfl⟩
        rw [HS4.out]
        go_wp2_with fail
        refine (wayTo_any s3 s4 _ HK.out).mono ?_
        rintro ee wc0 ⟨rfl, hb⟩
        have BC0 := hide (bl_step (Below.refl _ _) hb)
        clear hb
        rw [HW2.out]
        go_wp2_with fail
        refine (abs_any X (by have := HBX.out; omega) _).mono ?_
        rintro ee w' ⟨rfl, rfl⟩
        rw [HAX.out]
        go_wp2_with fail
        refine (abs_any Y (by have := HBY.out; omega) _).mono ?_
        rintro ee w' ⟨rfl, rfl⟩
        rw [HAY.out]
        go_wp2_with (at_builtin; refine wpList_append_own _ rfl _ _ 22 rfl w.heap.size 65 i0 (.agg #[.int .i64 0, .int .i64 0, .int .i64 0]) 3 24 Try.underlying22 hi hz0 hz1 hz2 rfl (by decide) _ 0 _ rfl ((World.ownsRow_nil wc0 w.heap.size 65 3).alloc _) ⟨wc0.heap.size, 0, none⟩ 1 1 [.int .i64 W2, .int .i64 (ax + ay), .int .i64 0] rfl rfl ?c1 ?c2 ?c3 ?c4 ?c5 ?_)
        case c1 => exact news_at #[.int .i64 W2, .int .i64 (ax + ay), .int .i64 0]
        case c2 => intro u hu; simp at hu; rcases hu with rfl | rfl | rfl <;> rfl
        case c3 => unfold maxLen; omega
        case c4 => omega
        case c5 => have := BC0.out.size; simp; omega
        intro v0 wd0 hown' hgrow _
        have BD0 := hide (bl_grown (BC0.out.alloc BC0.out.size _) ((World.ownsRow_nil wc0 w.heap.size 65 3).alloc _) (Nat.le_refl _) hgrow)
        have OD0 : Hid (wd0.ownsRow w.heap.size 65 3 v0 1 ((([⟨W2, ax + ay, 0⟩] : List Lg)).flatMap encLg)) := hide (by first | exact hown' | simpa [encLg] using hown')
        clear hown' hgrow
        go_wp2
        go_ret2
        exact ⟨_, ret_vb HO.out.symm, by rw [HLS.out]; exact OD0.out, BD0.out⟩
      · have n1 : (X != 0) = false := by simp [hx]
        have n1b : (X == 0) = true := by simp [hx]
        have n2 : (Y != 0) = true := by simpa using hy
        have n2b : (Y == 0) = false := by simpa using hy
        have HK := hide (KW2.out (.inr hy))
        have HR := hide (show X ≠ 0 ∨ Y ≠ 0 from .inr hy)
        clear hx hy
        have HLS : Hid (clV e n = [] ++ [⟨W2, ax + ay, 0⟩]) := hide (by rw [HC.out, HV.out, if_neg g0, if_pos HR.out])
        go_enter Try.func8, Try.ntmps8
        go_wp2_with (go_at_call 44; refine (within_any _ _ _ _).mono ?_; rintro e w' ⟨rfl, rfl⟩)
        refine (abs_any e (by omega) _).mono ?_
        rintro ee w' ⟨rfl, rfl⟩
        rw [HP.out]
        go_wp2_with fail
        refine (abs_any n (by omega) _).mono ?_
        rintro ee w' ⟨rfl, rfl⟩
        rw [HQ.out]
        go_wp2_with fail
        refine (sign_any e _).mono ?_
        rintro ee w' ⟨rfl, rfl⟩
        rw [HSX.out]
        go_wp2_with fail
        refine (sign_any n _).mono ?_
        rintro ee w' ⟨rfl, rfl⟩
        rw [HSY.out]
        go_wp2_with fail
        refine (sign_any X _).mono ?_
        rintro ee w' ⟨rfl, rfl⟩
        rw [HS3.out]
        go_wp2_with fail
        refine (sign_any Y _).mono ?_
        rintro ee w' ⟨rfl, rfl⟩
        rw [HS4.out]
        go_wp2_with fail
        refine (wayTo_any s3 s4 _ HK.out).mono ?_
        rintro ee wc0 ⟨rfl, hb⟩
        have BC0 := hide (bl_step (Below.refl _ _) hb)
        clear hb
        rw [HW2.out]
        go_wp2_with fail
        refine (abs_any X (by have := HBX.out; omega) _).mono ?_
        rintro ee w' ⟨rfl, rfl⟩
        rw [HAX.out]
        go_wp2_with fail
        refine (abs_any Y (by have := HBY.out; omega) _).mono ?_
        rintro ee w' ⟨rfl, rfl⟩
        rw [HAY.out]
        go_wp2_with (at_builtin; refine wpList_append_own _ rfl _ _ 22 rfl w.heap.size 65 i0 (.agg #[.int .i64 0, .int .i64 0, .int .i64 0]) 3 24 Try.underlying22 hi hz0 hz1 hz2 rfl (by decide) _ 0 _ rfl ((World.ownsRow_nil wc0 w.heap.size 65 3).alloc _) ⟨wc0.heap.size, 0, none⟩ 1 1 [.int .i64 W2, .int .i64 (ax + ay), .int .i64 0] rfl rfl ?c1 ?c2 ?c3 ?c4 ?c5 ?_)
        case c1 => exact news_at #[.int .i64 W2, .int .i64 (ax + ay), .int .i64 0]
        case c2 => intro u hu; simp at hu; rcases hu with rfl | rfl | rfl <;> rfl
        case c3 => unfold maxLen; omega
        case c4 => omega
        case c5 => have := BC0.out.size; simp; omega
        intro v0 wd0 hown' hgrow _
        have BD0 := hide (bl_grown (BC0.out.alloc BC0.out.size _) ((World.ownsRow_nil wc0 w.heap.size 65 3).alloc _) (Nat.le_refl _) hgrow)
        have OD0 : Hid (wd0.ownsRow w.heap.size 65 3 v0 1 ((([⟨W2, ax + ay, 0⟩] : List Lg)).flatMap encLg)) := hide (by first | exact hown' | simpa [encLg] using hown')
        clear hown' hgrow
        go_wp2
        go_ret2
        exact ⟨_, ret_vb HO.out.symm, by rw [HLS.out]; exact OD0.out, BD0.out⟩
      · have n1 : (X != 0) = false := by simp [hx]
        have n2 : (Y != 0) = false := by simp [hy]
        have n1b : (X == 0) = true := by simp [hx]
        have n2b : (Y == 0) = true := by simp [hy]
        have HR := hide (show ¬ (X ≠ 0 ∨ Y ≠ 0) from by omega)
        clear hx hy
        have HLS : Hid (clV e n = [] ++ []) := hide (by rw [HC.out, HV.out, if_neg g0, if_neg HR.out])
        go_enter Try.func8, Try.ntmps8
        go_wp2_with (go_at_call 44; refine (within_any _ _ _ _).mono ?_; rintro e w' ⟨rfl, rfl⟩)
        refine (abs_any e (by omega) _).mono ?_
        rintro ee w' ⟨rfl, rfl⟩
        rw [HP.out]
        go_wp2_with fail
        refine (abs_any n (by omega) _).mono ?_
        rintro ee w' ⟨rfl, rfl⟩
        rw [HQ.out]
        go_wp2_with fail
        refine (sign_any e _).mono ?_
        rintro ee w' ⟨rfl, rfl⟩
        rw [HSX.out]
        go_wp2_with fail
        refine (sign_any n _).mono ?_
        rintro ee w' ⟨rfl, rfl⟩
        rw [HSY.out]
        go_wp2
        go_ret2
        exact ⟨_, ret_vb HO.out.symm, by rw [HLS.out]; exact World.ownsRow_nil _ _ _ _, Below.refl _ _⟩
    · have g0 : 0 < m := hmp
      rcases hxy with hx | ⟨hx, hy⟩ | ⟨hx, hy⟩
      · have n1 : (X != 0) = true := by simpa using hx
        have n1b : (X == 0) = false := by simpa using hx
        have HK := hide (KW2.out (.inl hx))
        have HR := hide (show X ≠ 0 ∨ Y ≠ 0 from .inl hx)
        clear hx
        have HLS : Hid (clV e n = [⟨W1, m, 0⟩] ++ [⟨W2, ax + ay, 0⟩]) := hide (by rw [HC.out, HV.out, if_pos g0, if_pos HR.out])
        go_enter Try.func8, Try.ntmps8
        go_wp2_with (go_at_call 44; refine (within_any _ _ _ _).mono ?_; rintro e w' ⟨rfl, rfl⟩)
        refine (abs_any e (by omega) _).mono ?_
        rintro ee w' ⟨rfl, rfl⟩
        rw [HP.out]
        go_wp2_with fail
        refine (abs_any n (by omega) _).mono ?_
        rintro ee w' ⟨rfl, rfl⟩
        rw [HQ.out]
        go_wp2_with fail
        refine (sign_any e _).mono ?_
        rintro ee w' ⟨rfl, rfl⟩
        rw [HSX.out]
        go_wp2_with fail
        refine (sign_any n _).mono ?_
        rintro ee w' ⟨rfl, rfl⟩
        rw [HSY.out]
        go_wp2_with fail
        refine (wayTo_any sx sy _ (KW1.out g0)).mono ?_
        rintro ee wc0 ⟨rfl, hb⟩
        have BC0 := hide (bl_step (Below.refl _ _) hb)
        clear hb
        rw [HW1.out]
        go_wp2_with (at_builtin; refine wpList_append_own _ rfl _ _ 22 rfl w.heap.size 65 i0 (.agg #[.int .i64 0, .int .i64 0, .int .i64 0]) 3 24 Try.underlying22 hi hz0 hz1 hz2 rfl (by decide) _ 0 _ rfl ((World.ownsRow_nil wc0 w.heap.size 65 3).alloc _) ⟨wc0.heap.size, 0, none⟩ 1 1 [.int .i64 W1, .int .i64 (m), .int .i64 0] rfl rfl ?c1 ?c2 ?c3 ?c4 ?c5 ?_)
        case c1 => exact news_at #[.int .i64 W1, .int .i64 (m), .int .i64 0]
        case c2 => intro u hu; simp at hu; rcases hu with rfl | rfl | rfl <;> rfl
        case c3 => unfold maxLen; omega
        case c4 => omega
        case c5 => have := BC0.out.size; simp; omega
        intro v0 wd0 hown' hgrow _
        have BD0 := hide (bl_grown (BC0.out.alloc BC0.out.size _) ((World.ownsRow_nil wc0 w.heap.size 65 3).alloc _) (Nat.le_refl _) hgrow)
        have OD0 : Hid (wd0.ownsRow w.heap.size 65 3 v0 1 ((([⟨W1, m, 0⟩] : List Lg)).flatMap encLg)) := hide (by first | exact hown' | simpa [encLg] using hown')
        clear hown' hgrow
        go_wp2_with fail
        refine (sign_any e _).mono ?_
        rintro ee w' ⟨rfl, rfl⟩
        rw [HSX.out]
        go_wp2_with fail
        refine (sign_any n _).mono ?_
        rintro ee w' ⟨rfl, rfl⟩
        rw [HSY.out]
        go_wp2_with fail
        refine (sign_any X _).mono ?_
        rintro ee w' ⟨rfl, rfl⟩
        rw [HS3.out]
        go_wp2_with fail
        refine (sign_any Y _).mono ?_
        rintro ee w' ⟨rfl, rfl⟩
        rw [HS4.out]
        go_wp2_with fail
        refine (wayTo_any s3 s4 _ HK.out).mono ?_
        rintro ee wc1 ⟨rfl, hb⟩
        have BC1 := hide (bl_step BD0.out hb)
        have OC1 := hide (own_step OD0.out hb)
        clear hb
        rw [HW2.out]
        go_wp2_with fail
        refine (abs_any X (by have := HBX.out; omega) _).mono ?_
        rintro ee w' ⟨rfl, rfl⟩
        rw [HAX.out]
        go_wp2_with fail
        refine (abs_any Y (by have := HBY.out; omega) _).mono ?_
        rintro ee w' ⟨rfl, rfl⟩
        rw [HAY.out]
        go_wp2_with (at_builtin; refine wpList_append_own _ rfl _ _ 22 rfl w.heap.size 65 i0 (.agg #[.int .i64 0, .int .i64 0, .int .i64 0]) 3 24 Try.underlying22 hi hz0 hz1 hz2 rfl (by decide) _ 1 _ rfl (OC1.out.alloc _) ⟨wc1.heap.size, 0, none⟩ 1 1 [.int .i64 W2, .int .i64 (ax + ay), .int .i64 0] rfl rfl ?c1 ?c2 ?c3 ?c4 ?c5 ?_)
        case c1 => exact news_at #[.int .i64 W2, .int .i64 (ax + ay), .int .i64 0]
        case c2 => intro u hu; simp at hu; rcases hu with rfl | rfl | rfl <;> rfl
        case c3 => unfold maxLen; omega
        case c4 => omega
        case c5 => have := BC1.out.size; simp; omega
        intro v1 wd1 hown' hgrow _
        have BD1 := hide (bl_grown (BC1.out.alloc BC1.out.size _) (OC1.out.alloc _) (Nat.le_refl _) hgrow)
        have OD1 : Hid (wd1.ownsRow w.heap.size 65 3 v1 2 ((([⟨W1, m, 0⟩, ⟨W2, ax + ay, 0⟩] : List Lg)).flatMap encLg)) := hide (by first | exact hown' | simpa [encLg] using hown')
        clear hown' hgrow
        go_wp2
        go_ret2
        exact ⟨_, ret_vb HO.out.symm, by rw [HLS.out]; exact OD1.out, BD1.out⟩
      · have n1 : (X != 0) = false := by simp [hx]
        have n1b : (X == 0) = true := by simp [hx]
        have n2 : (Y != 0) = true := by simpa using hy
        have n2b : (Y == 0) = false := by simpa using hy
        have HK := hide (KW2.out (.inr hy))
        have HR := hide (show X ≠ 0 ∨ Y ≠ 0 from .inr hy)
        clear hx hy
        have HLS : Hid (clV e n = [⟨W1, m, 0⟩] ++ [⟨W2, ax + ay, 0⟩]) := hide (by rw [HC.out, HV.out, if_pos g0, if_pos HR.out])
        go_enter Try.func8, Try.ntmps8
        go_wp2_with (go_at_call 44; refine (within_any _ _ _ _).mono ?_; rintro e w' ⟨rfl, rfl⟩)
        refine (abs_any e (by omega) _).mono ?_
        rintro ee w' ⟨rfl, rfl⟩
        rw [HP.out]
        go_wp2_with fail
        refine (abs_any n (by omega) _).mono ?_
        rintro ee w' ⟨rfl, rfl⟩
        rw [HQ.out]
        go_wp2_with fail
        refine (sign_any e _).mono ?_
        rintro ee w' ⟨rfl, rfl⟩
        rw [HSX.out]
        go_wp2_with fail
        refine (sign_any n _).mono ?_
        rintro ee w' ⟨rfl, rfl⟩
        rw [HSY.out]
        go_wp2_with fail
        refine (wayTo_any sx sy _ (KW1.out g0)).mono ?_
        rintro ee wc0 ⟨rfl, hb⟩
        have BC0 := hide (bl_step (Below.refl _ _) hb)
        clear hb
        rw [HW1.out]
        go_wp2_with (at_builtin; refine wpList_append_own _ rfl _ _ 22 rfl w.heap.size 65 i0 (.agg #[.int .i64 0, .int .i64 0, .int .i64 0]) 3 24 Try.underlying22 hi hz0 hz1 hz2 rfl (by decide) _ 0 _ rfl ((World.ownsRow_nil wc0 w.heap.size 65 3).alloc _) ⟨wc0.heap.size, 0, none⟩ 1 1 [.int .i64 W1, .int .i64 (m), .int .i64 0] rfl rfl ?c1 ?c2 ?c3 ?c4 ?c5 ?_)
        case c1 => exact news_at #[.int .i64 W1, .int .i64 (m), .int .i64 0]
        case c2 => intro u hu; simp at hu; rcases hu with rfl | rfl | rfl <;> rfl
        case c3 => unfold maxLen; omega
        case c4 => omega
        case c5 => have := BC0.out.size; simp; omega
        intro v0 wd0 hown' hgrow _
        have BD0 := hide (bl_grown (BC0.out.alloc BC0.out.size _) ((World.ownsRow_nil wc0 w.heap.size 65 3).alloc _) (Nat.le_refl _) hgrow)
        have OD0 : Hid (wd0.ownsRow w.heap.size 65 3 v0 1 ((([⟨W1, m, 0⟩] : List Lg)).flatMap encLg)) := hide (by first | exact hown' | simpa [encLg] using hown')
        clear hown' hgrow
        go_wp2_with fail
        refine (sign_any e _).mono ?_
        rintro ee w' ⟨rfl, rfl⟩
        rw [HSX.out]
        go_wp2_with fail
        refine (sign_any n _).mono ?_
        rintro ee w' ⟨rfl, rfl⟩
        rw [HSY.out]
        go_wp2_with fail
        refine (sign_any X _).mono ?_
        rintro ee w' ⟨rfl, rfl⟩
        rw [HS3.out]
        go_wp2_with fail
        refine (sign_any Y _).mono ?_
        rintro ee w' ⟨rfl, rfl⟩
        rw [HS4.out]
        go_wp2_with fail
        refine (wayTo_any s3 s4 _ HK.out).mono ?_
        rintro ee wc1 ⟨rfl, hb⟩
        have BC1 := hide (bl_step BD0.out hb)
        have OC1 := hide (own_step OD0.out hb)
        clear hb
        rw [HW2.out]
        go_wp2_with fail
        refine (abs_any X (by have := HBX.out; omega) _).mono ?_
        rintro ee w' ⟨rfl, rfl⟩
        rw [HAX.out]
        go_wp2_with fail
        refine (abs_any Y (by have := HBY.out; omega) _).mono ?_
        rintro ee w' ⟨rfl, rfl⟩
        rw [HAY.out]
        go_wp2_with (at_builtin; refine wpList_append_own _ rfl _ _ 22 rfl w.heap.size 65 i0 (.agg #[.int .i64 0, .int .i64 0, .int .i64 0]) 3 24 Try.underlying22 hi hz0 hz1 hz2 rfl (by decide) _ 1 _ rfl (OC1.out.alloc _) ⟨wc1.heap.size, 0, none⟩ 1 1 [.int .i64 W2, .int .i64 (ax + ay), .int .i64 0] rfl rfl ?c1 ?c2 ?c3 ?c4 ?c5 ?_)
        case c1 => exact news_at #[.int .i64 W2, .int .i64 (ax + ay), .int .i64 0]
        case c2 => intro u hu; simp at hu; rcases hu with rfl | rfl | rfl <;> rfl
        case c3 => unfold maxLen; omega
        case c4 => omega
        case c5 => have := BC1.out.size; simp; omega
        intro v1 wd1 hown' hgrow _
        have BD1 := hide (bl_grown (BC1.out.alloc BC1.out.size _) (OC1.out.alloc _) (Nat.le_refl _) hgrow)
        have OD1 : Hid (wd1.ownsRow w.heap.size 65 3 v1 2 ((([⟨W1, m, 0⟩, ⟨W2, ax + ay, 0⟩] : List Lg)).flatMap encLg)) := hide (by first | exact hown' | simpa [encLg] using hown')
        clear hown' hgrow
        go_wp2
        go_ret2
        exact ⟨_, ret_vb HO.out.symm, by rw [HLS.out]; exact OD1.out, BD1.out⟩
      · have n1 : (X != 0) = false := by simp [hx]
        have n2 : (Y != 0) = false := by simp [hy]
        have n1b : (X == 0) = true := by simp [hx]
        have n2b : (Y == 0) = true := by simp [hy]
        have HR := hide (show ¬ (X ≠ 0 ∨ Y ≠ 0) from by omega)
        clear hx hy
        have HLS : Hid (clV e n = [⟨W1, m, 0⟩] ++ []) := hide (by rw [HC.out, HV.out, if_pos g0, if_neg HR.out])
        go_enter Try.func8, Try.ntmps8
        go_wp2_with (go_at_call 44; refine (within_any _ _ _ _).mono ?_; rintro e w' ⟨rfl, rfl⟩)
        refine (abs_any e (by omega) _).mono ?_
        rintro ee w' ⟨rfl, rfl⟩
        rw [HP.out]
        go_wp2_with fail
        refine (abs_any n (by omega) _).mono ?_
        rintro ee w' ⟨rfl, rfl⟩
        rw [HQ.out]
        go_wp2_with fail
        refine (sign_any e _).mono ?_
        rintro ee w' ⟨rfl, rfl⟩
        rw [HSX.out]
        go_wp2_with fail
        refine (sign_any n _).mono ?_
        rintro ee w' ⟨rfl, rfl⟩
        rw [HSY.out]
        go_wp2_with fail
        refine (wayTo_any sx sy _ (KW1.out g0)).mono ?_
        rintro ee wc0 ⟨rfl, hb⟩
        have BC0 := hide (bl_step (Below.refl _ _) hb)
        clear hb
        rw [HW1.out]
        go_wp2_with (at_builtin; refine wpList_append_own _ rfl _ _ 22 rfl w.heap.size 65 i0 (.agg #[.int .i64 0, .int .i64 0, .int .i64 0]) 3 24 Try.underlying22 hi hz0 hz1 hz2 rfl (by decide) _ 0 _ rfl ((World.ownsRow_nil wc0 w.heap.size 65 3).alloc _) ⟨wc0.heap.size, 0, none⟩ 1 1 [.int .i64 W1, .int .i64 (m), .int .i64 0] rfl rfl ?c1 ?c2 ?c3 ?c4 ?c5 ?_)
        case c1 => exact news_at #[.int .i64 W1, .int .i64 (m), .int .i64 0]
        case c2 => intro u hu; simp at hu; rcases hu with rfl | rfl | rfl <;> rfl
        case c3 => unfold maxLen; omega
        case c4 => omega
        case c5 => have := BC0.out.size; simp; omega
        intro v0 wd0 hown' hgrow _
        have BD0 := hide (bl_grown (BC0.out.alloc BC0.out.size _) ((World.ownsRow_nil wc0 w.heap.size 65 3).alloc _) (Nat.le_refl _) hgrow)
        have OD0 : Hid (wd0.ownsRow w.heap.size 65 3 v0 1 ((([⟨W1, m, 0⟩] : List Lg)).flatMap encLg)) := hide (by first | exact hown' | simpa [encLg] using hown')
        clear hown' hgrow
        go_wp2_with fail
        refine (sign_any e _).mono ?_
        rintro ee w' ⟨rfl, rfl⟩
        rw [HSX.out]
        go_wp2_with fail
        refine (sign_any n _).mono ?_
        rintro ee w' ⟨rfl, rfl⟩
        rw [HSY.out]
        go_wp2
        go_ret2
        exact ⟨_, ret_vb HO.out.symm, by rw [HLS.out]; exact OD0.out, BD0.out⟩

end Go.Proofs.Ythcfkihpihgjeaa
