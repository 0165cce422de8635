/- PageAt and SeenOn: the references at whatever room. -/
import Derived.Test.YtdgalehipgdhiaaA8
import Derived.Test.YtdgalehipgdhiaaA11g
namespace Go.Proofs.Ytdgalehipgdhiaa
open Go.RowKit
set_option linter.unusedVariables false
set_option linter.unusedSimpArgs false
set_option maxRecDepth 100000 in
theorem sPageAtC_any (ao : Option Addr) (n c : Nat) (zs : List Pg) (r s : Int) (hcap : n ≤ c) (w : World) (hz : zs.length = n) (hn : n ≤ 1048576) (hr : Rd encPg 4 w.heap.size w ao zs) :
    Calls Try.prog 36 #[.slice ao n c, .int .i64 r, .int .i64 s] w fun e w' => e = .returned (.tuple #[.int .i64 (pageV zs r s), .bool (pOk zs r s)]) ∧ Below w.heap.size w w' := by
  have HZ := hide hz
  have HR := hide hr
  clear hz hr
  rcases first3 (atlasB zs) (inB r 0 99) (inB s 0 99) with h1 | ⟨h1, h2⟩ | ⟨h1, h2, h3⟩ | ⟨h1, h2, h3⟩
  iterate 3
    · have HO : Hid (pOk zs r s = false) := hide (by unfold pOk placeB; simp [*])
      first | have hp := place_1 (c := s) h2 | have hp := place_2 (r := r) h3 | skip
      go_enter Try.func36, Try.ntmps36
      go_wp2_with fail
      refine (l13GoodC_any _ _ c zs hcap _ HZ.out hn HR.out).mono ?_
      rintro e w1 ⟨rfl, hb⟩
      have HB := hide hb
      clear hb
      go_wp2_with (go_at_call 70; refine (l13Place_any _ _ _).mono ?_; rintro e w' ⟨rfl, rfl⟩)
      go_ret2
      exact ⟨ret_ib3 (by unfold pageV; rw [HO.out]; rfl) HO.out.symm, HB.out⟩
  · have HO : Hid (pOk zs r s = true) := hide (by unfold pOk placeB; simp [*])
    have hp := place_3 h2 h3
    have k5 : IntKind.i64.wrap (idxB (isP r s) zs + 1) = idxB (isP r s) zs + 1 := idx_wrap HZ.out hn
    go_enter Try.func36, Try.ntmps36
    go_wp2_with fail
    refine (l13GoodC_any _ _ c zs hcap _ HZ.out hn HR.out).mono ?_
    rintro e w1 ⟨rfl, hb⟩
    have HR1 := hide (rd_step HR.out hb)
    have HB := hide hb
    clear hb
    go_wp2_with (go_at_call 70; refine (l13Place_any _ _ _).mono ?_; rintro e w' ⟨rfl, rfl⟩)
    refine (l13At_any _ _ _ zs _ _ _ HZ.out hn HR1.out).mono ?_
    rintro e w2 ⟨rfl, hb2⟩
    have HB2 := hide (bl_step HB.out (bl_eq hb2))
    clear hb2
    go_wp2
    go_ret2
    exact ⟨ret_ib3 (by unfold pageV; rw [HO.out]; rfl) HO.out.symm, HB2.out⟩

set_option maxRecDepth 100000 in
set_option maxHeartbeats 1000000 in
theorem sSeenOnC_any (ao : Option Addr) (n c : Nat) (zs : List Pg) (a b : Int) (hcap : n ≤ c) (w : World) (hz : zs.length = n) (hn : n ≤ 1048576) (hr : Rd encPg 4 w.heap.size w ao zs) :
    Calls Try.prog 34 #[.slice ao n c, .int .i64 a, .int .i64 b] w fun e w' => ∃ v, e = .returned (.tuple #[v, .bool (okSeen zs a b)]) ∧ w'.ownsRow w.heap.size 3 1 v (seenV zs a b).length ((seenV zs a b).flatMap encI) ∧ Below w.heap.size w w' := by
  obtain ⟨W, hW⟩ : ∃ W, W = w.alloc (.cells #[] 3) := ⟨_, rfl⟩
  have HBW : Hid (Below w.heap.size w W) := hide (by rw [hW]; exact (Below.refl _ _).alloc (Nat.le_refl _) _)
  have HE : Hid (W.ownsRow w.heap.size 3 1 (.slice (some ⟨w.heap.size, 0, none⟩) 0 0) 0 []) := hide (by rw [hW]; exact World.ownsRow_made w #[] 0 (Nat.le_refl _) (by simp [maxLen]) rfl)
  have HW := hide hW
  have HZ := hide hz
  have HR := hide hr
  have HG := hide (l13GoodC_any ao n c zs hcap W hz hn (rd_step hr HBW.out))
  clear hW hz hr
  rcases first3 (atlasB zs) (inB a 0 10000) (inB b 0 10000) with h1 | ⟨h1, h2⟩ | ⟨h1, h2, h3⟩ | ⟨h1, h2, h3⟩
  iterate 3
    · have HO : Hid (okSeen zs a b = false) := hide (by simp [okSeen, *])
      have HC : Hid (seenV zs a b = []) := hide (by unfold seenV; rw [HO.out]; rfl)
      go_enter Try.func34, Try.ntmps34
      go_wp2_with fail
      rw [← HW.out]
      refine HG.out.mono ?_
      rintro e w1 ⟨rfl, hb⟩
      have HB := hide (bl_step HBW.out hb)
      have HOW := hide (own_step HE.out hb)
      clear hb
      go_wp2_with (go_at_call 45; refine (l1In_any _ _ _ _).mono ?_; rintro e w' ⟨rfl, rfl⟩)
      go_ret2
      exact ⟨_, ret_vb HO.out.symm, by rw [HC.out]; exact HOW.out, HB.out⟩
  · have HO : Hid (okSeen zs a b = true) := hide (by simp [okSeen, *])
    have HC : Hid (seenV zs a b = gather Pg.n (seenB a b) zs) := hide (by unfold seenV; rw [HO.out]; rfl)
    have HH1 := hide h1
    have hinf := infoI
    obtain ⟨i0, hi, hz0, hz1, hz2⟩ := info_parts hinf
    clear hinf
    have HI := hide (And.intro hi (And.intro hz0 (And.intro hz1 hz2)))
    clear hi hz0 hz1 hz2
    go_enter Try.func34, Try.ntmps34
    go_wp2_with fail
    rw [← HW.out]
    refine HG.out.mono ?_
    rintro e w1 ⟨rfl, hb⟩
    have HB := hide (bl_step HBW.out hb)
    have HOW := hide (own_step HE.out hb)
    clear hb HG
    go_wp2_with (go_at_call 45; refine (l1In_any _ _ _ _).mono ?_; rintro e w' ⟨rfl, rfl⟩)
    go_loopg [8, 10] n (fun gk v i wr => ∃ k : Nat, k ≤ n ∧ n - k ≤ gk ∧ i = .int .i64 k ∧ Aside (wr.ownsRow w.heap.size 3 1 v (gather Pg.n (seenB a b) (zs.take k)).length ((gather Pg.n (seenB a b) (zs.take k)).flatMap encI)) ∧ Aside (Below w.heap.size w wr))
    case atStart => exact ⟨0, Nat.zero_le _, by omega, rfl, by rw [gather_zero]; exact HOW.out, HB.out⟩
    case round =>
      obtain ⟨k, hk, hg, rfl, OW, BW⟩ := hrel
      by_cases hlt : k < n
      · have hltz : (k : Int) < (n : Int) := by omega
        obtain ⟨b', off, rfl, hb1, hat⟩ := rdPg HR.out (by rw [HZ.out]; omega)
        obtain ⟨x, hx, hxc⟩ := hat k (by rw [HZ.out]; exact hlt)
        have HX := hide hx
        have bx := atlas_at HH1.out hx
        have bl := atlas_l HH1.out hx
        obtain ⟨hbr, c0, c1, c2, c3⟩ := hxc wr BW.out
        have k1 : IntKind.i64.wrap (100 * x.c) = 100 * x.c := IntWalk.i64_in _ (by omega)
        have k2 : IntKind.i64.wrap (100 * x.c - x.l) = 100 * x.c - x.l := IntWalk.i64_in _ (by omega)
        have k3 : IntKind.i64.wrap (100 * x.c + 100) = 100 * x.c + 100 := IntWalk.i64_in _ (by omega)
        have k4 : IntKind.i64.wrap (100 * x.c + 100 + x.l) = 100 * x.c + 100 + x.l := IntWalk.i64_in _ (by omega)
        have k5 : IntKind.i64.wrap (100 * x.r) = 100 * x.r := IntWalk.i64_in _ (by omega)
        have k6 : IntKind.i64.wrap (100 * x.r - x.l) = 100 * x.r - x.l := IntWalk.i64_in _ (by omega)
        have k7 : IntKind.i64.wrap (100 * x.r + 100) = 100 * x.r + 100 := IntWalk.i64_in _ (by omega)
        have k8 : IntKind.i64.wrap (100 * x.r + 100 + x.l) = 100 * x.r + 100 + x.l := IntWalk.i64_in _ (by omega)
        clear hx hxc hat bx bl
        have HWN := hide (BW.out.alloc BW.out.size (.cells #[.int .i64 x.n, .int .i64 x.r, .int .i64 x.c, .int .i64 x.l] 48))
        have OWN := hide (OW.out.alloc (.cells #[.int .i64 x.n, .int .i64 x.r, .int .i64 x.c, .int .i64 x.l] 48))
        rcases first2 (inB a (100 * x.c - x.l) (100 * x.c + 100 + x.l)) (inB b (100 * x.r - x.l) (100 * x.r + 100 + x.l)) with q1 | ⟨q1, q2⟩ | ⟨q1, q2⟩
        iterate 2
          · have HQ : Hid (seenB a b x = false) := hide (by simp [seenB, *])
            go_wp2_with (go_at_call 45; refine (l1In_any _ _ _ _).mono ?_; rintro e w' ⟨rfl, rfl⟩)
            go_roundg (n - (k + 1))
            case measure => omega
            case rel => exact ⟨k + 1, by omega, by omega, by go_num, by rw [gather_no HX.out HQ.out]; exact OWN.out, HWN.out⟩
        · have HQ : Hid (seenB a b x = true) := hide (by simp [seenB, *])
          obtain ⟨w2, hw2⟩ : ∃ w2, w2 = wr.alloc (.cells #[.int .i64 x.n, .int .i64 x.r, .int .i64 x.c, .int .i64 x.l] 48) := ⟨_, rfl⟩
          have f0 : w2.cell? ⟨wr.heap.size, 0, none⟩ = some (.int .i64 x.n) := by rw [hw2]; simp
          have f1 : w2.cell? ⟨wr.heap.size, 1, none⟩ = some (.int .i64 x.r) := by rw [hw2]; simp
          have f2 : w2.cell? ⟨wr.heap.size, 2, none⟩ = some (.int .i64 x.c) := by rw [hw2]; simp
          have f3 : w2.cell? ⟨wr.heap.size, 3, none⟩ = some (.int .i64 x.l) := by rw [hw2]; simp
          have HB2 : Hid (Below w.heap.size w w2) := hide (by rw [hw2]; exact HWN.out)
          have HO2 := hide OWN.out
          rw [← hw2] at HO2
          have hsz := HB2.out.size
          have hgl := gather_len (f := Pg.n) (c := seenB a b) (zs := zs.take k)
          have htl : (zs.take k).length ≤ k := List.length_take_le _ _
          generalize hl : (gather Pg.n (seenB a b) (zs.take k)).length = L at hgl
          have HL := hide hl
          rw [hl] at HO2
          clear hl
          have HW2 := hide hw2
          clear hw2
          obtain ⟨hi, hz0, hz1, hz2⟩ := HI.out
          go_wp2_with fail
          rw [← HW2.out]
          refine (l1In_any _ _ _ _).mono ?_
          rintro e w' ⟨rfl, rfl⟩
          go_wp2_with (first | (at_builtin; refine wpList_append_own _ rfl _ _ 34 rfl w.heap.size 3 i0 (.int .i64 0) 1 8 Try.underlying34 hi hz0 hz1 hz2 rfl (by decide) _ L _ rfl (HO2.out.alloc _) ⟨w2.heap.size, 0, none⟩ 1 1 [.int .i64 x.n] rfl rfl ?c1 ?c2 ?c3 ?c4 ?c5 ?_) | (go_at_call 45; refine (l1In_any _ _ _ _).mono ?_; rintro e w' ⟨rfl, rfl⟩))
          case c1 => exact news_at #[.int .i64 x.n]
          case c2 => intro u hu; simp at hu; subst hu; rfl
          case c3 => unfold maxLen; omega
          case c4 => omega
          case c5 => simp; omega
          intro v' w3 hown' hgrow _
          have HB3 := hide (bl_grown (HB2.out.alloc hsz _) (HO2.out.alloc _) (Nat.le_refl _) hgrow)
          have HO3 := hide hown'
          clear hown' hgrow hi hz0 hz1 hz2
          go_wp2
          go_roundg (n - (k + 1))
          case measure => omega
          case rel => exact ⟨k + 1, by omega, by omega, by go_num, by rw [gather_yes HX.out HQ.out, flat_snoc, List.length_append, HL.out]; exact HO3.out, HB3.out⟩
      · have hltz : ¬ (k : Int) < (n : Int) := by omega
        go_wp2
        go_ret2
        exact ⟨_, ret_vb HO.out.symm, by rw [HC.out, ← gather_all (k := k) (by rw [HZ.out]; omega)]; exact OW.out, BW.out⟩

end Go.Proofs.Ytdgalehipgdhiaa
