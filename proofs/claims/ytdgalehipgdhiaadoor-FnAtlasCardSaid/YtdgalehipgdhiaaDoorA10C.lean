/- BesidePages, IsAtlas: the references at whatever room. -/
import Derived.Test.YtdgalehipgdhiaaDoorA9
import Derived.Test.YtdgalehipgdhiaaDoorA11g
namespace Go.Proofs.YtdgalehipgdhiaaDoor
open Go.RowKit
set_option linter.unusedVariables false
set_option linter.unusedSimpArgs false

set_option maxRecDepth 100000 in
set_option maxHeartbeats 1000000 in
theorem sBesidePagesC_any (ao : Option Addr) (n c : Nat) (zs : List Pg) (m : Int) (hcap : n ≤ c) (w : World) (hz : zs.length = n) (hn : n ≤ 1048576) (hr : Rd encPg 4 w.heap.size w ao zs) :
    Calls Tryd.prog 16 #[.slice ao n c, .int .i64 m] w fun e w' => ∃ v, e = .returned (.tuple #[v, .bool (okBes zs m)]) ∧ w'.ownsRow w.heap.size 3 1 v (besV zs m).length ((besV zs m).flatMap encI) ∧ Below w.heap.size w w' := by
  obtain ⟨W, hW⟩ : ∃ W, W = w.alloc (.cells #[] 3) := ⟨_, rfl⟩
  have HBW : Hid (Below w.heap.size w W) := hide (by rw [hW]; exact (Below.refl _ _).alloc (Nat.le_refl _) _)
  have HE : Hid (W.ownsRow w.heap.size 3 1 (.slice (some ⟨w.heap.size, 0, none⟩) 0 0) 0 []) := hide (by rw [hW]; exact World.ownsRow_made w #[] 0 (Nat.le_refl _) (by simp [maxLen]) rfl)
  have HW := hide hW
  have HZ := hide hz
  have HR := hide hr
  have HG := hide (l13GoodC_any ao n c zs hcap W hz hn (rd_step hr HBW.out))
  have hl : (zs.length : Int) = n := by rw [hz]
  clear hW hz hr
  rcases first2 (atlasB zs) (inB m 1 n) with h1 | ⟨h1, h2⟩ | ⟨h1, h2⟩
  iterate 2
    · have HO : Hid (okBes zs m = false) := hide (by unfold okBes; rw [hl]; simp [*])
      have HC : Hid (besV zs m = []) := hide (by unfold besV; rw [HO.out]; rfl)
      go_enter Tryd.func16, Tryd.ntmps16
      go_wp2_with fail
      rw [← HW.out]
      refine HG.out.mono ?_
      rintro e w1 ⟨rfl, hb⟩
      have HB := hide (bl_step HBW.out hb)
      have HOW := hide (own_step HE.out hb)
      clear hb
      go_wp2_with (go_at_call 33; refine (l1In_any _ _ _ _).mono ?_; rintro e w' ⟨rfl, rfl⟩)
      go_ret2
      exact ⟨_, ret_vb HO.out.symm, by rw [HC.out]; exact HOW.out, HB.out⟩
  · have HO : Hid (okBes zs m = true) := hide (by unfold okBes; rw [hl]; simp [*])
    have HC : Hid (besV zs m = gather Pg.n (nextTo zs m) zs) := hide (by unfold besV; rw [HO.out]; rfl)
    have HH1 := hide h1
    have hm := inB_iff.1 h2
    have h12 := atlas_12 h1
    have hinf := infoI
    obtain ⟨i0, hi, hz0, hz1, hz2⟩ := info_parts hinf
    clear hinf
    have HI := hide (And.intro hi (And.intro hz0 (And.intro hz1 hz2)))
    clear hi hz0 hz1 hz2
    go_enter Tryd.func16, Tryd.ntmps16
    go_wp2_with fail
    rw [← HW.out]
    refine HG.out.mono ?_
    rintro e w1 ⟨rfl, hb⟩
    have HB := hide (bl_step HBW.out hb)
    have HOW := hide (own_step HE.out hb)
    clear hb HG
    go_wp2_with (go_at_call 33; refine (l1In_any _ _ _ _).mono ?_; rintro e w' ⟨rfl, rfl⟩)
    obtain ⟨b, off, rfl, hb1, hat⟩ := rdPg HR.out (by rw [HZ.out]; omega)
    have hn0 : (m - 1).toNat < n := by omega
    generalize hj : (m - 1).toNat = j at *
    have k1 : IntKind.i64.wrap (m - 1) = m - 1 := IntWalk.i64_in _ (by omega)
    have k2 : (0 : Int) ≤ m - 1 := by omega
    have k3 : m - 1 < (n : Int) := by omega
    obtain ⟨y, hy, hyc⟩ := hat j (by rw [HZ.out]; exact hn0)
    have HY := hide (getB hy)
    have HBY := hide (atlas_at HH1.out hy)
    have HJ := hide hj
    have NX : Hid (∀ x, nextTo zs m x = besB x y) := hide (fun x => by unfold nextTo; rw [HJ.out, HY.out])
    clear hy
    go_loopg [6, 7] n (fun gk v i wr => ∃ k : Nat, k ≤ n ∧ n - k ≤ gk ∧ i = .int .i64 k ∧ Aside (wr.ownsRow w.heap.size 3 1 v (gather Pg.n (nextTo zs m) (zs.take k)).length ((gather Pg.n (nextTo zs m) (zs.take k)).flatMap encI)) ∧ Aside (Below w.heap.size w wr))
    case atStart => exact ⟨0, Nat.zero_le _, by omega, rfl, by rw [gather_zero]; exact HOW.out, HB.out⟩
    case round =>
      obtain ⟨k, hk, hg, rfl, OW, BW⟩ := hrel
      by_cases hlt : k < n
      · have hltz : (k : Int) < (n : Int) := by omega
        obtain ⟨x, hx, hxc⟩ := hat k (by rw [HZ.out]; exact hlt)
        have HX := hide hx
        have HBX := hide (atlas_at HH1.out hx)
        have HN := hide (atlas_n HH1.out hx)
        obtain ⟨hbr, c0, c1, c2, c3⟩ := hxc wr BW.out
        obtain ⟨hbs, d0, d1, d2, d3⟩ := hyc wr BW.out
        have k5 : IntKind.i64.wrap ((k : Int) + 1) = (k : Int) + 1 := IntWalk.i64_in _ (by omega)
        clear hx hxc
        go_wp2_with fail
        go_still_tail 9, (by kernel_rfl)
        change wpList _ _ _ _ _ wr.drew
        go_wp2_with fail
        refine (l13Beside_any x y HBX.out HBY.out _).mono ?_
        rintro e w2 ⟨rfl, hb⟩
        have HB2 := hide (bl_step (Below.drew BW.out) hb)
        have HO2 := hide (own_step (OW.out.drew) hb)
        clear hb
        cases hq : besB x y with
        | false =>
          have HQ : Hid (nextTo zs m x = false) := hide (by rw [NX.out]; exact hq)
          go_wp2
          go_roundg (n - (k + 1))
          case measure => omega
          case rel => exact ⟨k + 1, by omega, by omega, by go_num, by rw [gather_no HX.out HQ.out]; exact HO2.out, HB2.out⟩
        | true =>
          have HQ : Hid (nextTo zs m x = true) := hide (by rw [NX.out]; exact hq)
          have hsz := HB2.out.size
          have hgl := gather_len (f := Pg.n) (c := nextTo zs m) (zs := zs.take k)
          have htl : (zs.take k).length ≤ k := List.length_take_le _ _
          generalize hl : (gather Pg.n (nextTo zs m) (zs.take k)).length = L at hgl
          have HL := hide hl
          rw [hl] at HO2
          clear hl
          obtain ⟨hi, hz0, hz1, hz2⟩ := HI.out
          go_wp2_with (at_builtin; refine wpList_append_own _ rfl _ _ 37 rfl w.heap.size 3 i0 (.int .i64 0) 1 8 Tryd.underlying37 hi hz0 hz1 hz2 rfl (by decide) _ L _ rfl (HO2.out.alloc _) ⟨w2.heap.size, 0, none⟩ 1 1 [.int .i64 ((k : Int) + 1)] rfl rfl ?c1 ?c2 ?c3 ?c4 ?c5 ?_)
          case c1 => exact news_at #[.int .i64 ((k : Int) + 1)]
          case c2 => intro u hu; simp at hu; subst hu; rfl
          case c3 => unfold maxLen; omega
          case c4 => omega
          case c5 => simp; omega
          intro v' w3 hown' hgrow _
          have HB3 := hide (bl_grown (HB2.out.alloc hsz _) (HO2.out.alloc _) (Nat.le_refl _) hgrow)
          have HO3 := hide hown'
          clear hown' hgrow hi hz0 hz1 hz2
          go_wp2
          go_roundg (n - (k + 1))
          case measure => omega
          case rel => exact ⟨k + 1, by omega, by omega, by go_num, by rw [gather_yes HX.out HQ.out, flat_snoc, List.length_append, HL.out, HN.out]; exact HO3.out, HB3.out⟩
      · have hltz : ¬ (k : Int) < (n : Int) := by omega
        go_wp2
        go_ret2
        exact ⟨_, ret_vb HO.out.symm, by rw [HC.out, ← gather_all (k := k) (by rw [HZ.out]; omega)]; exact OW.out, BW.out⟩
theorem sIsAtlasC_any (ao : Option Addr) (n c : Nat) (zs : List Pg) (hcap : n ≤ c) (w : World) (hz : zs.length = n) (hn : n ≤ 1048576) (hr : Rd encPg 4 w.heap.size w ao zs) :
    Calls Tryd.prog 23 #[.slice ao n c] w fun e w' => e = .returned (.bool (atlasB zs)) ∧ Below w.heap.size w w' := by
  have H := hide (l13GoodC_any ao n c zs hcap w hz hn hr)
  clear hz hr
  go_enter Tryd.func23, Tryd.ntmps23
  go_wp2_with fail
  refine H.out.mono ?_
  rintro e w' ⟨rfl, hb⟩
  go_wp2
  go_ret
  exact ⟨rfl, hb⟩

end Go.Proofs.YtdgalehipgdhiaaDoor
