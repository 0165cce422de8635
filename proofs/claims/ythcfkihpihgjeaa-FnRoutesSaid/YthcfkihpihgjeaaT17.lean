/- placesOn. -/
import Derived.Test.YthcfkihpihgjeaaT16
namespace Go.Proofs.Ythcfkihpihgjeaa
open Go.RowKit
set_option linter.unusedVariables false
set_option linter.unusedSimpArgs false

set_option maxRecDepth 100000 in
set_option maxHeartbeats 1000000 in
theorem placesOn_any (ao : Option Addr) (n c : Nat) (zs : List Lg) (w : World) (hz : zs.length = n) (hn : n ≤ 1048576) (hr : Rd encLg 3 w.heap.size w ao zs) (hb0 : routeB zs = true) :
    Calls Try.prog 63 #[.slice ao n c] w fun e w' => ∃ v, e = .returned v ∧ w'.ownsRow w.heap.size 60 2 v n ((psL zs n).flatMap encP) ∧ Below w.heap.size w w' := by
  have HZ := hide hz
  have HR := hide hr
  have HH1 := hide hb0
  have h12 := route_12 hb0
  rw [hz] at h12
  obtain ⟨i0, hi, hz0, hz1, hz2⟩ := info_parts infoP
  have HI := hide (And.intro hi (And.intro hz0 (And.intro hz1 hz2)))
  clear hi hz0 hz1 hz2 hz hr hb0
  go_enter Try.func63, Try.ntmps63
  go_wp2
  go_loopg [3, 12] n (fun gk v i wr => ∃ k : Nat, k ≤ n ∧ n - k ≤ gk ∧ i = .int .i64 k ∧ Aside (Blk wr w.heap.size 60 #[.int .i64 (sumI fE yes (zs.take k)), .int .i64 (sumI fN yes (zs.take k))]) ∧ Aside (wr.ownsRow (w.heap.size + 1) 60 2 v k ((psL zs k).flatMap encP)) ∧ Aside (Below w.heap.size w wr))
  case atStart => exact ⟨0, Nat.zero_le _, by omega, rfl, by rw [sum_zero, sum_zero]; exact Blk.new _ _ _, World.ownsRow_nil _ _ _ _, (Below.refl _ _).alloc (Nat.le_refl _) _⟩
  case round =>
    obtain ⟨k, hk, hg, rfl, BA, OW, BW⟩ := hrel
    by_cases hlt : k < n
    · have hltz : (k : Int) < (n : Int) := by omega
      obtain ⟨b', off, rfl, hb1, hat⟩ := rdLg HR.out (by rw [HZ.out]; omega)
      obtain ⟨x, hx, hxc⟩ := hat k (by rw [HZ.out]; exact hlt)
      have HX := hide hx
      have bx := route_bd HH1.out hx
      obtain ⟨hbr, c0, c1, c2⟩ := hxc wr BW.out
      clear hx hxc hat
      obtain ⟨hdx, hdy⟩ := d_bd x.w
      have bu := bx.2.1
      have bw := bx.1
      have HFE : Hid (fE x = x.u * dX x.w) := hide rfl
      have HFN : Hid (fN x = x.u * dY x.w) := hide rfl
      generalize hp : dX x.w = p at hdx HFE
      generalize hq : dY x.w = q at hdy HFN
      have HP := hide hp
      have HQ := hide hq
      have m1 := up_bd bu hdx
      have m2 := up_bd bu hdy
      clear hp hq
      generalize hE : sumI fE yes (zs.take k) = E at *
      generalize hN : sumI fN yes (zs.take k) = N at *
      have HE := hide hE
      have HN := hide hN
      clear hE hN
      obtain ⟨W1, hW1⟩ : ∃ W1, W1 = wr.alloc (.cells #[.int .i64 x.w, .int .i64 x.u, .int .i64 x.c] 65) := ⟨_, rfl⟩
      have h1 : Below wr.heap.size wr W1 := by rw [hW1]; exact (Below.refl _ _).alloc (Nat.le_refl _) _
      have e1 : W1.cell? ⟨wr.heap.size, 1, none⟩ = some (.int .i64 x.u) := by rw [hW1]; simp
      have g1 : wr.heap.size < W1.heap.size := by rw [hW1]; simp
      have HB1 := hide (bl_step BW.out h1)
      have HO1 := hide (own_step OW.out h1)
      have HA1 := hide (BA.out.below' h1)
      have HW1 := hide hW1
      have hsw := BW.out.size
      clear h1 hW1
      go_wp2_with fail
      rw [← HW1.out]
      refine (unit_any x _ bw).mono ?_
      rintro e w2 ⟨rfl, hb⟩
      rw [HP.out, HQ.out]
      have HB2 := hide (bl_step HB1.out hb)
      have HO2 := hide (own_step HO1.out hb)
      have hA2 := HA1.out.below' hb
      have x1 : w2.cell? ⟨wr.heap.size, 1, none⟩ = some (.int .i64 x.u) := (hb.cell (p := ⟨wr.heap.size, 1, none⟩) g1).trans e1
      have a0 : w2.cell? ⟨w.heap.size, 0, none⟩ = some (.int .i64 E) := by rw [hA2.cell]; rfl
      have a1 : w2.cell? ⟨w.heap.size, 1, none⟩ = some (.int .i64 N) := by rw [hA2.cell]; rfl
      have f0 : w2.frozen? ⟨w.heap.size, 0, none⟩ = false := hA2.frozen _
      have f1 : w2.frozen? ⟨w.heap.size, 1, none⟩ = false := hA2.frozen _
      have g2 : wr.heap.size < w2.heap.size := Nat.lt_of_lt_of_le g1 hb.size
      have g3 := hA2.lt
      have HA2 := hide hA2
      have k1 : IntKind.i64.wrap (x.u * p) = x.u * p := IntWalk.i64_in _ (by omega)
      have k2 : IntKind.i64.wrap (x.u * q) = x.u * q := IntWalk.i64_in _ (by omega)
      have hne : w.heap.size ≠ wr.heap.size := by have := BA.out.lt; omega
      have HO4 := hide (own_setfar (own_setfar HO2.out (p := ⟨w.heap.size, 0, none⟩) (by simp) (.int .i64 (wrap64 (E + x.u * p)))) (p := ⟨w.heap.size, 1, none⟩) (by simp) (.int .i64 (wrap64 (N + x.u * q))))
      have HB4 : Hid (Below w.heap.size w ((w2.setCell ⟨w.heap.size, 0, none⟩ (.int .i64 (wrap64 (E + x.u * p)))).setCell ⟨w.heap.size, 1, none⟩ (.int .i64 (wrap64 (N + x.u * q))))) := hide ((HB2.out.setCell (Nat.le_refl _) _).setCell (Nat.le_refl _) _)
      have HA4 : Hid (Blk ((w2.setCell ⟨w.heap.size, 0, none⟩ (.int .i64 (wrap64 (E + x.u * p)))).setCell ⟨w.heap.size, 1, none⟩ (.int .i64 (wrap64 (N + x.u * q)))) w.heap.size 60 #[.int .i64 (wrap64 (E + x.u * p)), .int .i64 (wrap64 (N + x.u * q))]) := hide ((HA2.out.set_ _ _).set_ _ _)
      have HS4 : Hid (((w2.setCell ⟨w.heap.size, 0, none⟩ (.int .i64 (wrap64 (E + x.u * p)))).setCell ⟨w.heap.size, 1, none⟩ (.int .i64 (wrap64 (N + x.u * q)))).heap.size = w2.heap.size) := hide (by simp)
      have hag : some w.heap.size ≠ _ := fun h => absurd (own_lt HO4.out _ h.symm).1 (by omega)
      have HAG := hide hag
      clear hb hA2 hag
      obtain ⟨hi, hz0, hz1, hz2⟩ := HI.out
      go_wp2_with (at_builtin; refine wpList_append_own _ rfl _ _ 56 rfl (w.heap.size + 1) 60 i0 (.agg #[.int .i64 0, .int .i64 0]) 2 16 Try.underlying56 hi hz0 hz1 hz2 rfl (by decide) _ k _ rfl (HO4.out.alloc _) ⟨w2.heap.size, 0, none⟩ 1 1 [.int .i64 (wrap64 (E + x.u * p)), .int .i64 (wrap64 (N + x.u * q))] rfl rfl ?c1 ?c2 ?c3 ?c4 ?c5 ?_)
      case c1 => have := news_at (w := ((w2.setCell ⟨w.heap.size, 0, none⟩ (.int .i64 (wrap64 (E + x.u * p)))).setCell ⟨w.heap.size, 1, none⟩ (.int .i64 (wrap64 (N + x.u * q))))) (t := 60) #[.int .i64 (wrap64 (E + x.u * p)), .int .i64 (wrap64 (N + x.u * q))]; rw [HS4.out] at this; exact this
      case c2 => intro u hu; simp at hu; rcases hu with rfl | rfl <;> rfl
      case c3 => unfold maxLen; omega
      case c4 => omega
      case c5 => simp; omega
      intro v' w3 hown' hgrow _
      have HB3 := hide (bl_grown (HB4.out.alloc HB4.out.size _) (HO4.out.alloc _) (Nat.le_succ _) hgrow)
      have HA3 := hide ((HA4.out.alloc _).grown hgrow HAG.out)
      have hEs : sumI fE yes (zs.take (k + 1)) = wrap64 (E + x.u * p) := by rw [sum_yes HX.out (show yes x = true from rfl), HE.out, HFE.out]
      have hNs : sumI fN yes (zs.take (k + 1)) = wrap64 (N + x.u * q) := by rw [sum_yes HX.out (show yes x = true from rfl), HN.out, HFN.out]
      have HO3 : Hid (w3.ownsRow (w.heap.size + 1) 60 2 v' (k + 1) ((psL zs (k + 1)).flatMap encP)) := hide (by rw [psL_succ, flat_snoc, hEs, hNs]; exact hown')
      have HEs := hide hEs
      have HNs := hide hNs
      clear hown' hgrow hi hz0 hz1 hz2 hEs hNs
      go_wp2
      go_roundg (n - (k + 1))
      case measure => omega
      case rel => exact ⟨k + 1, by omega, by omega, by go_num, by rw [HEs.out, HNs.out]; exact HA3.out, HO3.out, HB3.out⟩
    · have hltz : ¬ (k : Int) < (n : Int) := by omega
      obtain rfl : k = n := by omega
      go_wp2
      go_ret
      exact ⟨_, rfl, ⟨OW.out.1, OW.out.2.imp id (fun ⟨g, cap, cur, h1, h2, r⟩ => ⟨g, cap, cur, h1, by omega, r⟩)⟩, BW.out⟩

end Go.Proofs.Ythcfkihpihgjeaa
