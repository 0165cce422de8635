/- StretchRoute: the reference. -/
import Derived.Test.YtnfhaaiklekemaaT6
import Derived.Test.YtnfhaaiklekemaaOwn
import Derived.Deep.RegionHeldLaw
import Derived.Deep.AppendLies
namespace Go.Proofs.Ytnfhaaiklekemaa
open Go.RowKit
set_option linter.unusedVariables false
set_option linter.unusedSimpArgs false

set_option maxRecDepth 100000 in
set_option maxHeartbeats 1000000 in
theorem sStretchRoute_any (ao : Option Addr) (n c : Nat) (zs : List Lg) (a b : Int) (w : World) (hz : zs.length = n) (hn : n ≤ 1048576) (hr : Rd encLg 3 w.heap.size w ao zs) :
    Calls Try.prog 39 #[.slice ao n c, .int .i64 a, .int .i64 b] w fun e w' => ∃ v, e = .returned (.tuple #[v, .bool (okStr zs a b)]) ∧ w'.ownsRow w.heap.size 62 3 v (strV zs a b).length ((strV zs a b).flatMap encLg) ∧ Below w.heap.size w w' := by
  obtain ⟨W, hW⟩ : ∃ W, W = w.alloc (.cells #[] 62) := ⟨_, rfl⟩
  have HBW : Hid (Below w.heap.size w W) := hide (by rw [hW]; exact (Below.refl _ _).alloc (Nat.le_refl _) _)
  have HE : Hid (W.ownsRow w.heap.size 62 3 (.slice (some ⟨w.heap.size, 0, none⟩) 0 0) 0 []) := hide (by rw [hW]; exact World.ownsRow_made w #[] 0 (Nat.le_refl _) (by simp [maxLen]) rfl)
  have HW := hide hW
  have HZ := hide hz
  have HR := hide hr
  have HA := hide (l15Good_any ao n c zs W hz hn (rd_step hr HBW.out))
  have HN : Hid (okStr zs a b = false → strV zs a b = []) := hide (fun h => by unfold strV; rw [h]; rfl)
  have hinf := infoLg
  obtain ⟨i0, hi, hz0, hz1, hz2⟩ := info_parts hinf
  clear hinf
  have HI := hide (And.intro hi (And.intro hz0 (And.intro hz1 hz2)))
  clear hi hz0 hz1 hz2
  clear hW hz hr
  rcases first3 (routeB zs) (inB a 1 100) (inB b 1 100) with h1 | ⟨h1, h2⟩ | ⟨h1, h2, h3⟩ | ⟨h1, h2, h3⟩
  iterate 3
    · have HO : Hid (okStr zs a b = false) := hide (by simp [okStr, okStr0, *])
      have HC := hide (HN.out HO.out)
      go_enter Try.func39, Try.ntmps39
      go_wp2_with fail
      rw [← HW.out]
      refine HA.out.mono ?_
      rintro e w1 ⟨rfl, hb⟩
      have HB := hide (bl_step HBW.out hb)
      have HOW := hide (own_step HE.out hb)
      clear hb
      go_wp2_with (go_at_call 50; refine (l1In_any _ _ _ _).mono ?_; rintro e w' ⟨rfl, rfl⟩)
      go_ret2
      exact ⟨_, ret_vb HO.out.symm, by rw [HC.out]; exact HOW.out, HB.out⟩
  · have H0 : Hid (okStr0 zs a b = true) := hide (by simp [okStr0, *])
    have HH1 := hide h1
    have h12 := route_12 h1
    rw [HZ.out] at h12
    have ha := inB_iff.1 h2
    have hb := inB_iff.1 h3
    have hb0 : b ≠ 0 := by omega
    have hb2 : (b == 0) = false := by simp [hb0]
    go_enter Try.func39, Try.ntmps39
    go_wp2_with fail
    rw [← HW.out]
    refine HA.out.mono ?_
    rintro e w1 ⟨rfl, hbb⟩
    have HB := hide (bl_step HBW.out hbb)
    have HOW := hide (own_step HE.out hbb)
    clear hbb HA
    go_wp2_with (go_at_call 50; refine (l1In_any _ _ _ _).mono ?_; rintro e w' ⟨rfl, rfl⟩)
    go_loopg [8, 9] n (fun gk v i wr => ∃ k : Nat, k ≤ n ∧ n - k ≤ gk ∧ i = .int .i64 k ∧ Aside (wr.ownsRow w.heap.size 62 3 v k ((strL (zs.take k) a b).flatMap encLg)) ∧ Aside (Below w.heap.size w wr) ∧ Aside (∀ j, j < k → ∀ y, zs[j]? = some y → strC a b y = true))
    case atStart => exact ⟨0, Nat.zero_le _, by omega, rfl, HOW.out, HB.out, fun j hj => absurd hj (Nat.not_lt_zero _)⟩
    case round =>
      obtain ⟨k, hk, hg, rfl, OW, BW, A⟩ := hrel
      by_cases hlt : k < n
      · have hltz : (k : Int) < (n : Int) := by omega
        obtain ⟨b', off, rfl, hb1, hat⟩ := rdLg HR.out (by rw [HZ.out]; omega)
        obtain ⟨x, hx, hxc⟩ := hat k (by rw [HZ.out]; exact hlt)
        have HX := hide hx
        have bx := route_bd HH1.out hx
        obtain ⟨hbr, c0, c1, c2⟩ := hxc wr BW.out
        clear hx hxc hat
        have bp := prod_bd bx.2.1 ha
        have HSX : Hid (strX a b x = ⟨x.w, x.u * a / b, x.c⟩) := hide rfl
        have HSC : Hid (strC a b x = (x.u * a % b == 0)) := hide rfl
        generalize hP : x.u * a = P at bp HSX HSC
        have HP := hide hP
        have bq := tdiv_bd bp hb
        have k1 : IntKind.i64.wrap P = P := IntWalk.i64_in _ (by omega)
        have k2 : IntKind.i64.wrap (P / b) = P / b := IntWalk.i64_in _ (by omega)
        have t1 : P.tdiv b = P / b := Int.tdiv_eq_ediv_of_nonneg (by omega)
        have t2 : P.tmod b = P % b := Int.tmod_eq_emod_of_nonneg (by omega)
        cases hq : (P % b == 0) with
        | false =>
          have n1 : P % b ≠ 0 := by simpa using hq
          have n3 : (P % b != 0) = true := by simpa using hq
          have HO : Hid (okStr zs a b = false) := hide (str_no HX.out (by rw [HSC.out, hq]))
          have HC := hide (HN.out HO.out)
          go_wp2
          go_ret2
          exact ⟨_, ret_vb HO.out.symm, by rw [HC.out]; exact World.ownsRow_made _ #[] 0 BW.out.size (by simp [maxLen]) rfl, BW.out.alloc BW.out.size _⟩
        | true =>
          have n1 : P % b = 0 := by simpa using hq
          have n3 : (P % b != 0) = false := by simp [n1]
          have HQ : Hid (strC a b x = true) := hide (by rw [HSC.out, hq])
          have HO2 := hide (OW.out.drew)
          have HB2 := hide (Below.drew BW.out)
          have hsw := BW.out.size
          clear hq
          obtain ⟨hi, hz0, hz1, hz2⟩ := HI.out
          have hag : _ ≠ some b' := fun h => absurd (own_lt OW.out b' h).1 (by omega)
          go_wp2_with fail
          go_region_held_law (fun w' => w'.cell? ⟨b', off + k * 3, none⟩ = some (.int .i64 x.w) ∧ w'.cell? ⟨b', off + k * 3 + 2, none⟩ = some (.int .i64 x.c))
            (first
              | go_keep
              | (go_split_ands
                 refine ⟨?_, ?_⟩
                 · (rw [hgrow.cell_far _ (by simp; omega) (Ne.symm hag)]; assumption)
                 · (rw [hgrow.cell_far _ (by simp; omega) (Ne.symm hag)]; assumption)))
            ((refine step_append_lies _ (by rfl) _ _ _ (by rfl) w.heap.size 62 i0 _ 3 24 Try.underlying28 hi hz0 hz1 hz2 rfl (by omega) _ k _ (by rfl) ((OW.out.alloc _).drew)
                ⟨wr.heap.size, 0, none⟩ 1 1 [.int .i64 x.w, .int .i64 (P / b), .int .i64 x.c] (by rfl) (by rfl) (World.news_of_block (cs := #[.int .i64 x.w, .int .i64 (P / b), .int .i64 x.c]) (t := 62) (fr := (0, 0)) (heap_alloc_new wr _)) (by simp [Value.oneCell'])
                (by omega) (by unfold maxLen; omega) (by omega) (by simp; omega) (wr.heap.size + 1) (by simp) ?_; intro gg cap w3 hown' hgrow hat hlt2))
          have HB3 := hide (bl_grown (HB2.out.alloc HB2.out.size _) ((OW.out.alloc _).drew) (Nat.le_refl _) hgrow)
          have HO3 : Hid (w3.ownsRow w.heap.size 62 3 (.slice (some ⟨gg, 0, none⟩) (k + 1) cap) (k + 1) ((strL (zs.take (k + 1)) a b).flatMap encLg)) := hide (by rw [str_succ HX.out, flat_snoc, HSX.out]; exact hown')
          clear hown' hgrow hi hz0 hz1 hz2 hat hlt2
          go_wp2
          go_roundg (n - (k + 1))
          case measure => omega
          case rel => exact ⟨k + 1, by omega, by omega, by go_num, HO3.out, HB3.out, all_succ A.out HX.out HQ.out⟩
      · have hltz : ¬ (k : Int) < (n : Int) := by omega
        obtain rfl : k = n := by omega
        have HE2 := hide (str_end (a := a) (b := b) HZ.out (Nat.le_refl _) A.out H0.out)
        have HT : Hid (strL (zs.take k) a b = strL zs a b) := hide (by rw [List.take_of_length_le (by rw [HZ.out]; exact Nat.le_refl _)])
        rw [HT.out] at OW
        have HLEN : Hid ((strL zs a b).length = k) := hide (by unfold strL; rw [List.length_map]; exact HZ.out)
        obtain ⟨ao2, c2, rfl, hc1, hc2, hrd⟩ := own_rd encLg_len OW.out HLEN.out
        have HRD := hide hrd
        clear hrd hc1 hc2
        go_wp2_with fail
        refine (l15Good_any ao2 k c2 (strL zs a b) _ HLEN.out hn HRD.out).mono ?_
        rintro e w4 ⟨rfl, hbb⟩
        have HB4 := hide (bl_step BW.out hbb)
        have HO4 := hide (own_step OW.out hbb)
        clear hbb
        rw [← HE2.out]
        cases hq : okStr zs a b with
        | false =>
          have HC := hide (HN.out hq)
          go_wp2
          go_ret2
          exact ⟨_, ret_vb hq.symm, by rw [HC.out]; exact World.ownsRow_made _ #[] 0 HB4.out.size (by simp [maxLen]) rfl, HB4.out.alloc HB4.out.size _⟩
        | true =>
          have HC : Hid (strV zs a b = strL zs a b) := hide (by unfold strV; rw [hq]; rfl)
          go_wp2
          go_ret2
          exact ⟨_, ret_vb hq.symm, by rw [HC.out, HLEN.out]; exact HO4.out, HB4.out⟩

end Go.Proofs.Ytnfhaaiklekemaa
