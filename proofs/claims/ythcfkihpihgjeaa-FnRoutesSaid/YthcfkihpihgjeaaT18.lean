/- EndOfRoute: the program. -/
import Derived.Test.YthcfkihpihgjeaaT17
import Derived.Test.YthcfkihpihgjeaaT12
namespace Go.Proofs.Ythcfkihpihgjeaa
open Go.RowKit
set_option linter.unusedVariables false
set_option linter.unusedSimpArgs false

set_option maxRecDepth 100000 in
set_option maxHeartbeats 1000000 in
theorem EndOfRoute_any (ao : Option Addr) (n c : Nat) (zs : List Lg) (w : World) (hz : zs.length = n) (hn : n ≤ 1048576) (hr : Rd encLg 3 w.heap.size w ao zs) :
    Calls Try.prog 31 #[.slice ao n c] w fun e w' => e = .returned (.tuple #[.int .i64 (sumOf fE zs), .int .i64 (sumOf fN zs), .int .i64 (sumOf fC zs), .bool (routeB zs)]) ∧ Below w.heap.size w w' := by
  have HZ := hide hz
  have HR := hide hr
  have HA := hide (IsRoute_any ao n c zs w hz hn hr)
  clear hz hr
  cases h1 : routeB zs with
  | false =>
    have HO : Hid (routeB zs = false) := hide h1
    clear h1
    go_enter Try.func31, Try.ntmps31
    go_wp2_with fail
    refine HA.out.mono ?_
    rintro e w1 ⟨rfl, hb⟩
    rw [HO.out]
    have HB := hide hb
    clear hb
    go_wp2
    (try simp only [Exit.inBlock, Exit.then]); refine bodyPost_ret (results_tmp4 rfl _ _ _) rfl ?_
    have h1 := HO.out
    exact ⟨ret_i4 (by unfold sumOf; rw [h1]; rfl) (by unfold sumOf; rw [h1]; rfl) (by unfold sumOf; rw [h1]; rfl) rfl, HB.out⟩
  | true =>
    have HO : Hid (routeB zs = true) := hide h1
    have h12 := route_12 h1
    rw [HZ.out] at h12
    clear h1
    have HSE : Hid (sumOf fE zs = sumI fE yes zs) := hide (by unfold sumOf; rw [HO.out]; rfl)
    have HSN : Hid (sumOf fN zs = sumI fN yes zs) := hide (by unfold sumOf; rw [HO.out]; rfl)
    have HSC : Hid (sumOf fC zs = sumI fC yes zs) := hide (by unfold sumOf; rw [HO.out]; rfl)
    rcases Nat.eq_zero_or_pos n with hn0 | hnp
    · have HNIL : Hid (zs = []) := hide (List.eq_nil_of_length_eq_zero (by rw [HZ.out]; exact hn0))
      have q1 : ((n : Int) == 0) = true := by simp [hn0]
      clear hn0
      go_enter Try.func31, Try.ntmps31
      go_wp2_with fail
      refine HA.out.mono ?_
      rintro e w1 ⟨rfl, hb⟩
      rw [HO.out]
      have HB := hide hb
      clear hb
      go_wp2
      (try simp only [Exit.inBlock, Exit.then]); refine bodyPost_ret (results_tmp4 rfl _ _ _) rfl ?_
      exact ⟨ret_i4 (by rw [HSE.out, HNIL.out]; rfl) (by rw [HSN.out, HNIL.out]; rfl) (by rw [HSC.out, HNIL.out]; rfl) rfl, HB.out⟩
    · obtain ⟨j, hj⟩ : ∃ j, n = j + 1 := ⟨n - 1, by omega⟩
      have q1 : ((n : Int) == 0) = false := by rw [beq_eq_false_iff_ne]; omega
      have q2 : IntKind.i64.wrap ((n : Int) - 1) = (j : Int) := by rw [show (n : Int) - 1 = (j : Int) by omega]; exact IntWalk.i64_in _ (by omega)
      have q3 : (j : Int) < (n : Int) := by omega
      have q4 : (0 : Int) ≤ (j : Int) := by omega
      have HJ := hide hj
      clear hj
      go_enter Try.func31, Try.ntmps31
      go_wp2_with fail
      refine HA.out.mono ?_
      rintro e w1 ⟨rfl, hb⟩
      rw [HO.out]
      have HB := hide hb
      clear hb HA
      go_wp2_with fail
      refine (placesOn_any ao n c zs _ HZ.out hn (rd_step HR.out HB.out) HO.out).mono ?_
      rintro e w2 ⟨v, rfl, ho, hb⟩
      have HB2 := hide (bl_step HB.out hb)
      have hpl := psL_len zs n
      rcases own_form encP_len ho hpl with ⟨_, hn0, _⟩ | ⟨g, cap, cs, rfl, hg, hBk, hcs, hnc, hcm, ht⟩
      · omega
      have hx := psL_last HZ.out HJ.out
      have d0 : w2.cell? ⟨g, j * 2, none⟩ = some (.int .i64 (sumI fE yes zs)) := by have := blk_at encP_len hBk ht hx (i := 0) rfl; simpa using this
      have d1 : w2.cell? ⟨g, j * 2 + 1, none⟩ = some (.int .i64 (sumI fN yes zs)) := by have := blk_at encP_len hBk ht hx (i := 1) rfl; simpa using this
      have hgl := hBk.lt
      clear ho hb hBk hcs ht hx hpl
      generalize hE : sumI fE yes zs = E at *
      generalize hN : sumI fN yes zs = N at *
      have HE := hide hE
      have HN := hide hN
      clear hE hN
      go_wp2
      obtain ⟨W, hW⟩ : ∃ W, W = w2.alloc (.cells #[.int .i64 E, .int .i64 N] 60) := ⟨_, rfl⟩
      have HBW : Hid (Below w.heap.size w W) := hide (by rw [hW]; exact HB2.out.alloc HB2.out.size _)
      have HBE : Hid (Blk W w2.heap.size 60 #[.int .i64 E, .int .i64 N]) := hide (by rw [hW]; exact Blk.new _ _ _)
      rw [← hW]
      clear hW d0 d1
      go_loopg [7, 25] n (fun gk t i wr => ∃ k : Nat, k ≤ n ∧ n - k ≤ gk ∧ i = .int .i64 k ∧ t = .int .i64 (sumI fC yes (zs.take k)) ∧ Aside (Below W.heap.size W wr))
      case atStart => exact ⟨0, Nat.zero_le _, by omega, rfl, by rw [sum_zero], Below.refl _ _⟩
      case round =>
        obtain ⟨k, hk, hg2, rfl, rfl, BW⟩ := hrel
        by_cases hlt : k < n
        · have hltz : (k : Int) < (n : Int) := by omega
          obtain ⟨b', off, rfl, hb1, hat⟩ := rdLg HR.out (by rw [HZ.out]; omega)
          obtain ⟨x, hx, hxc⟩ := hat k (by rw [HZ.out]; exact hlt)
          have HX := hide hx
          obtain ⟨hbr, c0, c1, c2⟩ := hxc wr (HBW.out.trans (BW.out.mono HBW.out.size))
          have HFC : Hid (fC x = x.c) := hide rfl
          clear hx hxc hat
          go_wp2
          go_roundg (n - (k + 1))
          case measure => omega
          case rel => exact ⟨k + 1, by omega, by omega, by go_num, by rw [sum_yes HX.out (show yes x = true from rfl), HFC.out], BW.out.alloc BW.out.size _⟩
        · have hltz : ¬ (k : Int) < (n : Int) := by omega
          have HCC : Hid (sumI fC yes (zs.take k) = sumOf fC zs) := hide (by rw [HSC.out, sum_all (by rw [HZ.out]; omega)])
          have hbe := HBE.out.below' BW.out
          have a0 : wr.cell? ⟨w2.heap.size, 0, none⟩ = some (.int .i64 E) := by rw [hbe.cell]; rfl
          have a1 : wr.cell? ⟨w2.heap.size, 1, none⟩ = some (.int .i64 N) := by rw [hbe.cell]; rfl
          clear hbe
          go_wp2_with fail
          go_still (by kernel_rfl)
          change Exit.then _ _ Exit.normal _ wr.drew
          go_wp2
          (try simp only [Exit.inBlock, Exit.then]); refine bodyPost_ret (results_tmp4 rfl _ _ _) rfl ?_
          exact ⟨ret_i4 HSE.out.symm HSN.out.symm HCC.out rfl, Below.drew (HBW.out.trans (BW.out.mono HBW.out.size))⟩

end Go.Proofs.Ythcfkihpihgjeaa
