/- SnakeAtlas: the program. -/
import Derived.Test.YtdgalehipgdhiaaDoorA11
namespace Go.Proofs.YtdgalehipgdhiaaDoor
open Go.RowKit
set_option linter.unusedVariables false
set_option linter.unusedSimpArgs false

set_option maxRecDepth 100000 in
set_option maxHeartbeats 2000000 in
theorem SnakeAtlas_any (a b R C l : Int) (w : World) :
    Calls Tryd.prog 7 #[.int .i64 a, .int .i64 b, .int .i64 R, .int .i64 C, .int .i64 l] w fun e w' => ∃ v, e = .returned (.tuple #[v, .bool (okSn a b R C l)]) ∧ w'.ownsRow w.heap.size 58 4 v (snV a b R C l).length ((snV a b R C l).flatMap encPg) ∧ Below w.heap.size w w' := by
  have HN : Hid (okSn a b R C l = false → snV a b R C l = []) := hide (fun h => by unfold snV; rw [h]; rfl)
  obtain ⟨i0, hi, hz0, hz1, hz2⟩ := info_parts infoPg
  have HI := hide (And.intro hi (And.intro hz0 (And.intro hz1 hz2)))
  clear hi hz0 hz1 hz2
  rcases first4 (inB a 0 99) (inB b 0 99) (inB R 1 4) (inB C 1 4) with h1 | ⟨h1, h2⟩ | ⟨h1, h2, h3⟩ | ⟨h1, h2, h3, h4⟩ | ⟨h1, h2, h3, h4⟩
  iterate 4
    · have HO : Hid (okSn a b R C l = false) := hide (by simp [okSn, okSn0, *])
      have HC := hide (HN.out HO.out)
      go_enter Tryd.func7, Tryd.ntmps7
      go_wp2_with (first | (go_at_call 29; refine (isGrid_any _ _).mono ?_; rintro e w' ⟨rfl, rfl⟩) | (go_at_call 30; refine (within_any _ _ _ _).mono ?_; rintro e w' ⟨rfl, rfl⟩))
      go_ret2
      exact ⟨_, ret_vb HO.out.symm, by rw [HC.out]; exact World.ownsRow_nil _ _ _ _, Below.refl _ _⟩
  · have H0 : Hid (okSn0 a b R C = true) := hide (by simp [okSn0, *])
    have ba := inB_iff.1 h1
    have bb := inB_iff.1 h2
    have bR := inB_iff.1 h3
    have bC := inB_iff.1 h4
    have HOK : Hid (okSn a b R C l = atlasB (snL a b R C l)) := hide (by unfold okSn; rw [H0.out, Bool.true_and])
    have HSL : Hid (snL a b R C l = numL (snA a b C l C.toNat R.toNat)) := hide rfl
    obtain ⟨rr, hrr⟩ : ∃ k : Nat, R = k := ⟨R.toNat, by omega⟩
    obtain ⟨cc, hcc⟩ : ∃ k : Nat, C = k := ⟨C.toNat, by omega⟩
    subst hrr hcc
    rw [Int.toNat_natCast, Int.toNat_natCast] at HSL
    have bRn : rr ≤ 4 := by omega
    have bCn : cc ≤ 4 := by omega
    go_enter Tryd.func7, Tryd.ntmps7
    go_wp2_with (first | (go_at_call 29; refine (isGrid_any _ _).mono ?_; rintro e w' ⟨rfl, rfl⟩) | (go_at_call 30; refine (within_any _ _ _ _).mono ?_; rintro e w' ⟨rfl, rfl⟩))
    go_loopg [12, 35] rr (fun gk v i wr => ∃ k : Nat, k ≤ rr ∧ rr - k ≤ gk ∧ i = .int .i64 k ∧ Aside (wr.ownsRow w.heap.size 58 4 v (k * cc) ((snA a b cc l cc k).flatMap encPg)) ∧ Aside (Below w.heap.size w wr))
    case atStart => exact ⟨0, Nat.zero_le _, by omega, rfl, by rw [Nat.zero_mul]; exact World.ownsRow_nil _ _ _ _, Below.refl _ _⟩
    case round =>
      obtain ⟨k, hk, hgk, rfl, OW, BW⟩ := hrel
      by_cases hlt : k < rr
      · have hltz : (k : Int) < (rr : Int) := by omega
        have hkc : k * cc ≤ 16 := Nat.le_trans (Nat.mul_le_mul (show k ≤ 4 by omega) bCn) (by omega)
        have HF : Hid (snA a b cc l cc k ++ snR a b cc l k 0 = snA a b cc l cc k) := hide (by simp [snR])
        go_wp2
        go_loopg [12, 39] cc (fun gj v i w2 => ∃ j : Nat, j ≤ cc ∧ cc - j ≤ gj ∧ i = .int .i64 j ∧ Aside (w2.ownsRow w.heap.size 58 4 v (k * cc + j) ((snA a b cc l cc k ++ snR a b cc l k j).flatMap encPg)) ∧ Aside (Below w.heap.size w w2))
        case atStart => exact ⟨0, Nat.zero_le _, by omega, rfl, by rw [HF.out]; exact OW.out, BW.out⟩
        case round =>
          obtain ⟨j, hj, hgj, rfl, OV, BV⟩ := hrel
          by_cases hlj : j < cc
          · have hlji : (j : Int) < (cc : Int) := by omega
            have HLN : Hid ((snA a b cc l cc k ++ snR a b cc l k j).length = k * cc + j) := hide (by rw [List.length_append, snA_len, snR_len])
            have HRS : Hid (snA a b cc l cc k ++ snR a b cc l k (j + 1) = (snA a b cc l cc k ++ snR a b cc l k j) ++ [snX a b cc l k j]) := hide (by rw [snR_succ, List.append_assoc])
            have k1 : IntKind.i64.wrap (a + k) = a + k := IntWalk.i64_in _ (by omega)
            have k3 : IntKind.i64.wrap ((cc : Int) - 1) = (cc : Int) - 1 := IntWalk.i64_in _ (by omega)
            have k4 : IntKind.i64.wrap ((cc : Int) - 1 - j) = (cc : Int) - 1 - j := IntWalk.i64_in _ (by omega)
            have k6 : IntKind.i64.wrap ((j : Int) + 1) = (j : Int) + 1 := IntWalk.i64_in _ (by omega)
            have k7 : IntKind.i64.wrap (b + j) = b + j := IntWalk.i64_in _ (by omega)
            have k8 : IntKind.i64.wrap (b + ((cc : Int) - 1 - j)) = b + ((cc : Int) - 1 - j) := IntWalk.i64_in _ (by omega)
            generalize hT : k * cc + j = T at OV HLN
            have hT16 : T ≤ 20 := by omega
            have HT := hide hT
            clear hT
            have k5 : IntKind.i64.wrap ((T : Int) + 1) = (T : Int) + 1 := IntWalk.i64_in _ (by omega)
            have hsw := BV.out.size
            have HLP : Hid ((snA a b cc l cc k ++ snR a b cc l k j).length = T) := hide (by exact HLN.out)
            obtain ⟨ao2, cap2, rfl, hcp, hcm, _⟩ := own_rd encPg_len OV.out HLP.out
            have t1 : (k : Int).tmod 2 = (k : Int) % 2 := Int.tmod_eq_emod_of_nonneg (by omega)
            have hpar : k % 2 = 0 ∨ k % 2 = 1 := by omega
            rcases hpar with hpar | hpar
            · have hpi : (k : Int) % 2 = 0 := by omega
              have HX : Hid (snX a b cc l k j = ⟨0, a + k, b + j, l⟩) := hide (by unfold snX; rw [if_neg (by omega)])
              clear hpar
              obtain ⟨hi, hz0, hz1, hz2⟩ := HI.out
              go_wp2_with (at_builtin; refine wpList_append_own _ rfl _ _ 26 rfl w.heap.size 58 i0 (.agg #[.int .i64 0, .int .i64 0, .int .i64 0, .int .i64 0]) 4 32 Tryd.underlying26 hi hz0 hz1 hz2 rfl (by decide) _ T _ rfl (OV.out.alloc _) ⟨wr.heap.size, 0, none⟩ 1 1 [.int .i64 0, .int .i64 (a + k), .int .i64 (b + j), .int .i64 l] rfl rfl ?c1 ?c2 ?c3 ?c4 ?c5 ?_)
              case c1 => exact news_at #[.int .i64 0, .int .i64 (a + k), .int .i64 (b + j), .int .i64 l]
              case c2 => intro u hu; simp at hu; rcases hu with rfl | rfl | rfl | rfl <;> rfl
              case c3 => unfold maxLen; omega
              case c4 => omega
              case c5 => simp; omega
              intro v' w3 hown' hgrow _
              have HB3 := hide (bl_grown (BV.out.alloc BV.out.size _) (OV.out.alloc _) (Nat.le_refl _) hgrow)
              have HO3 : Hid (w3.ownsRow w.heap.size 58 4 v' (T + 1) ((snA a b cc l cc k ++ snR a b cc l k (j + 1)).flatMap encPg)) := hide (by rw [HRS.out, HX.out, flat_snoc]; first | exact hown' | (rw [List.flatMap_append, List.append_assoc]; exact hown'))
              clear hown' hgrow hi hz0 hz1 hz2
              go_wp2
              go_roundg (cc - (j + 1))
              case measure => omega
              case rel => exact ⟨j + 1, by omega, by omega, by go_num, by rw [← Nat.add_assoc, HT.out]; exact HO3.out, HB3.out⟩
            · have hpi : (k : Int) % 2 = 1 := by omega
              have HX : Hid (snX a b cc l k j = ⟨0, a + k, b + ((cc : Int) - 1 - j), l⟩) := hide (by unfold snX; rw [if_pos (by omega)])
              clear hpar
              obtain ⟨hi, hz0, hz1, hz2⟩ := HI.out
              go_wp2_with (at_builtin; refine wpList_append_own _ rfl _ _ 26 rfl w.heap.size 58 i0 (.agg #[.int .i64 0, .int .i64 0, .int .i64 0, .int .i64 0]) 4 32 Tryd.underlying26 hi hz0 hz1 hz2 rfl (by decide) _ T _ rfl (OV.out.alloc _) ⟨wr.heap.size, 0, none⟩ 1 1 [.int .i64 0, .int .i64 (a + k), .int .i64 (b + ((cc : Int) - 1 - j)), .int .i64 l] rfl rfl ?c1 ?c2 ?c3 ?c4 ?c5 ?_)
              case c1 => exact news_at #[.int .i64 0, .int .i64 (a + k), .int .i64 (b + ((cc : Int) - 1 - j)), .int .i64 l]
              case c2 => intro u hu; simp at hu; rcases hu with rfl | rfl | rfl | rfl <;> rfl
              case c3 => unfold maxLen; omega
              case c4 => omega
              case c5 => simp; omega
              intro v' w3 hown' hgrow _
              have HB3 := hide (bl_grown (BV.out.alloc BV.out.size _) (OV.out.alloc _) (Nat.le_refl _) hgrow)
              have HO3 : Hid (w3.ownsRow w.heap.size 58 4 v' (T + 1) ((snA a b cc l cc k ++ snR a b cc l k (j + 1)).flatMap encPg)) := hide (by rw [HRS.out, HX.out, flat_snoc]; first | exact hown' | (rw [List.flatMap_append, List.append_assoc]; exact hown'))
              clear hown' hgrow hi hz0 hz1 hz2
              go_wp2
              go_roundg (cc - (j + 1))
              case measure => omega
              case rel => exact ⟨j + 1, by omega, by omega, by go_num, by rw [← Nat.add_assoc, HT.out]; exact HO3.out, HB3.out⟩
          · have hge : ¬ (j : Int) < (cc : Int) := by omega
            obtain rfl : j = cc := by omega
            have HKS : Hid (snA a b j l j (k + 1) = snA a b j l j k ++ snR a b j l k j) := hide (snA_succ _ _ _ _ _ _)
            have k6 : IntKind.i64.wrap ((k : Int) + 1) = (k : Int) + 1 := IntWalk.i64_in _ (by omega)
            go_wp2
            go_roundg (rr - (k + 1))
            case measure => omega
            case rel => exact ⟨k + 1, by omega, by omega, by go_num, by rw [HKS.out, Nat.succ_mul]; exact OV.out, BV.out⟩
      · have hge : ¬ (k : Int) < (rr : Int) := by omega
        obtain rfl : k = rr := by omega
        have hkc : k * cc ≤ 16 := Nat.le_trans (Nat.mul_le_mul (show k ≤ 4 by omega) bCn) (by omega)
        have HLN : Hid ((snA a b cc l cc k).length = k * cc) := hide (snA_len _ _ _ _ _ _)
        generalize hT : k * cc = T at OW HLN hkc
        have HT := hide hT
        clear hT
        obtain ⟨ao2, cap2, rfl, hcp, hcm, hrd⟩ := own_rd encPg_len OW.out HLN.out
        have HRD := hide hrd
        clear hrd hcp hcm
        go_wp2_with fail
        refine (renumbered_any ao2 T cap2 (snA a b cc l cc k) _ HLN.out (by omega) HRD.out).mono ?_
        rintro e w3 ⟨v, rfl, ho, hb⟩
        rw [← HSL.out] at ho
        have HB3 := hide (bl_step BW.out hb)
        have ho2 := own_base ho BW.out.size
        clear ho hb
        have HL3 : Hid ((snL a b k cc l).length = T) := hide (by rw [HSL.out, num_len]; exact HLN.out)
        obtain ⟨ao3, cap3, rfl, hc3, hcm3, hrd3⟩ := own_rd encPg_len ho2 HL3.out
        have HO3 := hide ho2
        have HRD3 := hide hrd3
        clear hrd3 ho2
        go_wp2_with fail
        refine (IsAtlas_any ao3 T cap3 (snL a b k cc l) _ HL3.out (by omega) HRD3.out).mono ?_
        rintro e w4 ⟨rfl, hb⟩
        have HB4 := hide (bl_step HB3.out hb)
        have HO4 := hide (own_step HO3.out hb)
        clear hb
        rw [← HOK.out]
        cases hq : okSn a b k cc l with
        | false =>
          have HC := hide (HN.out hq)
          go_wp2
          go_ret2
          exact ⟨_, ret_vb hq.symm, by rw [HC.out]; exact World.ownsRow_nil _ _ _ _, HB4.out⟩
        | true =>
          have HC : Hid (snV a b k cc l = snL a b k cc l) := hide (by unfold snV; rw [hq]; rfl)
          go_wp2
          go_ret2
          exact ⟨_, ret_vb hq.symm, by rw [HC.out, HL3.out]; exact HO4.out, HB4.out⟩

end Go.Proofs.YtdgalehipgdhiaaDoor
