/- IsOneCountry: the program. -/
import Derived.Test.YtdgalehipgdhiaaDoorK2
import Derived.Test.YtdgalehipgdhiaaDoorKH
import Derived.Deep.RegionWith
namespace Go.Proofs.YtdgalehipgdhiaaDoor
open Go.RowKit
set_option linter.unusedVariables false
set_option linter.unusedSimpArgs false

set_option maxRecDepth 100000 in
set_option maxHeartbeats 4000000 in
theorem IsOneCountry_any (ao : Option Addr) (n c : Nat) (zs : List Pg) (w : World) (hz : zs.length = n) (hn : n ≤ 1048576) (hr : Rd encPg 4 w.heap.size w ao zs) :
    Calls Tryd.prog 11 #[.slice ao n c] w fun e w' => e = .returned (.tuple #[.bool (oneV zs), .bool (atlasB zs)]) ∧ Below w.heap.size w w' := by
  have HZ := hide hz
  have HR := hide hr
  have HA := hide (IsAtlas_any ao n c zs w hz hn hr)
  clear hz hr
  cases h1 : atlasB zs with
  | false =>
    have HO : Hid (oneV zs = false) := hide (by unfold oneV; rw [h1]; rfl)
    have H1 := hide h1
    clear h1
    go_enter Tryd.func11, Tryd.ntmps11
    go_wp2_with fail
    refine HA.out.mono ?_
    rintro e w1 ⟨rfl, hb⟩
    rw [H1.out]
    have HB := hide hb
    clear hb
    go_wp2
    go_ret2
    exact ⟨ret_bb HO.out.symm rfl, HB.out⟩
  | true =>
    have H1 := hide h1
    have H12 : Hid (zs.length ≤ 12) := hide (by unfold atlasB at h1; simp only [Bool.and_eq_true, decide_eq_true_eq] at h1; exact h1.2)
    have h12 : n ≤ 12 := by have := H12.out; rw [HZ.out] at this; exact this
    clear h1
    go_enter Tryd.func11, Tryd.ntmps11
    go_wp2_with fail
    refine HA.out.mono ?_
    rintro e w1 ⟨rfl, hb⟩
    rw [H1.out]
    have HB := hide hb
    clear hb HA
    by_cases hn0 : n = 0
    · subst hn0
      have HO : Hid (oneV zs = false) := hide (by have := List.eq_nil_of_length_eq_zero HZ.out; subst this; unfold oneV; simp)
      go_wp2
      go_ret2
      exact ⟨ret_bb HO.out.symm rfl, HB.out⟩
    · have hnp : 0 < n := by omega
      have hz0 : 0 < zs.length := by rw [HZ.out]; exact hnp
      have HO : Hid (oneV zs = oneC zs) := hide (by unfold oneV; rw [H1.out]; cases zs with | nil => simp at hz0 | cons _ _ => rfl)
      have hn1 : ¬ (n : Int) = 0 := by omega
      have hn2 : decide (n = 0) = false := by simpa using hn0
      have hn3 : ((n : Int) == 0) = false := by simpa using hn1
      clear hn0
      obtain ⟨i0, hi, hz0', hz1, hz2⟩ := info_parts infoPg
      have HI := hide (And.intro hi (And.intro hz0' (And.intro hz1 hz2)))
      clear hi hz0' hz1 hz2
      obtain ⟨b, off, rfl, hb1, hat⟩ := rdPg HR.out (by rw [HZ.out]; exact hnp)
      obtain ⟨x0, hx0, hxc0⟩ := hat 0 hz0
      have HX0 := hide (getB hx0)
      obtain ⟨_, a0, a1, a2, a3⟩ := hxc0 w1 HB.out
      simp only [Nat.zero_mul, Nat.add_zero] at a0 a1 a2 a3
      have HAT := hide hat
      clear hx0 hxc0 hat
      go_wp2_with fail
      go_loopg [4, 5] (n + 1) (fun gk v j wr => ∃ i : Nat, i ≤ n ∧ n - i < gk ∧ j = .int .i64 (i : Int) ∧ i ≤ (outC zs i).length ∧ Aside (Below w.heap.size w wr) ∧ Aside (wr.ownsRow w.heap.size 58 4 v (outC zs i).length ((pgN zs (outC zs i)).flatMap encPg)))
      case atStart => exact ⟨0, by omega, by omega, rfl, by omega, HB.out.alloc HB.out.size _, by unfold pgN; simp only [outC, List.map_cons, List.map_nil, HX0.out]; exact own_lit ⟨rfl, rfl⟩ HB.out.size⟩
      case round =>
        obtain ⟨i, hin, hgk, rfl, hil, BW, OW⟩ := hrel
        obtain ⟨L, hL⟩ : ∃ L, L = (outC zs i).length := ⟨_, rfl⟩
        have ho := OW.out
        rw [← hL] at ho hil
        have HL := hide hL
        have hLn : L ≤ n := by have := okS_len (out_ok hz0 i); rw [HZ.out, ← hL] at this; exact this
        obtain ⟨vo, vc, rfl, hvc, _, _⟩ := own_rd encPg_len ho (by rw [pgN_len]; exact hL.symm)
        have HOO := hide ho
        clear OW ho hL
        by_cases hlt : i < L
        · have hlti : (i : Int) < (L : Int) := by omega
          have hi0 : (0 : Int) ≤ (i : Int) := by omega
          obtain ⟨s, hs⟩ : ∃ s, (outC zs i)[i]? = some s := ⟨_, List.getElem?_eq_getElem (by rw [← HL.out]; exact hlt)⟩
          have hsn : s < n := by have := (out_ok hz0 i).2 s (List.mem_of_getElem? hs); rw [HZ.out] at this; exact this
          have HGO := hide (out_go (by rw [← HL.out]; exact hlt) hs)
          have HINC := hide (out_inc (by rw [← HL.out]; exact hlt) hs)
          have HS := hide hs
          have hin2 : i < n := by omega
          clear hs
          obtain ⟨v0, hv0⟩ : ∃ v0 : World, v0 = wr := ⟨_, rfl⟩
          subst hv0
          go_wp2_with fail
          go_loopg [4, 26] n (fun gk v j wr => ∃ k : Nat, k ≤ n ∧ n - k ≤ gk ∧ j = .int .i64 (k : Int) ∧ Aside (Below w.heap.size w wr) ∧ Aside (wr.ownsRow w.heap.size 58 4 v (innC zs (outC zs i) s k).length ((pgN zs (innC zs (outC zs i) s k)).flatMap encPg)))
          case atStart => exact ⟨0, Nat.zero_le _, by omega, rfl, BW.out, by simp only [innC]; rw [← HL.out]; exact HOO.out⟩
          case round =>
            obtain ⟨k, hk, hgk2, rfl, BW2, OW⟩ := hrel
            obtain ⟨M, hM⟩ : ∃ M, M = (innC zs (outC zs i) s k).length := ⟨_, rfl⟩
            have ho := OW.out
            rw [← hM] at ho
            have HM := hide hM
            have HOK := hide (inn_ok (s := s) (out_ok hz0 i) k (by rw [HZ.out]; exact hk))
            have hMn : M ≤ n := by have := okS_len HOK.out; rw [HZ.out, ← hM] at this; exact this
            have hLM : L ≤ M := by obtain ⟨t, ht⟩ := inn_pre zs (outC zs i) s k; rw [hM, ht, List.length_append, ← HL.out]; omega
            have HSI : Hid ((innC zs (outC zs i) s k)[i]? = some s) := hide (by obtain ⟨t, ht⟩ := inn_pre zs (outC zs i) s k; rw [ht, List.getElem?_append_left (by rw [← HL.out]; exact hlt)]; exact HS.out)
            obtain ⟨uo, uc, rfl, huc, _, hru⟩ := own_rd encPg_len ho (by rw [pgN_len]; exact hM.symm)
            have HO2 := hide ho
            have HRU := hide hru
            clear OW ho hM hru
            by_cases hltk : k < n
            · have hltk1 : (k : Int) < (n : Int) := by omega
              have hk0 : (0 : Int) ≤ (k : Int) := by omega
              have hiM : i < M := by omega
              have hiM1 : (i : Int) < (M : Int) := by omega
              obtain ⟨x, hx, hxc⟩ := HAT.out k (by rw [HZ.out]; exact hltk)
              have HX := hide hx
              have HAX := hide (atlas_at H1.out hx)
              obtain ⟨hbr, c0, c1, c2, c3⟩ := hxc wr BW2.out
              obtain ⟨y, hy⟩ : ∃ y, zs[s]? = some y := ⟨_, List.getElem?_eq_getElem (by rw [HZ.out]; exact hsn)⟩
              have HAY := hide (atlas_at H1.out hy)
              have HY := hide hy
              obtain ⟨b3, off3, rfl, hb3, hat3⟩ := rdPg HRU.out (by rw [pgN_len, ← HM.out]; omega)
              obtain ⟨y', hy', hyc⟩ := hat3 i (by rw [pgN_len, ← HM.out]; exact hiM)
              obtain rfl : y = y' := by unfold pgN at hy'; rw [List.getElem?_map, HSI.out, Option.map_some, getB hy] at hy'; injection hy'
              have HB3 := hide hyc
              have HXB := hide (getB hx)
              have HYB := hide (getB hy)
              clear hx hxc hy hy' hat3 hyc
              obtain ⟨W, hW⟩ : ∃ W, W = wr.alloc (.cells #[.int .i64 x.n, .int .i64 x.r, .int .i64 x.c, .int .i64 x.l] 58) := ⟨_, rfl⟩
              have h1 : Below wr.heap.size wr W := by rw [hW]; exact (Below.refl _ _).alloc (Nat.le_refl _) _
              have HBW := hide (bl_step BW2.out h1)
              have HOW := hide (own_step HO2.out h1)
              have HRW := hide (rd_step HRU.out h1)
              have g0 : wr.heap.size < W.heap.size := by rw [hW]; simp
              have e0 : W.cell? ⟨wr.heap.size, 0, none⟩ = some (.int .i64 x.n) := by rw [hW]; simp
              have e1 : W.cell? ⟨wr.heap.size, 1, none⟩ = some (.int .i64 x.r) := by rw [hW]; simp
              have e2 : W.cell? ⟨wr.heap.size, 2, none⟩ = some (.int .i64 x.c) := by rw [hW]; simp
              have e3 : W.cell? ⟨wr.heap.size, 3, none⟩ = some (.int .i64 x.l) := by rw [hW]; simp
              obtain ⟨g3, p0, p1, p2, p3⟩ := HB3.out W h1
              have HW := hide hW
              clear hW h1
              go_wp2_with fail
              rw [← HW.out]
              cases hq : besB zs[s]! zs[k]! with
              | false =>
                have HQ := hide hq
                have HST := hide (stp_no1 (seen := innC zs (outC zs i) s k) hq)
                clear hq
                refine wp_region_held_drew (S := fun w' => w'.cell? ⟨wr.heap.size, 0, none⟩ = some (.int .i64 x.n) ∧ w'.cell? ⟨wr.heap.size, 1, none⟩ = some (.int .i64 x.r) ∧ w'.cell? ⟨wr.heap.size, 2, none⟩ = some (.int .i64 x.c) ∧ w'.cell? ⟨wr.heap.size, 3, none⟩ = some (.int .i64 x.l) ∧ w'.cell? ⟨b3, off3 + i * 4, none⟩ = some (.int .i64 y.n) ∧ w'.cell? ⟨b3, off3 + i * 4 + 1, none⟩ = some (.int .i64 y.r) ∧ w'.cell? ⟨b3, off3 + i * 4 + 2, none⟩ = some (.int .i64 y.c) ∧ w'.cell? ⟨b3, off3 + i * 4 + 3, none⟩ = some (.int .i64 y.l) ∧ Below W.heap.size W w') (by kernel_rfl) ⟨e0, e1, e2, e3, p0, p1, p2, p3, (Below.refl _ _).drew⟩ (fun hHeld => ?_)
                first
                  | (refine heldK_skip 0 30 rfl (by kernel_rfl) (by kernel_rfl) (by kernel_rfl) rfl (fun _ _ _ h => h) (by rfl) (by assumption) ?_)
                  | (refine heldK_take 0 30 ?vv1 rfl (by kernel_rfl) (by kernel_rfl) (by kernel_rfl) rfl (fun _ _ _ h => h) (by rfl) ?hy1 (by assumption) ?rest1
                     case hy1 => (intro w hSw; (try dsimp only at hSw); go_simp; try with_reducible rfl))
                try simp only [Act.put, List.setIfInBounds_toArray, List.set_cons_zero, List.set_cons_succ]
                first
                  | (refine heldK_skip 1 31 rfl (by kernel_rfl) (by kernel_rfl) (by kernel_rfl) rfl (fun _ _ _ h => h) (by rfl) (by assumption) ?_)
                  | (refine heldK_take 1 31 ?vv2 rfl (by kernel_rfl) (by kernel_rfl) (by kernel_rfl) rfl (fun _ _ _ h => h) (by rfl) ?hy2 (by assumption) ?rest2
                     case hy2 => (intro w hSw; (try dsimp only at hSw); go_simp; try with_reducible rfl))
                try simp only [Act.put, List.setIfInBounds_toArray, List.set_cons_zero, List.set_cons_succ]
                first
                  | (refine heldK_skip 2 32 rfl (by kernel_rfl) (by kernel_rfl) (by kernel_rfl) rfl (fun _ _ _ h => h) (by rfl) (by assumption) ?_)
                  | (refine heldK_take 2 32 ?vv3 rfl (by kernel_rfl) (by kernel_rfl) (by kernel_rfl) rfl (fun _ _ _ h => h) (by rfl) ?hy3 (by assumption) ?rest3
                     case hy3 => (intro w hSw; (try dsimp only at hSw); go_simp; try with_reducible rfl))
                try simp only [Act.put, List.setIfInBounds_toArray, List.set_cons_zero, List.set_cons_succ]
                first
                  | (refine heldK_skip 3 33 rfl (by kernel_rfl) (by kernel_rfl) (by kernel_rfl) rfl (fun _ _ _ h => h) (by rfl) (by assumption) ?_)
                  | (refine heldK_take 3 33 ?vv4 rfl (by kernel_rfl) (by kernel_rfl) (by kernel_rfl) rfl (fun _ _ _ h => h) (by rfl) ?hy4 (by assumption) ?rest4
                     case hy4 => (intro w hSw; (try dsimp only at hSw); go_simp; try with_reducible rfl))
                try simp only [Act.put, List.setIfInBounds_toArray, List.set_cons_zero, List.set_cons_succ]
                first
                  | (refine heldK_skip 4 34 rfl (by kernel_rfl) (by kernel_rfl) (by kernel_rfl) rfl (fun _ _ _ h => h) (by rfl) (by assumption) ?_)
                  | (refine heldK_take 4 34 ?vv5 rfl (by kernel_rfl) (by kernel_rfl) (by kernel_rfl) rfl (fun _ _ _ h => h) (by rfl) ?hy5 (by assumption) ?rest5
                     case hy5 => (intro w hSw; (try dsimp only at hSw); go_simp; try with_reducible rfl))
                try simp only [Act.put, List.setIfInBounds_toArray, List.set_cons_zero, List.set_cons_succ]
                refine wpAnyH_ready (rs := [5]) (by kernel_rfl) (by simp) ?_
                refine AllReadyH.cons rfl (fun K hK => ?_) AllReadyH.nil
                go_simp
                refine (areBeside_any x y HAX.out HAY.out _).mono ?_
                rintro e w2 ⟨rfl, hb⟩
                rw [show besB x y = false from by rw [bes_symm, ← HXB.out, ← HYB.out]; exact HQ.out]
                go_wp2_with fail
                have hq := Below.trans hHeld.2.2.2.2.2.2.2.2 (Below.mono hb hHeld.2.2.2.2.2.2.2.2.size)
                refine hK.out _ _ ⟨(hq.cell (p := ⟨wr.heap.size, 0, none⟩) g0).trans e0, (hq.cell (p := ⟨wr.heap.size, 1, none⟩) g0).trans e1, (hq.cell (p := ⟨wr.heap.size, 2, none⟩) g0).trans e2, (hq.cell (p := ⟨wr.heap.size, 3, none⟩) g0).trans e3, (hq.cell (p := ⟨b3, off3 + i * 4, none⟩) g3).trans p0, (hq.cell (p := ⟨b3, off3 + i * 4 + 1, none⟩) g3).trans p1, (hq.cell (p := ⟨b3, off3 + i * 4 + 2, none⟩) g3).trans p2, (hq.cell (p := ⟨b3, off3 + i * 4 + 3, none⟩) g3).trans p3, hq⟩ (fun hHeld => ?_)
                clear hq hb hK K
                try simp only [Act.put, List.setIfInBounds_toArray, List.set_cons_zero, List.set_cons_succ]
                first
                  | (refine heldK_skip 6 36 rfl (by kernel_rfl) (by kernel_rfl) (by kernel_rfl) rfl (fun _ _ _ h => h) (by rfl) (by assumption) ?_)
                  | (refine heldK_take 6 36 ?vv6 rfl (by kernel_rfl) (by kernel_rfl) (by kernel_rfl) rfl (fun _ _ _ h => h) (by rfl) ?hy6 (by assumption) ?rest6
                     case hy6 => (intro w hSw; (try dsimp only at hSw); go_simp; try with_reducible rfl))
                try simp only [Act.put, List.setIfInBounds_toArray, List.set_cons_zero, List.set_cons_succ]
                first
                  | (refine heldK_skip 7 37 rfl (by kernel_rfl) (by kernel_rfl) (by kernel_rfl) rfl (fun _ _ _ h => h) (by rfl) (by assumption) ?_)
                  | (refine heldK_take 7 37 ?vv7 rfl (by kernel_rfl) (by kernel_rfl) (by kernel_rfl) rfl (fun _ _ _ h => h) (by rfl) ?hy7 (by assumption) ?rest7
                     case hy7 => (intro w hSw; (try dsimp only at hSw); go_simp; try with_reducible rfl))
                try simp only [Act.put, List.setIfInBounds_toArray, List.set_cons_zero, List.set_cons_succ]
                first
                  | (refine heldK_skip 8 38 rfl (by kernel_rfl) (by kernel_rfl) (by kernel_rfl) rfl (fun _ _ _ h => h) (by rfl) (by assumption) ?_)
                  | (refine heldK_take 8 38 ?vv8 rfl (by kernel_rfl) (by kernel_rfl) (by kernel_rfl) rfl (fun _ _ _ h => h) (by rfl) ?hy8 (by assumption) ?rest8
                     case hy8 => (intro w hSw; (try dsimp only at hSw); go_simp; try with_reducible rfl))
                try simp only [Act.put, List.setIfInBounds_toArray, List.set_cons_zero, List.set_cons_succ]
                first
                  | (refine heldK_skip 9 39 rfl (by kernel_rfl) (by kernel_rfl) (by kernel_rfl) rfl (fun _ _ _ h => h) (by rfl) (by assumption) ?_)
                  | (refine heldK_take 9 39 ?vv9 rfl (by kernel_rfl) (by kernel_rfl) (by kernel_rfl) rfl (fun _ _ _ h => h) (by rfl) ?hy9 (by assumption) ?rest9
                     case hy9 => (intro w hSw; (try dsimp only at hSw); go_simp; try with_reducible rfl))
                try simp only [Act.put, List.setIfInBounds_toArray, List.set_cons_zero, List.set_cons_succ]
                first
                  | (refine heldK_skip 10 40 rfl (by kernel_rfl) (by kernel_rfl) (by kernel_rfl) rfl (fun _ _ _ h => h) (by rfl) (by assumption) ?_)
                  | (refine heldK_take 10 40 ?vv10 rfl (by kernel_rfl) (by kernel_rfl) (by kernel_rfl) rfl (fun _ _ _ h => h) (by rfl) ?hy10 (by assumption) ?rest10
                     case hy10 => (intro w hSw; (try dsimp only at hSw); go_simp; try with_reducible rfl))
                try simp only [Act.put, List.setIfInBounds_toArray, List.set_cons_zero, List.set_cons_succ]
                first
                  | (refine heldK_skip 11 41 rfl (by kernel_rfl) (by kernel_rfl) (by kernel_rfl) rfl (fun _ _ _ h => h) (by rfl) (by assumption) ?_)
                  | (refine heldK_take 11 41 ?vv11 rfl (by kernel_rfl) (by kernel_rfl) (by kernel_rfl) rfl (fun _ _ _ h => h) (by rfl) ?hy11 (by assumption) ?rest11
                     case hy11 => (intro w hSw; (try dsimp only at hSw); go_simp; try with_reducible rfl))
                try simp only [Act.put, List.setIfInBounds_toArray, List.set_cons_zero, List.set_cons_succ]
                refine wpAnyH_done (by kernel_rfl) ?_ _
                have HBK := hide hHeld.2.2.2.2.2.2.2.2
                clear hHeld
                have HBX := hide (bl_step HBW.out HBK.out)
                have HOX := hide (own_step HOW.out HBK.out)
                go_wp2
                go_roundg (n - (k + 1))
                case measure => omega
                case rel => exact ⟨k + 1, by omega, by omega, by go_num, HBX.out, by rw [innC, HST.out, ← HM.out]; exact HOX.out⟩
              | true =>
                have HQ := hide hq
                cases hq2 : (innC zs (outC zs i) s k).contains k with
                | true =>
                  have HST := hide (stp_no2 (s := s) hq2 (zs := zs))
                  have HQ2 := hide hq2
                  clear hq hq2
                  refine wp_region_held_drew (S := fun w' => w'.cell? ⟨wr.heap.size, 0, none⟩ = some (.int .i64 x.n) ∧ w'.cell? ⟨wr.heap.size, 1, none⟩ = some (.int .i64 x.r) ∧ w'.cell? ⟨wr.heap.size, 2, none⟩ = some (.int .i64 x.c) ∧ w'.cell? ⟨wr.heap.size, 3, none⟩ = some (.int .i64 x.l) ∧ w'.cell? ⟨b3, off3 + i * 4, none⟩ = some (.int .i64 y.n) ∧ w'.cell? ⟨b3, off3 + i * 4 + 1, none⟩ = some (.int .i64 y.r) ∧ w'.cell? ⟨b3, off3 + i * 4 + 2, none⟩ = some (.int .i64 y.c) ∧ w'.cell? ⟨b3, off3 + i * 4 + 3, none⟩ = some (.int .i64 y.l) ∧ Below W.heap.size W w') (by kernel_rfl) ⟨e0, e1, e2, e3, p0, p1, p2, p3, (Below.refl _ _).drew⟩ (fun hHeld => ?_)
                  first
                    | (refine heldK_skip 0 30 rfl (by kernel_rfl) (by kernel_rfl) (by kernel_rfl) rfl (fun _ _ _ h => h) (by rfl) (by assumption) ?_)
                    | (refine heldK_take 0 30 ?vv12 rfl (by kernel_rfl) (by kernel_rfl) (by kernel_rfl) rfl (fun _ _ _ h => h) (by rfl) ?hy12 (by assumption) ?rest12
                       case hy12 => (intro w hSw; (try dsimp only at hSw); go_simp; try with_reducible rfl))
                  try simp only [Act.put, List.setIfInBounds_toArray, List.set_cons_zero, List.set_cons_succ]
                  first
                    | (refine heldK_skip 1 31 rfl (by kernel_rfl) (by kernel_rfl) (by kernel_rfl) rfl (fun _ _ _ h => h) (by rfl) (by assumption) ?_)
                    | (refine heldK_take 1 31 ?vv13 rfl (by kernel_rfl) (by kernel_rfl) (by kernel_rfl) rfl (fun _ _ _ h => h) (by rfl) ?hy13 (by assumption) ?rest13
                       case hy13 => (intro w hSw; (try dsimp only at hSw); go_simp; try with_reducible rfl))
                  try simp only [Act.put, List.setIfInBounds_toArray, List.set_cons_zero, List.set_cons_succ]
                  first
                    | (refine heldK_skip 2 32 rfl (by kernel_rfl) (by kernel_rfl) (by kernel_rfl) rfl (fun _ _ _ h => h) (by rfl) (by assumption) ?_)
                    | (refine heldK_take 2 32 ?vv14 rfl (by kernel_rfl) (by kernel_rfl) (by kernel_rfl) rfl (fun _ _ _ h => h) (by rfl) ?hy14 (by assumption) ?rest14
                       case hy14 => (intro w hSw; (try dsimp only at hSw); go_simp; try with_reducible rfl))
                  try simp only [Act.put, List.setIfInBounds_toArray, List.set_cons_zero, List.set_cons_succ]
                  first
                    | (refine heldK_skip 3 33 rfl (by kernel_rfl) (by kernel_rfl) (by kernel_rfl) rfl (fun _ _ _ h => h) (by rfl) (by assumption) ?_)
                    | (refine heldK_take 3 33 ?vv15 rfl (by kernel_rfl) (by kernel_rfl) (by kernel_rfl) rfl (fun _ _ _ h => h) (by rfl) ?hy15 (by assumption) ?rest15
                       case hy15 => (intro w hSw; (try dsimp only at hSw); go_simp; try with_reducible rfl))
                  try simp only [Act.put, List.setIfInBounds_toArray, List.set_cons_zero, List.set_cons_succ]
                  first
                    | (refine heldK_skip 4 34 rfl (by kernel_rfl) (by kernel_rfl) (by kernel_rfl) rfl (fun _ _ _ h => h) (by rfl) (by assumption) ?_)
                    | (refine heldK_take 4 34 ?vv16 rfl (by kernel_rfl) (by kernel_rfl) (by kernel_rfl) rfl (fun _ _ _ h => h) (by rfl) ?hy16 (by assumption) ?rest16
                       case hy16 => (intro w hSw; (try dsimp only at hSw); go_simp; try with_reducible rfl))
                  try simp only [Act.put, List.setIfInBounds_toArray, List.set_cons_zero, List.set_cons_succ]
                  refine wpAnyH_ready (rs := [5]) (by kernel_rfl) (by simp) ?_
                  refine AllReadyH.cons rfl (fun K hK => ?_) AllReadyH.nil
                  go_simp
                  refine (areBeside_any x y HAX.out HAY.out _).mono ?_
                  rintro e w2 ⟨rfl, hb⟩
                  rw [show besB x y = true from by rw [bes_symm, ← HXB.out, ← HYB.out]; exact HQ.out]
                  go_wp2_with fail
                  have hq := Below.trans hHeld.2.2.2.2.2.2.2.2 (Below.mono hb hHeld.2.2.2.2.2.2.2.2.size)
                  refine hK.out _ _ ⟨(hq.cell (p := ⟨wr.heap.size, 0, none⟩) g0).trans e0, (hq.cell (p := ⟨wr.heap.size, 1, none⟩) g0).trans e1, (hq.cell (p := ⟨wr.heap.size, 2, none⟩) g0).trans e2, (hq.cell (p := ⟨wr.heap.size, 3, none⟩) g0).trans e3, (hq.cell (p := ⟨b3, off3 + i * 4, none⟩) g3).trans p0, (hq.cell (p := ⟨b3, off3 + i * 4 + 1, none⟩) g3).trans p1, (hq.cell (p := ⟨b3, off3 + i * 4 + 2, none⟩) g3).trans p2, (hq.cell (p := ⟨b3, off3 + i * 4 + 3, none⟩) g3).trans p3, hq⟩ (fun hHeld => ?_)
                  clear hq hb hK K
                  try simp only [Act.put, List.setIfInBounds_toArray, List.set_cons_zero, List.set_cons_succ]
                  first
                    | (refine heldK_skip 6 36 rfl (by kernel_rfl) (by kernel_rfl) (by kernel_rfl) rfl (fun _ _ _ h => h) (by rfl) (by assumption) ?_)
                    | (refine heldK_take 6 36 ?vv17 rfl (by kernel_rfl) (by kernel_rfl) (by kernel_rfl) rfl (fun _ _ _ h => h) (by rfl) ?hy17 (by assumption) ?rest17
                       case hy17 => (intro w hSw; (try dsimp only at hSw); go_simp; try with_reducible rfl))
                  try simp only [Act.put, List.setIfInBounds_toArray, List.set_cons_zero, List.set_cons_succ]
                  first
                    | (refine heldK_skip 7 37 rfl (by kernel_rfl) (by kernel_rfl) (by kernel_rfl) rfl (fun _ _ _ h => h) (by rfl) (by assumption) ?_)
                    | (refine heldK_take 7 37 ?vv18 rfl (by kernel_rfl) (by kernel_rfl) (by kernel_rfl) rfl (fun _ _ _ h => h) (by rfl) ?hy18 (by assumption) ?rest18
                       case hy18 => (intro w hSw; (try dsimp only at hSw); go_simp; try with_reducible rfl))
                  try simp only [Act.put, List.setIfInBounds_toArray, List.set_cons_zero, List.set_cons_succ]
                  first
                    | (refine heldK_skip 8 38 rfl (by kernel_rfl) (by kernel_rfl) (by kernel_rfl) rfl (fun _ _ _ h => h) (by rfl) (by assumption) ?_)
                    | (refine heldK_take 8 38 ?vv19 rfl (by kernel_rfl) (by kernel_rfl) (by kernel_rfl) rfl (fun _ _ _ h => h) (by rfl) ?hy19 (by assumption) ?rest19
                       case hy19 => (intro w hSw; (try dsimp only at hSw); go_simp; try with_reducible rfl))
                  try simp only [Act.put, List.setIfInBounds_toArray, List.set_cons_zero, List.set_cons_succ]
                  refine wpAnyH_ready (rs := [9]) (by kernel_rfl) (by simp) ?_
                  refine AllReadyH.cons rfl (fun K hK => ?_) AllReadyH.nil
                  go_simp
                  refine (ContainsPage_any _ M uc (pgN zs (innC zs (outC zs i) s k)) x _ (by rw [pgN_len]; exact HM.out.symm) (by omega) (rd_step HRW.out hHeld.2.2.2.2.2.2.2.2)).mono ?_
                  rintro e w3 ⟨rfl, hb⟩
                  rw [show hasP (pgN zs (innC zs (outC zs i) s k)) x = true from by rw [hasP_eq H1.out HOK.out.2 HX.out]; exact HQ2.out]
                  go_wp2_with fail
                  have hq := Below.trans hHeld.2.2.2.2.2.2.2.2 (Below.mono hb hHeld.2.2.2.2.2.2.2.2.size)
                  refine hK.out _ _ ⟨(hq.cell (p := ⟨wr.heap.size, 0, none⟩) g0).trans e0, (hq.cell (p := ⟨wr.heap.size, 1, none⟩) g0).trans e1, (hq.cell (p := ⟨wr.heap.size, 2, none⟩) g0).trans e2, (hq.cell (p := ⟨wr.heap.size, 3, none⟩) g0).trans e3, (hq.cell (p := ⟨b3, off3 + i * 4, none⟩) g3).trans p0, (hq.cell (p := ⟨b3, off3 + i * 4 + 1, none⟩) g3).trans p1, (hq.cell (p := ⟨b3, off3 + i * 4 + 2, none⟩) g3).trans p2, (hq.cell (p := ⟨b3, off3 + i * 4 + 3, none⟩) g3).trans p3, hq⟩ (fun hHeld => ?_)
                  clear hq hb hK K
                  try simp only [Act.put, List.setIfInBounds_toArray, List.set_cons_zero, List.set_cons_succ]
                  first
                    | (refine heldK_skip 10 40 rfl (by kernel_rfl) (by kernel_rfl) (by kernel_rfl) rfl (fun _ _ _ h => h) (by rfl) (by assumption) ?_)
                    | (refine heldK_take 10 40 ?vv20 rfl (by kernel_rfl) (by kernel_rfl) (by kernel_rfl) rfl (fun _ _ _ h => h) (by rfl) ?hy20 (by assumption) ?rest20
                       case hy20 => (intro w hSw; (try dsimp only at hSw); go_simp; try with_reducible rfl))
                  try simp only [Act.put, List.setIfInBounds_toArray, List.set_cons_zero, List.set_cons_succ]
                  first
                    | (refine heldK_skip 11 41 rfl (by kernel_rfl) (by kernel_rfl) (by kernel_rfl) rfl (fun _ _ _ h => h) (by rfl) (by assumption) ?_)
                    | (refine heldK_take 11 41 ?vv21 rfl (by kernel_rfl) (by kernel_rfl) (by kernel_rfl) rfl (fun _ _ _ h => h) (by rfl) ?hy21 (by assumption) ?rest21
                       case hy21 => (intro w hSw; (try dsimp only at hSw); go_simp; try with_reducible rfl))
                  try simp only [Act.put, List.setIfInBounds_toArray, List.set_cons_zero, List.set_cons_succ]
                  refine wpAnyH_done (by kernel_rfl) ?_ _
                  have HBK := hide hHeld.2.2.2.2.2.2.2.2
                  clear hHeld
                  have HBX := hide (bl_step HBW.out HBK.out)
                  have HOX := hide (own_step HOW.out HBK.out)
                  go_wp2
                  go_roundg (n - (k + 1))
                  case measure => omega
                  case rel => exact ⟨k + 1, by omega, by omega, by go_num, HBX.out, by rw [innC, HST.out, ← HM.out]; exact HOX.out⟩
                | false =>
                  have HST := hide (stp_yes hq hq2)
                  have HQ2 := hide hq2
                  clear hq hq2
                  refine wp_region_held_drew (S := fun w' => w'.cell? ⟨wr.heap.size, 0, none⟩ = some (.int .i64 x.n) ∧ w'.cell? ⟨wr.heap.size, 1, none⟩ = some (.int .i64 x.r) ∧ w'.cell? ⟨wr.heap.size, 2, none⟩ = some (.int .i64 x.c) ∧ w'.cell? ⟨wr.heap.size, 3, none⟩ = some (.int .i64 x.l) ∧ w'.cell? ⟨b3, off3 + i * 4, none⟩ = some (.int .i64 y.n) ∧ w'.cell? ⟨b3, off3 + i * 4 + 1, none⟩ = some (.int .i64 y.r) ∧ w'.cell? ⟨b3, off3 + i * 4 + 2, none⟩ = some (.int .i64 y.c) ∧ w'.cell? ⟨b3, off3 + i * 4 + 3, none⟩ = some (.int .i64 y.l) ∧ Below W.heap.size W w') (by kernel_rfl) ⟨e0, e1, e2, e3, p0, p1, p2, p3, (Below.refl _ _).drew⟩ (fun hHeld => ?_)
                  first
                    | (refine heldK_skip 0 30 rfl (by kernel_rfl) (by kernel_rfl) (by kernel_rfl) rfl (fun _ _ _ h => h) (by rfl) (by assumption) ?_)
                    | (refine heldK_take 0 30 ?vv22 rfl (by kernel_rfl) (by kernel_rfl) (by kernel_rfl) rfl (fun _ _ _ h => h) (by rfl) ?hy22 (by assumption) ?rest22
                       case hy22 => (intro w hSw; (try dsimp only at hSw); go_simp; try with_reducible rfl))
                  try simp only [Act.put, List.setIfInBounds_toArray, List.set_cons_zero, List.set_cons_succ]
                  first
                    | (refine heldK_skip 1 31 rfl (by kernel_rfl) (by kernel_rfl) (by kernel_rfl) rfl (fun _ _ _ h => h) (by rfl) (by assumption) ?_)
                    | (refine heldK_take 1 31 ?vv23 rfl (by kernel_rfl) (by kernel_rfl) (by kernel_rfl) rfl (fun _ _ _ h => h) (by rfl) ?hy23 (by assumption) ?rest23
                       case hy23 => (intro w hSw; (try dsimp only at hSw); go_simp; try with_reducible rfl))
                  try simp only [Act.put, List.setIfInBounds_toArray, List.set_cons_zero, List.set_cons_succ]
                  first
                    | (refine heldK_skip 2 32 rfl (by kernel_rfl) (by kernel_rfl) (by kernel_rfl) rfl (fun _ _ _ h => h) (by rfl) (by assumption) ?_)
                    | (refine heldK_take 2 32 ?vv24 rfl (by kernel_rfl) (by kernel_rfl) (by kernel_rfl) rfl (fun _ _ _ h => h) (by rfl) ?hy24 (by assumption) ?rest24
                       case hy24 => (intro w hSw; (try dsimp only at hSw); go_simp; try with_reducible rfl))
                  try simp only [Act.put, List.setIfInBounds_toArray, List.set_cons_zero, List.set_cons_succ]
                  first
                    | (refine heldK_skip 3 33 rfl (by kernel_rfl) (by kernel_rfl) (by kernel_rfl) rfl (fun _ _ _ h => h) (by rfl) (by assumption) ?_)
                    | (refine heldK_take 3 33 ?vv25 rfl (by kernel_rfl) (by kernel_rfl) (by kernel_rfl) rfl (fun _ _ _ h => h) (by rfl) ?hy25 (by assumption) ?rest25
                       case hy25 => (intro w hSw; (try dsimp only at hSw); go_simp; try with_reducible rfl))
                  try simp only [Act.put, List.setIfInBounds_toArray, List.set_cons_zero, List.set_cons_succ]
                  first
                    | (refine heldK_skip 4 34 rfl (by kernel_rfl) (by kernel_rfl) (by kernel_rfl) rfl (fun _ _ _ h => h) (by rfl) (by assumption) ?_)
                    | (refine heldK_take 4 34 ?vv26 rfl (by kernel_rfl) (by kernel_rfl) (by kernel_rfl) rfl (fun _ _ _ h => h) (by rfl) ?hy26 (by assumption) ?rest26
                       case hy26 => (intro w hSw; (try dsimp only at hSw); go_simp; try with_reducible rfl))
                  try simp only [Act.put, List.setIfInBounds_toArray, List.set_cons_zero, List.set_cons_succ]
                  refine wpAnyH_ready (rs := [5]) (by kernel_rfl) (by simp) ?_
                  refine AllReadyH.cons rfl (fun K hK => ?_) AllReadyH.nil
                  go_simp
                  refine (areBeside_any x y HAX.out HAY.out _).mono ?_
                  rintro e w2 ⟨rfl, hb⟩
                  rw [show besB x y = true from by rw [bes_symm, ← HXB.out, ← HYB.out]; exact HQ.out]
                  go_wp2_with fail
                  have hq := Below.trans hHeld.2.2.2.2.2.2.2.2 (Below.mono hb hHeld.2.2.2.2.2.2.2.2.size)
                  refine hK.out _ _ ⟨(hq.cell (p := ⟨wr.heap.size, 0, none⟩) g0).trans e0, (hq.cell (p := ⟨wr.heap.size, 1, none⟩) g0).trans e1, (hq.cell (p := ⟨wr.heap.size, 2, none⟩) g0).trans e2, (hq.cell (p := ⟨wr.heap.size, 3, none⟩) g0).trans e3, (hq.cell (p := ⟨b3, off3 + i * 4, none⟩) g3).trans p0, (hq.cell (p := ⟨b3, off3 + i * 4 + 1, none⟩) g3).trans p1, (hq.cell (p := ⟨b3, off3 + i * 4 + 2, none⟩) g3).trans p2, (hq.cell (p := ⟨b3, off3 + i * 4 + 3, none⟩) g3).trans p3, hq⟩ (fun hHeld => ?_)
                  clear hq hb hK K
                  try simp only [Act.put, List.setIfInBounds_toArray, List.set_cons_zero, List.set_cons_succ]
                  first
                    | (refine heldK_skip 6 36 rfl (by kernel_rfl) (by kernel_rfl) (by kernel_rfl) rfl (fun _ _ _ h => h) (by rfl) (by assumption) ?_)
                    | (refine heldK_take 6 36 ?vv27 rfl (by kernel_rfl) (by kernel_rfl) (by kernel_rfl) rfl (fun _ _ _ h => h) (by rfl) ?hy27 (by assumption) ?rest27
                       case hy27 => (intro w hSw; (try dsimp only at hSw); go_simp; try with_reducible rfl))
                  try simp only [Act.put, List.setIfInBounds_toArray, List.set_cons_zero, List.set_cons_succ]
                  first
                    | (refine heldK_skip 7 37 rfl (by kernel_rfl) (by kernel_rfl) (by kernel_rfl) rfl (fun _ _ _ h => h) (by rfl) (by assumption) ?_)
                    | (refine heldK_take 7 37 ?vv28 rfl (by kernel_rfl) (by kernel_rfl) (by kernel_rfl) rfl (fun _ _ _ h => h) (by rfl) ?hy28 (by assumption) ?rest28
                       case hy28 => (intro w hSw; (try dsimp only at hSw); go_simp; try with_reducible rfl))
                  try simp only [Act.put, List.setIfInBounds_toArray, List.set_cons_zero, List.set_cons_succ]
                  first
                    | (refine heldK_skip 8 38 rfl (by kernel_rfl) (by kernel_rfl) (by kernel_rfl) rfl (fun _ _ _ h => h) (by rfl) (by assumption) ?_)
                    | (refine heldK_take 8 38 ?vv29 rfl (by kernel_rfl) (by kernel_rfl) (by kernel_rfl) rfl (fun _ _ _ h => h) (by rfl) ?hy29 (by assumption) ?rest29
                       case hy29 => (intro w hSw; (try dsimp only at hSw); go_simp; try with_reducible rfl))
                  try simp only [Act.put, List.setIfInBounds_toArray, List.set_cons_zero, List.set_cons_succ]
                  refine wpAnyH_ready (rs := [9]) (by kernel_rfl) (by simp) ?_
                  refine AllReadyH.cons rfl (fun K hK => ?_) AllReadyH.nil
                  go_simp
                  refine (ContainsPage_any _ M uc (pgN zs (innC zs (outC zs i) s k)) x _ (by rw [pgN_len]; exact HM.out.symm) (by omega) (rd_step HRW.out hHeld.2.2.2.2.2.2.2.2)).mono ?_
                  rintro e w3 ⟨rfl, hb⟩
                  rw [show hasP (pgN zs (innC zs (outC zs i) s k)) x = false from by rw [hasP_eq H1.out HOK.out.2 HX.out]; exact HQ2.out]
                  go_wp2_with fail
                  have hq := Below.trans hHeld.2.2.2.2.2.2.2.2 (Below.mono hb hHeld.2.2.2.2.2.2.2.2.size)
                  refine hK.out _ _ ⟨(hq.cell (p := ⟨wr.heap.size, 0, none⟩) g0).trans e0, (hq.cell (p := ⟨wr.heap.size, 1, none⟩) g0).trans e1, (hq.cell (p := ⟨wr.heap.size, 2, none⟩) g0).trans e2, (hq.cell (p := ⟨wr.heap.size, 3, none⟩) g0).trans e3, (hq.cell (p := ⟨b3, off3 + i * 4, none⟩) g3).trans p0, (hq.cell (p := ⟨b3, off3 + i * 4 + 1, none⟩) g3).trans p1, (hq.cell (p := ⟨b3, off3 + i * 4 + 2, none⟩) g3).trans p2, (hq.cell (p := ⟨b3, off3 + i * 4 + 3, none⟩) g3).trans p3, hq⟩ (fun hHeld => ?_)
                  clear hq hb hK K
                  try simp only [Act.put, List.setIfInBounds_toArray, List.set_cons_zero, List.set_cons_succ]
                  first
                    | (refine heldK_skip 10 40 rfl (by kernel_rfl) (by kernel_rfl) (by kernel_rfl) rfl (fun _ _ _ h => h) (by rfl) (by assumption) ?_)
                    | (refine heldK_take 10 40 ?vv30 rfl (by kernel_rfl) (by kernel_rfl) (by kernel_rfl) rfl (fun _ _ _ h => h) (by rfl) ?hy30 (by assumption) ?rest30
                       case hy30 => (intro w hSw; (try dsimp only at hSw); go_simp; try with_reducible rfl))
                  try simp only [Act.put, List.setIfInBounds_toArray, List.set_cons_zero, List.set_cons_succ]
                  first
                    | (refine heldK_skip 11 41 rfl (by kernel_rfl) (by kernel_rfl) (by kernel_rfl) rfl (fun _ _ _ h => h) (by rfl) (by assumption) ?_)
                    | (refine heldK_take 11 41 ?vv31 rfl (by kernel_rfl) (by kernel_rfl) (by kernel_rfl) rfl (fun _ _ _ h => h) (by rfl) ?hy31 (by assumption) ?rest31
                       case hy31 => (intro w hSw; (try dsimp only at hSw); go_simp; try with_reducible rfl))
                  try simp only [Act.put, List.setIfInBounds_toArray, List.set_cons_zero, List.set_cons_succ]
                  refine wpAnyH_done (by kernel_rfl) ?_ _
                  have HBK := hide hHeld.2.2.2.2.2.2.2.2
                  clear hHeld
                  have HBX := hide (bl_step HBW.out HBK.out)
                  have HOX := hide (own_step HOW.out HBK.out)
                  have x0' := (HBK.out.cell (p := ⟨wr.heap.size, 0, none⟩) g0).trans e0
                  have x1' := (HBK.out.cell (p := ⟨wr.heap.size, 1, none⟩) g0).trans e1
                  have x2' := (HBK.out.cell (p := ⟨wr.heap.size, 2, none⟩) g0).trans e2
                  have x3' := (HBK.out.cell (p := ⟨wr.heap.size, 3, none⟩) g0).trans e3
                  have hsz := HBX.out.size
                  clear e0 e1 e2 e3 p0 p1 p2 p3
                  obtain ⟨hi, hz0', hz1, hz2⟩ := HI.out
                  go_wp2_with (at_builtin; refine wpList_append_own _ rfl _ _ 26 rfl w.heap.size 58 i0 (.agg #[.int .i64 0, .int .i64 0, .int .i64 0, .int .i64 0]) 4 32 Tryd.underlying26 hi hz0' hz1 hz2 rfl (by decide) _ M _ rfl (HOX.out.alloc _) ⟨w3.heap.size, 0, none⟩ 1 1 [.int .i64 x.n, .int .i64 x.r, .int .i64 x.c, .int .i64 x.l] rfl rfl ?c1 ?c2 ?c3 ?c4 ?c5 ?_)
                  case c1 => exact news_at #[.int .i64 x.n, .int .i64 x.r, .int .i64 x.c, .int .i64 x.l]
                  case c2 => intro u hu; simp only [List.mem_cons, List.not_mem_nil, or_false] at hu; rcases hu with rfl | rfl | rfl | rfl <;> rfl
                  case c3 => unfold maxLen; omega
                  case c4 => omega
                  case c5 => simp; omega
                  intro v' w4 hown' hgrow _
                  have HB4 := hide (bl_grown (HBX.out.alloc HBX.out.size _) (HOX.out.alloc _) (Nat.le_refl _) hgrow)
                  have HO4 := hide hown'
                  clear hown' hgrow hi hz0' hz1 hz2
                  go_wp2
                  go_roundg (n - (k + 1))
                  case measure => omega
                  case rel => exact ⟨k + 1, by omega, by omega, by go_num, HB4.out, by rw [innC, HST.out, pg_snoc, flat_snoc, List.length_append, ← HM.out, HXB.out]; exact HO4.out⟩
            · have hge : ¬ (k : Int) < (n : Int) := by omega
              obtain rfl : k = n := by omega
              have HF : Hid (outC zs (i + 1) = innC zs (outC zs i) s k) := hide (by rw [HGO.out, HZ.out])
              go_wp2
              go_roundg (k - i)
              case measure => omega
              case rel => exact ⟨i + 1, by omega, by omega, by go_num, by rw [HF.out, ← HM.out]; omega, BW2.out, by rw [HF.out, ← HM.out]; exact HO2.out⟩
        · have hge : ¬ (i : Int) < (L : Int) := by omega
          have HE := hide (out_end hz0 (by rw [HZ.out]; exact hin) (by rw [← HL.out]; exact hlt))
          have HV : Hid (oneC zs = decide (L = n)) := hide (by unfold oneC; rw [HE.out, ← HL.out, HZ.out])
          by_cases hLn2 : L = n
          · have HV1 : Hid (oneV zs = true) := hide (by rw [HO.out, HV.out]; simpa using hLn2)
            have e3 : decide (L = n) = true := by simpa using hLn2
            have e4 : ((L : Int) == (n : Int)) = true := by simp [hLn2]
            clear HV HO
            subst hLn2
            go_wp2
            go_ret2
            exact ⟨ret_bb (by first | exact HV1.out.symm | (rw [HV1.out]; rfl) | (rw [HV1.out]; simp)) rfl, BW.out⟩
          · have e1 : decide (L = n) = false := by simpa using hLn2
            have e2 : ¬ (L : Int) = (n : Int) := by omega
            have e5 : ((L : Int) == (n : Int)) = false := by simpa using e2
            have HV2 : Hid (oneV zs = false) := hide (by rw [HO.out, HV.out]; exact e1)
            clear HV HO
            go_wp2
            go_ret2
            exact ⟨ret_bb (by first | exact HV2.out.symm | (rw [HV2.out]; rfl) | (rw [HV2.out]; simp; omega)) rfl, BW.out⟩

end Go.Proofs.YtdgalehipgdhiaaDoor
