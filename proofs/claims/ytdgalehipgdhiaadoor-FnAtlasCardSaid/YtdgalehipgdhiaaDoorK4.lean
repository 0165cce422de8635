/- IsOneCountry: the reference. -/
import Derived.Test.YtdgalehipgdhiaaDoorK2
import Derived.Test.YtdgalehipgdhiaaDoorKH
import Derived.Test.YtdgalehipgdhiaaDoorA11g
import Derived.Deep.RegionWith
namespace Go.Proofs.YtdgalehipgdhiaaDoor
open Go.RowKit
set_option linter.unusedVariables false
set_option linter.unusedSimpArgs false

set_option maxRecDepth 100000 in
set_option maxHeartbeats 4000000 in
theorem sIsOneCountry_any (ao : Option Addr) (n c : Nat) (zs : List Pg) (w : World) (hz : zs.length = n) (hn : n ≤ 1048576) (hr : Rd encPg 4 w.heap.size w ao zs) (hnc : n ≤ c) :
    Calls Tryd.prog 19 #[.slice ao n c] w fun e w' => e = .returned (.tuple #[.bool (oneV zs), .bool (atlasB zs)]) ∧ Below w.heap.size w w' := by
  have HZ := hide hz
  have HR := hide hr
  have HA := hide (l13GoodC_any ao n c zs hnc w hz hn hr)
  clear hz hr
  cases h1 : atlasB zs with
  | false =>
    have HO : Hid (oneV zs = false) := hide (by unfold oneV; rw [h1]; rfl)
    have H1 := hide h1
    clear h1
    go_enter Tryd.func19, Tryd.ntmps19
    go_wp2_with fail
    refine HA.out.mono ?_
    rintro e w1 ⟨rfl, hb⟩
    rw [H1.out]
    have HB := hide hb
    clear hb
    go_wp2
    go_ret2
    exact ⟨ret_bb HO.out.symm rfl, HB.out⟩
  | true =>
    have H1 := hide h1
    have H12 : Hid (zs.length ≤ 12) := hide (by unfold atlasB at h1; simp only [Bool.and_eq_true, decide_eq_true_eq] at h1; exact h1.2)
    have h12 : n ≤ 12 := by have := H12.out; rw [HZ.out] at this; exact this
    clear h1
    go_enter Tryd.func19, Tryd.ntmps19
    go_wp2_with fail
    refine HA.out.mono ?_
    rintro e w1 ⟨rfl, hb⟩
    rw [H1.out]
    have HB := hide hb
    clear hb HA
    by_cases hn0 : n = 0
    · subst hn0
      have HO : Hid (oneV zs = false) := hide (by have := List.eq_nil_of_length_eq_zero HZ.out; subst this; unfold oneV; simp)
      go_wp2
      go_ret2
      exact ⟨ret_bb HO.out.symm rfl, HB.out⟩
    · have hnp : 0 < n := by omega
      have hz0 : 0 < zs.length := by rw [HZ.out]; exact hnp
      have HO : Hid (oneV zs = oneC zs) := hide (by unfold oneV; rw [H1.out]; cases zs with | nil => simp at hz0 | cons _ _ => rfl)
      have hn1 : ¬ (n : Int) = 0 := by omega
      have hn2 : decide (n = 0) = false := by simpa using hn0
      have hn3 : ((n : Int) == 0) = false := by simpa using hn1
      clear hn0
      obtain ⟨i0, hi, hz0', hz1, hz2⟩ := info_parts infoI
      have HI := hide (And.intro hi (And.intro hz0' (And.intro hz1 hz2)))
      clear hi hz0' hz1 hz2
      go_wp2_with fail
      go_loopg [4, 5] (n + 1) (fun gk v j wr => ∃ i : Nat, i ≤ n ∧ n - i < gk ∧ j = .int .i64 (i : Int) ∧ i ≤ (outC zs i).length ∧ Aside (Below w.heap.size w wr) ∧ Aside (wr.ownsRow w.heap.size 3 1 v (outC zs i).length ((numN (outC zs i)).flatMap encI)))
      case atStart => exact ⟨0, by omega, by omega, rfl, by omega, HB.out.alloc HB.out.size _, by simp only [outC, numN, List.map_cons, List.map_nil]; exact own_lit ⟨rfl, rfl⟩ HB.out.size⟩
      case round =>
        obtain ⟨i, hin, hgk, rfl, hil, BW, OW⟩ := hrel
        obtain ⟨L, hL⟩ : ∃ L, L = (outC zs i).length := ⟨_, rfl⟩
        have ho := OW.out
        rw [← hL] at ho hil
        have HL := hide hL
        have hLn : L ≤ n := by have := okS_len (out_ok hz0 i); rw [HZ.out, ← hL] at this; exact this
        obtain ⟨vo, vc, rfl, hvc, _, _⟩ := own_rd encI_len ho (by rw [numN_len]; exact hL.symm)
        have HOO := hide ho
        clear OW ho hL
        by_cases hlt : i < L
        · have hlti : (i : Int) < (L : Int) := by omega
          have hi0 : (0 : Int) ≤ (i : Int) := by omega
          obtain ⟨s, hs⟩ : ∃ s, (outC zs i)[i]? = some s := ⟨_, List.getElem?_eq_getElem (by rw [← HL.out]; exact hlt)⟩
          have hsn : s < n := by have := (out_ok hz0 i).2 s (List.mem_of_getElem? hs); rw [HZ.out] at this; exact this
          have HGO := hide (out_go (by rw [← HL.out]; exact hlt) hs)
          have HINC := hide (out_inc (by rw [← HL.out]; exact hlt) hs)
          have HS := hide hs
          have hin2 : i < n := by omega
          clear hs
          obtain ⟨v0, hv0⟩ : ∃ v0 : World, v0 = wr := ⟨_, rfl⟩
          subst hv0
          go_wp2_with fail
          go_loopg [4, 6] n (fun gk v j wr => ∃ k : Nat, k ≤ n ∧ n - k ≤ gk ∧ j = .int .i64 (k : Int) ∧ Aside (Below w.heap.size w wr) ∧ Aside (wr.ownsRow w.heap.size 3 1 v (innC zs (outC zs i) s k).length ((numN (innC zs (outC zs i) s k)).flatMap encI)))
          case atStart => exact ⟨0, Nat.zero_le _, by omega, rfl, BW.out, by simp only [innC]; rw [← HL.out]; exact HOO.out⟩
          case round =>
            obtain ⟨k, hk, hgk2, rfl, BW2, OW⟩ := hrel
            obtain ⟨M, hM⟩ : ∃ M, M = (innC zs (outC zs i) s k).length := ⟨_, rfl⟩
            have ho := OW.out
            rw [← hM] at ho
            have HM := hide hM
            have HOK := hide (inn_ok (s := s) (out_ok hz0 i) k (by rw [HZ.out]; exact hk))
            have hMn : M ≤ n := by have := okS_len HOK.out; rw [HZ.out, ← hM] at this; exact this
            have hLM : L ≤ M := by obtain ⟨t, ht⟩ := inn_pre zs (outC zs i) s k; rw [hM, ht, List.length_append, ← HL.out]; omega
            have HSI : Hid ((innC zs (outC zs i) s k)[i]? = some s) := hide (by obtain ⟨t, ht⟩ := inn_pre zs (outC zs i) s k; rw [ht, List.getElem?_append_left (by rw [← HL.out]; exact hlt)]; exact HS.out)
            obtain ⟨uo, uc, rfl, huc, _, hru⟩ := own_rd encI_len ho (by rw [numN_len]; exact hM.symm)
            have HO2 := hide ho
            have HRU := hide hru
            clear OW ho hM hru
            by_cases hltk : k < n
            · have hltk1 : (k : Int) < (n : Int) := by omega
              have hk0 : (0 : Int) ≤ (k : Int) := by omega
              have hiM : i < M := by omega
              have hiM1 : (i : Int) < (M : Int) := by omega
              obtain ⟨b, off, rfl, hb1, hat⟩ := rdPg HR.out (by rw [HZ.out]; exact hnp)
              obtain ⟨x, hx, hxc⟩ := hat k (by rw [HZ.out]; exact hltk)
              obtain ⟨y, hy, hyc⟩ := hat s (by rw [HZ.out]; exact hsn)
              have HX := hide hx
              have HAX := hide (atlas_at H1.out hx)
              have HAY := hide (atlas_at H1.out hy)
              have HXB := hide (getB hx)
              have HYB := hide (getB hy)
              obtain ⟨W, hW⟩ : ∃ W, W = wr := ⟨_, rfl⟩
              subst hW
              obtain ⟨g0, c0, c1, c2, c3⟩ := hxc W BW2.out
              obtain ⟨g1, d0, d1, d2, d3⟩ := hyc W BW2.out
              obtain ⟨b3, off3, rfl, hb3, hat3⟩ := rdI HRU.out (by rw [numN_len, ← HM.out]; omega)
              obtain ⟨q, hq0, hqc⟩ := hat3 i (by rw [numN_len, ← HM.out]; exact hiM)
              obtain rfl : q = (s : Int) := by unfold numN at hq0; rw [List.getElem?_map, HSI.out, Option.map_some] at hq0; injection hq0 with hq0; exact hq0.symm
              obtain ⟨g3, p0⟩ := hqc W (Below.refl _ _)
              clear hx hxc hat hy hyc hq0 hqc hat3
              have hs1 : (s : Int) < (n : Int) := by omega
              have hs0 : (0 : Int) ≤ (s : Int) := by omega
              go_wp2_with fail
              cases hq : besB zs[s]! zs[k]! with
              | false =>
                have HQ := hide hq
                have HST := hide (stp_no1 (seen := innC zs (outC zs i) s k) hq)
                clear hq
                refine wp_region_held_drew (S := fun w' => w'.cell? ⟨b3, off3 + i, none⟩ = some (.int .i64 (s : Int)) ∧ w'.cell? ⟨b, off + s * 4, none⟩ = some (.int .i64 y.n) ∧ w'.cell? ⟨b, off + s * 4 + 1, none⟩ = some (.int .i64 y.r) ∧ w'.cell? ⟨b, off + s * 4 + 2, none⟩ = some (.int .i64 y.c) ∧ w'.cell? ⟨b, off + s * 4 + 3, none⟩ = some (.int .i64 y.l) ∧ w'.cell? ⟨b, off + k * 4, none⟩ = some (.int .i64 x.n) ∧ w'.cell? ⟨b, off + k * 4 + 1, none⟩ = some (.int .i64 x.r) ∧ w'.cell? ⟨b, off + k * 4 + 2, none⟩ = some (.int .i64 x.c) ∧ w'.cell? ⟨b, off + k * 4 + 3, none⟩ = some (.int .i64 x.l) ∧ Below W.heap.size W w') (by kernel_rfl) ⟨p0, d0, d1, d2, d3, c0, c1, c2, c3, (Below.refl _ _).drew⟩ (fun hHeld => ?_)
                first
                  | (refine heldK_skip 0 26 rfl (by kernel_rfl) (by kernel_rfl) (by kernel_rfl) rfl (fun _ _ _ h => h) (by rfl) (by assumption) ?_)
                  | (refine heldK_take 0 26 ?vv32 rfl (by kernel_rfl) (by kernel_rfl) (by kernel_rfl) rfl (fun _ _ _ h => h) (by rfl) ?hy32 (by assumption) ?rest32
                     case hy32 => (intro w hSw; (try dsimp only at hSw); go_simp; try with_reducible rfl))
                try simp only [Act.put, List.setIfInBounds_toArray, List.set_cons_zero, List.set_cons_succ]
                first
                  | (refine heldK_skip 1 27 rfl (by kernel_rfl) (by kernel_rfl) (by kernel_rfl) rfl (fun _ _ _ h => h) (by rfl) (by assumption) ?_)
                  | (refine heldK_take 1 27 ?vv33 rfl (by kernel_rfl) (by kernel_rfl) (by kernel_rfl) rfl (fun _ _ _ h => h) (by rfl) ?hy33 (by assumption) ?rest33
                     case hy33 => (intro w hSw; (try dsimp only at hSw); go_simp; try with_reducible rfl))
                try simp only [Act.put, List.setIfInBounds_toArray, List.set_cons_zero, List.set_cons_succ]
                first
                  | (refine heldK_skip 2 28 rfl (by kernel_rfl) (by kernel_rfl) (by kernel_rfl) rfl (fun _ _ _ h => h) (by rfl) (by assumption) ?_)
                  | (refine heldK_take 2 28 ?vv34 rfl (by kernel_rfl) (by kernel_rfl) (by kernel_rfl) rfl (fun _ _ _ h => h) (by rfl) ?hy34 (by assumption) ?rest34
                     case hy34 => (intro w hSw; (try dsimp only at hSw); go_simp; try with_reducible rfl))
                try simp only [Act.put, List.setIfInBounds_toArray, List.set_cons_zero, List.set_cons_succ]
                first
                  | (refine heldK_skip 3 29 rfl (by kernel_rfl) (by kernel_rfl) (by kernel_rfl) rfl (fun _ _ _ h => h) (by rfl) (by assumption) ?_)
                  | (refine heldK_take 3 29 ?vv35 rfl (by kernel_rfl) (by kernel_rfl) (by kernel_rfl) rfl (fun _ _ _ h => h) (by rfl) ?hy35 (by assumption) ?rest35
                     case hy35 => (intro w hSw; (try dsimp only at hSw); go_simp; try with_reducible rfl))
                try simp only [Act.put, List.setIfInBounds_toArray, List.set_cons_zero, List.set_cons_succ]
                first
                  | (refine heldK_skip 4 30 rfl (by kernel_rfl) (by kernel_rfl) (by kernel_rfl) rfl (fun _ _ _ h => h) (by rfl) (by assumption) ?_)
                  | (refine heldK_take 4 30 ?vv36 rfl (by kernel_rfl) (by kernel_rfl) (by kernel_rfl) rfl (fun _ _ _ h => h) (by rfl) ?hy36 (by assumption) ?rest36
                     case hy36 => (intro w hSw; (try dsimp only at hSw); go_simp; try with_reducible rfl))
                try simp only [Act.put, List.setIfInBounds_toArray, List.set_cons_zero, List.set_cons_succ]
                first
                  | (refine heldK_skip 5 31 rfl (by kernel_rfl) (by kernel_rfl) (by kernel_rfl) rfl (fun _ _ _ h => h) (by rfl) (by assumption) ?_)
                  | (refine heldK_take 5 31 ?vv37 rfl (by kernel_rfl) (by kernel_rfl) (by kernel_rfl) rfl (fun _ _ _ h => h) (by rfl) ?hy37 (by assumption) ?rest37
                     case hy37 => (intro w hSw; (try dsimp only at hSw); go_simp; try with_reducible rfl))
                try simp only [Act.put, List.setIfInBounds_toArray, List.set_cons_zero, List.set_cons_succ]
                first
                  | (refine heldK_skip 6 32 rfl (by kernel_rfl) (by kernel_rfl) (by kernel_rfl) rfl (fun _ _ _ h => h) (by rfl) (by assumption) ?_)
                  | (refine heldK_take 6 32 ?vv38 rfl (by kernel_rfl) (by kernel_rfl) (by kernel_rfl) rfl (fun _ _ _ h => h) (by rfl) ?hy38 (by assumption) ?rest38
                     case hy38 => (intro w hSw; (try dsimp only at hSw); go_simp; try with_reducible rfl))
                try simp only [Act.put, List.setIfInBounds_toArray, List.set_cons_zero, List.set_cons_succ]
                first
                  | (refine heldK_skip 7 33 rfl (by kernel_rfl) (by kernel_rfl) (by kernel_rfl) rfl (fun _ _ _ h => h) (by rfl) (by assumption) ?_)
                  | (refine heldK_take 7 33 ?vv39 rfl (by kernel_rfl) (by kernel_rfl) (by kernel_rfl) rfl (fun _ _ _ h => h) (by rfl) ?hy39 (by assumption) ?rest39
                     case hy39 => (intro w hSw; (try dsimp only at hSw); go_simp; try with_reducible rfl))
                try simp only [Act.put, List.setIfInBounds_toArray, List.set_cons_zero, List.set_cons_succ]
                first
                  | (refine heldK_skip 8 34 rfl (by kernel_rfl) (by kernel_rfl) (by kernel_rfl) rfl (fun _ _ _ h => h) (by rfl) (by assumption) ?_)
                  | (refine heldK_take 8 34 ?vv40 rfl (by kernel_rfl) (by kernel_rfl) (by kernel_rfl) rfl (fun _ _ _ h => h) (by rfl) ?hy40 (by assumption) ?rest40
                     case hy40 => (intro w hSw; (try dsimp only at hSw); go_simp; try with_reducible rfl))
                try simp only [Act.put, List.setIfInBounds_toArray, List.set_cons_zero, List.set_cons_succ]
                first
                  | (refine heldK_skip 9 35 rfl (by kernel_rfl) (by kernel_rfl) (by kernel_rfl) rfl (fun _ _ _ h => h) (by rfl) (by assumption) ?_)
                  | (refine heldK_take 9 35 ?vv41 rfl (by kernel_rfl) (by kernel_rfl) (by kernel_rfl) rfl (fun _ _ _ h => h) (by rfl) ?hy41 (by assumption) ?rest41
                     case hy41 => (intro w hSw; (try dsimp only at hSw); go_simp; try with_reducible rfl))
                try simp only [Act.put, List.setIfInBounds_toArray, List.set_cons_zero, List.set_cons_succ]
                first
                  | (refine heldK_skip 10 36 rfl (by kernel_rfl) (by kernel_rfl) (by kernel_rfl) rfl (fun _ _ _ h => h) (by rfl) (by assumption) ?_)
                  | (refine heldK_take 10 36 ?vv42 rfl (by kernel_rfl) (by kernel_rfl) (by kernel_rfl) rfl (fun _ _ _ h => h) (by rfl) ?hy42 (by assumption) ?rest42
                     case hy42 => (intro w hSw; (try dsimp only at hSw); go_simp; try with_reducible rfl))
                try simp only [Act.put, List.setIfInBounds_toArray, List.set_cons_zero, List.set_cons_succ]
                refine wpAnyH_ready (rs := [11]) (by kernel_rfl) (by simp) ?_
                refine AllReadyH.cons rfl (fun K hK => ?_) AllReadyH.nil
                go_simp
                refine (l13Beside_any y x HAY.out HAX.out _).mono ?_
                rintro e w2 ⟨rfl, hb⟩
                rw [show besB y x = false from by rw [← HXB.out, ← HYB.out]; exact HQ.out]
                go_wp2_with fail
                have hq := Below.trans hHeld.2.2.2.2.2.2.2.2.2 (Below.mono hb hHeld.2.2.2.2.2.2.2.2.2.size)
                refine hK.out _ _ ⟨(hq.cell (p := ⟨b3, off3 + i, none⟩) g3).trans p0, (hq.cell (p := ⟨b, off + s * 4, none⟩) g1).trans d0, (hq.cell (p := ⟨b, off + s * 4 + 1, none⟩) g1).trans d1, (hq.cell (p := ⟨b, off + s * 4 + 2, none⟩) g1).trans d2, (hq.cell (p := ⟨b, off + s * 4 + 3, none⟩) g1).trans d3, (hq.cell (p := ⟨b, off + k * 4, none⟩) g0).trans c0, (hq.cell (p := ⟨b, off + k * 4 + 1, none⟩) g0).trans c1, (hq.cell (p := ⟨b, off + k * 4 + 2, none⟩) g0).trans c2, (hq.cell (p := ⟨b, off + k * 4 + 3, none⟩) g0).trans c3, hq⟩ (fun hHeld => ?_)
                clear hq hb hK K
                try simp only [Act.put, List.setIfInBounds_toArray, List.set_cons_zero, List.set_cons_succ]
                first
                  | (refine heldK_skip 12 38 rfl (by kernel_rfl) (by kernel_rfl) (by kernel_rfl) rfl (fun _ _ _ h => h) (by rfl) (by assumption) ?_)
                  | (refine heldK_take 12 38 ?vv43 rfl (by kernel_rfl) (by kernel_rfl) (by kernel_rfl) rfl (fun _ _ _ h => h) (by rfl) ?hy43 (by assumption) ?rest43
                     case hy43 => (intro w hSw; (try dsimp only at hSw); go_simp; try with_reducible rfl))
                try simp only [Act.put, List.setIfInBounds_toArray, List.set_cons_zero, List.set_cons_succ]
                first
                  | (refine heldK_skip 13 39 rfl (by kernel_rfl) (by kernel_rfl) (by kernel_rfl) rfl (fun _ _ _ h => h) (by rfl) (by assumption) ?_)
                  | (refine heldK_take 13 39 ?vv44 rfl (by kernel_rfl) (by kernel_rfl) (by kernel_rfl) rfl (fun _ _ _ h => h) (by rfl) ?hy44 (by assumption) ?rest44
                     case hy44 => (intro w hSw; (try dsimp only at hSw); go_simp; try with_reducible rfl))
                try simp only [Act.put, List.setIfInBounds_toArray, List.set_cons_zero, List.set_cons_succ]
                first
                  | (refine heldK_skip 14 40 rfl (by kernel_rfl) (by kernel_rfl) (by kernel_rfl) rfl (fun _ _ _ h => h) (by rfl) (by assumption) ?_)
                  | (refine heldK_take 14 40 ?vv45 rfl (by kernel_rfl) (by kernel_rfl) (by kernel_rfl) rfl (fun _ _ _ h => h) (by rfl) ?hy45 (by assumption) ?rest45
                     case hy45 => (intro w hSw; (try dsimp only at hSw); go_simp; try with_reducible rfl))
                try simp only [Act.put, List.setIfInBounds_toArray, List.set_cons_zero, List.set_cons_succ]
                first
                  | (refine heldK_skip 15 41 rfl (by kernel_rfl) (by kernel_rfl) (by kernel_rfl) rfl (fun _ _ _ h => h) (by rfl) (by assumption) ?_)
                  | (refine heldK_take 15 41 ?vv46 rfl (by kernel_rfl) (by kernel_rfl) (by kernel_rfl) rfl (fun _ _ _ h => h) (by rfl) ?hy46 (by assumption) ?rest46
                     case hy46 => (intro w hSw; (try dsimp only at hSw); go_simp; try with_reducible rfl))
                try simp only [Act.put, List.setIfInBounds_toArray, List.set_cons_zero, List.set_cons_succ]
                first
                  | (refine heldK_skip 16 42 rfl (by kernel_rfl) (by kernel_rfl) (by kernel_rfl) rfl (fun _ _ _ h => h) (by rfl) (by assumption) ?_)
                  | (refine heldK_take 16 42 ?vv47 rfl (by kernel_rfl) (by kernel_rfl) (by kernel_rfl) rfl (fun _ _ _ h => h) (by rfl) ?hy47 (by assumption) ?rest47
                     case hy47 => (intro w hSw; (try dsimp only at hSw); go_simp; try with_reducible rfl))
                try simp only [Act.put, List.setIfInBounds_toArray, List.set_cons_zero, List.set_cons_succ]
                first
                  | (refine heldK_skip 17 43 rfl (by kernel_rfl) (by kernel_rfl) (by kernel_rfl) rfl (fun _ _ _ h => h) (by rfl) (by assumption) ?_)
                  | (refine heldK_take 17 43 ?vv48 rfl (by kernel_rfl) (by kernel_rfl) (by kernel_rfl) rfl (fun _ _ _ h => h) (by rfl) ?hy48 (by assumption) ?rest48
                     case hy48 => (intro w hSw; (try dsimp only at hSw); go_simp; try with_reducible rfl))
                try simp only [Act.put, List.setIfInBounds_toArray, List.set_cons_zero, List.set_cons_succ]
                refine wpAnyH_done (by kernel_rfl) ?_ _
                have HBK := hide hHeld.2.2.2.2.2.2.2.2.2
                clear hHeld
                have HBX := hide (bl_step BW2.out HBK.out)
                have HOX := hide (own_step HO2.out HBK.out)
                go_wp2
                go_roundg (n - (k + 1))
                case measure => omega
                case rel => exact ⟨k + 1, by omega, by omega, by go_num, HBX.out, by rw [innC, HST.out, ← HM.out]; exact HOX.out⟩
              | true =>
                have HQ := hide hq
                cases hq2 : (innC zs (outC zs i) s k).contains k with
                | true =>
                  have HST := hide (stp_no2 (s := s) hq2 (zs := zs))
                  have HQ2 := hide hq2
                  clear hq hq2
                  refine wp_region_held_drew (S := fun w' => w'.cell? ⟨b3, off3 + i, none⟩ = some (.int .i64 (s : Int)) ∧ w'.cell? ⟨b, off + s * 4, none⟩ = some (.int .i64 y.n) ∧ w'.cell? ⟨b, off + s * 4 + 1, none⟩ = some (.int .i64 y.r) ∧ w'.cell? ⟨b, off + s * 4 + 2, none⟩ = some (.int .i64 y.c) ∧ w'.cell? ⟨b, off + s * 4 + 3, none⟩ = some (.int .i64 y.l) ∧ w'.cell? ⟨b, off + k * 4, none⟩ = some (.int .i64 x.n) ∧ w'.cell? ⟨b, off + k * 4 + 1, none⟩ = some (.int .i64 x.r) ∧ w'.cell? ⟨b, off + k * 4 + 2, none⟩ = some (.int .i64 x.c) ∧ w'.cell? ⟨b, off + k * 4 + 3, none⟩ = some (.int .i64 x.l) ∧ Below W.heap.size W w') (by kernel_rfl) ⟨p0, d0, d1, d2, d3, c0, c1, c2, c3, (Below.refl _ _).drew⟩ (fun hHeld => ?_)
                  first
                    | (refine heldK_skip 0 26 rfl (by kernel_rfl) (by kernel_rfl) (by kernel_rfl) rfl (fun _ _ _ h => h) (by rfl) (by assumption) ?_)
                    | (refine heldK_take 0 26 ?vv49 rfl (by kernel_rfl) (by kernel_rfl) (by kernel_rfl) rfl (fun _ _ _ h => h) (by rfl) ?hy49 (by assumption) ?rest49
                       case hy49 => (intro w hSw; (try dsimp only at hSw); go_simp; try with_reducible rfl))
                  try simp only [Act.put, List.setIfInBounds_toArray, List.set_cons_zero, List.set_cons_succ]
                  first
                    | (refine heldK_skip 1 27 rfl (by kernel_rfl) (by kernel_rfl) (by kernel_rfl) rfl (fun _ _ _ h => h) (by rfl) (by assumption) ?_)
                    | (refine heldK_take 1 27 ?vv50 rfl (by kernel_rfl) (by kernel_rfl) (by kernel_rfl) rfl (fun _ _ _ h => h) (by rfl) ?hy50 (by assumption) ?rest50
                       case hy50 => (intro w hSw; (try dsimp only at hSw); go_simp; try with_reducible rfl))
                  try simp only [Act.put, List.setIfInBounds_toArray, List.set_cons_zero, List.set_cons_succ]
                  first
                    | (refine heldK_skip 2 28 rfl (by kernel_rfl) (by kernel_rfl) (by kernel_rfl) rfl (fun _ _ _ h => h) (by rfl) (by assumption) ?_)
                    | (refine heldK_take 2 28 ?vv51 rfl (by kernel_rfl) (by kernel_rfl) (by kernel_rfl) rfl (fun _ _ _ h => h) (by rfl) ?hy51 (by assumption) ?rest51
                       case hy51 => (intro w hSw; (try dsimp only at hSw); go_simp; try with_reducible rfl))
                  try simp only [Act.put, List.setIfInBounds_toArray, List.set_cons_zero, List.set_cons_succ]
                  first
                    | (refine heldK_skip 3 29 rfl (by kernel_rfl) (by kernel_rfl) (by kernel_rfl) rfl (fun _ _ _ h => h) (by rfl) (by assumption) ?_)
                    | (refine heldK_take 3 29 ?vv52 rfl (by kernel_rfl) (by kernel_rfl) (by kernel_rfl) rfl (fun _ _ _ h => h) (by rfl) ?hy52 (by assumption) ?rest52
                       case hy52 => (intro w hSw; (try dsimp only at hSw); go_simp; try with_reducible rfl))
                  try simp only [Act.put, List.setIfInBounds_toArray, List.set_cons_zero, List.set_cons_succ]
                  first
                    | (refine heldK_skip 4 30 rfl (by kernel_rfl) (by kernel_rfl) (by kernel_rfl) rfl (fun _ _ _ h => h) (by rfl) (by assumption) ?_)
                    | (refine heldK_take 4 30 ?vv53 rfl (by kernel_rfl) (by kernel_rfl) (by kernel_rfl) rfl (fun _ _ _ h => h) (by rfl) ?hy53 (by assumption) ?rest53
                       case hy53 => (intro w hSw; (try dsimp only at hSw); go_simp; try with_reducible rfl))
                  try simp only [Act.put, List.setIfInBounds_toArray, List.set_cons_zero, List.set_cons_succ]
                  first
                    | (refine heldK_skip 5 31 rfl (by kernel_rfl) (by kernel_rfl) (by kernel_rfl) rfl (fun _ _ _ h => h) (by rfl) (by assumption) ?_)
                    | (refine heldK_take 5 31 ?vv54 rfl (by kernel_rfl) (by kernel_rfl) (by kernel_rfl) rfl (fun _ _ _ h => h) (by rfl) ?hy54 (by assumption) ?rest54
                       case hy54 => (intro w hSw; (try dsimp only at hSw); go_simp; try with_reducible rfl))
                  try simp only [Act.put, List.setIfInBounds_toArray, List.set_cons_zero, List.set_cons_succ]
                  first
                    | (refine heldK_skip 6 32 rfl (by kernel_rfl) (by kernel_rfl) (by kernel_rfl) rfl (fun _ _ _ h => h) (by rfl) (by assumption) ?_)
                    | (refine heldK_take 6 32 ?vv55 rfl (by kernel_rfl) (by kernel_rfl) (by kernel_rfl) rfl (fun _ _ _ h => h) (by rfl) ?hy55 (by assumption) ?rest55
                       case hy55 => (intro w hSw; (try dsimp only at hSw); go_simp; try with_reducible rfl))
                  try simp only [Act.put, List.setIfInBounds_toArray, List.set_cons_zero, List.set_cons_succ]
                  first
                    | (refine heldK_skip 7 33 rfl (by kernel_rfl) (by kernel_rfl) (by kernel_rfl) rfl (fun _ _ _ h => h) (by rfl) (by assumption) ?_)
                    | (refine heldK_take 7 33 ?vv56 rfl (by kernel_rfl) (by kernel_rfl) (by kernel_rfl) rfl (fun _ _ _ h => h) (by rfl) ?hy56 (by assumption) ?rest56
                       case hy56 => (intro w hSw; (try dsimp only at hSw); go_simp; try with_reducible rfl))
                  try simp only [Act.put, List.setIfInBounds_toArray, List.set_cons_zero, List.set_cons_succ]
                  first
                    | (refine heldK_skip 8 34 rfl (by kernel_rfl) (by kernel_rfl) (by kernel_rfl) rfl (fun _ _ _ h => h) (by rfl) (by assumption) ?_)
                    | (refine heldK_take 8 34 ?vv57 rfl (by kernel_rfl) (by kernel_rfl) (by kernel_rfl) rfl (fun _ _ _ h => h) (by rfl) ?hy57 (by assumption) ?rest57
                       case hy57 => (intro w hSw; (try dsimp only at hSw); go_simp; try with_reducible rfl))
                  try simp only [Act.put, List.setIfInBounds_toArray, List.set_cons_zero, List.set_cons_succ]
                  first
                    | (refine heldK_skip 9 35 rfl (by kernel_rfl) (by kernel_rfl) (by kernel_rfl) rfl (fun _ _ _ h => h) (by rfl) (by assumption) ?_)
                    | (refine heldK_take 9 35 ?vv58 rfl (by kernel_rfl) (by kernel_rfl) (by kernel_rfl) rfl (fun _ _ _ h => h) (by rfl) ?hy58 (by assumption) ?rest58
                       case hy58 => (intro w hSw; (try dsimp only at hSw); go_simp; try with_reducible rfl))
                  try simp only [Act.put, List.setIfInBounds_toArray, List.set_cons_zero, List.set_cons_succ]
                  first
                    | (refine heldK_skip 10 36 rfl (by kernel_rfl) (by kernel_rfl) (by kernel_rfl) rfl (fun _ _ _ h => h) (by rfl) (by assumption) ?_)
                    | (refine heldK_take 10 36 ?vv59 rfl (by kernel_rfl) (by kernel_rfl) (by kernel_rfl) rfl (fun _ _ _ h => h) (by rfl) ?hy59 (by assumption) ?rest59
                       case hy59 => (intro w hSw; (try dsimp only at hSw); go_simp; try with_reducible rfl))
                  try simp only [Act.put, List.setIfInBounds_toArray, List.set_cons_zero, List.set_cons_succ]
                  refine wpAnyH_ready (rs := [11]) (by kernel_rfl) (by simp) ?_
                  refine AllReadyH.cons rfl (fun K hK => ?_) AllReadyH.nil
                  go_simp
                  refine (l13Beside_any y x HAY.out HAX.out _).mono ?_
                  rintro e w2 ⟨rfl, hb⟩
                  rw [show besB y x = true from by rw [← HXB.out, ← HYB.out]; exact HQ.out]
                  go_wp2_with fail
                  have hq := Below.trans hHeld.2.2.2.2.2.2.2.2.2 (Below.mono hb hHeld.2.2.2.2.2.2.2.2.2.size)
                  refine hK.out _ _ ⟨(hq.cell (p := ⟨b3, off3 + i, none⟩) g3).trans p0, (hq.cell (p := ⟨b, off + s * 4, none⟩) g1).trans d0, (hq.cell (p := ⟨b, off + s * 4 + 1, none⟩) g1).trans d1, (hq.cell (p := ⟨b, off + s * 4 + 2, none⟩) g1).trans d2, (hq.cell (p := ⟨b, off + s * 4 + 3, none⟩) g1).trans d3, (hq.cell (p := ⟨b, off + k * 4, none⟩) g0).trans c0, (hq.cell (p := ⟨b, off + k * 4 + 1, none⟩) g0).trans c1, (hq.cell (p := ⟨b, off + k * 4 + 2, none⟩) g0).trans c2, (hq.cell (p := ⟨b, off + k * 4 + 3, none⟩) g0).trans c3, hq⟩ (fun hHeld => ?_)
                  clear hq hb hK K
                  try simp only [Act.put, List.setIfInBounds_toArray, List.set_cons_zero, List.set_cons_succ]
                  first
                    | (refine heldK_skip 12 38 rfl (by kernel_rfl) (by kernel_rfl) (by kernel_rfl) rfl (fun _ _ _ h => h) (by rfl) (by assumption) ?_)
                    | (refine heldK_take 12 38 ?vv60 rfl (by kernel_rfl) (by kernel_rfl) (by kernel_rfl) rfl (fun _ _ _ h => h) (by rfl) ?hy60 (by assumption) ?rest60
                       case hy60 => (intro w hSw; (try dsimp only at hSw); go_simp; try with_reducible rfl))
                  try simp only [Act.put, List.setIfInBounds_toArray, List.set_cons_zero, List.set_cons_succ]
                  first
                    | (refine heldK_skip 13 39 rfl (by kernel_rfl) (by kernel_rfl) (by kernel_rfl) rfl (fun _ _ _ h => h) (by rfl) (by assumption) ?_)
                    | (refine heldK_take 13 39 ?vv61 rfl (by kernel_rfl) (by kernel_rfl) (by kernel_rfl) rfl (fun _ _ _ h => h) (by rfl) ?hy61 (by assumption) ?rest61
                       case hy61 => (intro w hSw; (try dsimp only at hSw); go_simp; try with_reducible rfl))
                  try simp only [Act.put, List.setIfInBounds_toArray, List.set_cons_zero, List.set_cons_succ]
                  first
                    | (refine heldK_skip 14 40 rfl (by kernel_rfl) (by kernel_rfl) (by kernel_rfl) rfl (fun _ _ _ h => h) (by rfl) (by assumption) ?_)
                    | (refine heldK_take 14 40 ?vv62 rfl (by kernel_rfl) (by kernel_rfl) (by kernel_rfl) rfl (fun _ _ _ h => h) (by rfl) ?hy62 (by assumption) ?rest62
                       case hy62 => (intro w hSw; (try dsimp only at hSw); go_simp; try with_reducible rfl))
                  try simp only [Act.put, List.setIfInBounds_toArray, List.set_cons_zero, List.set_cons_succ]
                  refine wpAnyH_ready (rs := [15]) (by kernel_rfl) (by simp) ?_
                  refine AllReadyH.cons rfl (fun K hK => ?_) AllReadyH.nil
                  go_simp
                  refine (l1Has_any _ M uc (numN (innC zs (outC zs i) s k)) (k : Int) _ (by rw [numN_len]; exact HM.out.symm) (by omega) (rd_step HRU.out hHeld.2.2.2.2.2.2.2.2.2)).mono ?_
                  rintro e w3 ⟨rfl, rfl⟩
                  have hb := Below.refl w2.heap.size w2
                  rw [show hasN (numN (innC zs (outC zs i) s k)) (k : Int) = true from by rw [hasN_eq]; exact HQ2.out]
                  go_wp2_with fail
                  have hq := Below.trans hHeld.2.2.2.2.2.2.2.2.2 (Below.mono hb hHeld.2.2.2.2.2.2.2.2.2.size)
                  refine hK.out _ _ ⟨(hq.cell (p := ⟨b3, off3 + i, none⟩) g3).trans p0, (hq.cell (p := ⟨b, off + s * 4, none⟩) g1).trans d0, (hq.cell (p := ⟨b, off + s * 4 + 1, none⟩) g1).trans d1, (hq.cell (p := ⟨b, off + s * 4 + 2, none⟩) g1).trans d2, (hq.cell (p := ⟨b, off + s * 4 + 3, none⟩) g1).trans d3, (hq.cell (p := ⟨b, off + k * 4, none⟩) g0).trans c0, (hq.cell (p := ⟨b, off + k * 4 + 1, none⟩) g0).trans c1, (hq.cell (p := ⟨b, off + k * 4 + 2, none⟩) g0).trans c2, (hq.cell (p := ⟨b, off + k * 4 + 3, none⟩) g0).trans c3, hq⟩ (fun hHeld => ?_)
                  clear hq hb hK K
                  try simp only [Act.put, List.setIfInBounds_toArray, List.set_cons_zero, List.set_cons_succ]
                  first
                    | (refine heldK_skip 16 42 rfl (by kernel_rfl) (by kernel_rfl) (by kernel_rfl) rfl (fun _ _ _ h => h) (by rfl) (by assumption) ?_)
                    | (refine heldK_take 16 42 ?vv63 rfl (by kernel_rfl) (by kernel_rfl) (by kernel_rfl) rfl (fun _ _ _ h => h) (by rfl) ?hy63 (by assumption) ?rest63
                       case hy63 => (intro w hSw; (try dsimp only at hSw); go_simp; try with_reducible rfl))
                  try simp only [Act.put, List.setIfInBounds_toArray, List.set_cons_zero, List.set_cons_succ]
                  first
                    | (refine heldK_skip 17 43 rfl (by kernel_rfl) (by kernel_rfl) (by kernel_rfl) rfl (fun _ _ _ h => h) (by rfl) (by assumption) ?_)
                    | (refine heldK_take 17 43 ?vv64 rfl (by kernel_rfl) (by kernel_rfl) (by kernel_rfl) rfl (fun _ _ _ h => h) (by rfl) ?hy64 (by assumption) ?rest64
                       case hy64 => (intro w hSw; (try dsimp only at hSw); go_simp; try with_reducible rfl))
                  try simp only [Act.put, List.setIfInBounds_toArray, List.set_cons_zero, List.set_cons_succ]
                  refine wpAnyH_done (by kernel_rfl) ?_ _
                  have HBK := hide hHeld.2.2.2.2.2.2.2.2.2
                  clear hHeld
                  have HBX := hide (bl_step BW2.out HBK.out)
                  have HOX := hide (own_step HO2.out HBK.out)
                  go_wp2
                  go_roundg (n - (k + 1))
                  case measure => omega
                  case rel => exact ⟨k + 1, by omega, by omega, by go_num, HBX.out, by rw [innC, HST.out, ← HM.out]; exact HOX.out⟩
                | false =>
                  have HST := hide (stp_yes hq hq2)
                  have HQ2 := hide hq2
                  clear hq hq2
                  refine wp_region_held_drew (S := fun w' => w'.cell? ⟨b3, off3 + i, none⟩ = some (.int .i64 (s : Int)) ∧ w'.cell? ⟨b, off + s * 4, none⟩ = some (.int .i64 y.n) ∧ w'.cell? ⟨b, off + s * 4 + 1, none⟩ = some (.int .i64 y.r) ∧ w'.cell? ⟨b, off + s * 4 + 2, none⟩ = some (.int .i64 y.c) ∧ w'.cell? ⟨b, off + s * 4 + 3, none⟩ = some (.int .i64 y.l) ∧ w'.cell? ⟨b, off + k * 4, none⟩ = some (.int .i64 x.n) ∧ w'.cell? ⟨b, off + k * 4 + 1, none⟩ = some (.int .i64 x.r) ∧ w'.cell? ⟨b, off + k * 4 + 2, none⟩ = some (.int .i64 x.c) ∧ w'.cell? ⟨b, off + k * 4 + 3, none⟩ = some (.int .i64 x.l) ∧ Below W.heap.size W w') (by kernel_rfl) ⟨p0, d0, d1, d2, d3, c0, c1, c2, c3, (Below.refl _ _).drew⟩ (fun hHeld => ?_)
                  first
                    | (refine heldK_skip 0 26 rfl (by kernel_rfl) (by kernel_rfl) (by kernel_rfl) rfl (fun _ _ _ h => h) (by rfl) (by assumption) ?_)
                    | (refine heldK_take 0 26 ?vv65 rfl (by kernel_rfl) (by kernel_rfl) (by kernel_rfl) rfl (fun _ _ _ h => h) (by rfl) ?hy65 (by assumption) ?rest65
                       case hy65 => (intro w hSw; (try dsimp only at hSw); go_simp; try with_reducible rfl))
                  try simp only [Act.put, List.setIfInBounds_toArray, List.set_cons_zero, List.set_cons_succ]
                  first
                    | (refine heldK_skip 1 27 rfl (by kernel_rfl) (by kernel_rfl) (by kernel_rfl) rfl (fun _ _ _ h => h) (by rfl) (by assumption) ?_)
                    | (refine heldK_take 1 27 ?vv66 rfl (by kernel_rfl) (by kernel_rfl) (by kernel_rfl) rfl (fun _ _ _ h => h) (by rfl) ?hy66 (by assumption) ?rest66
                       case hy66 => (intro w hSw; (try dsimp only at hSw); go_simp; try with_reducible rfl))
                  try simp only [Act.put, List.setIfInBounds_toArray, List.set_cons_zero, List.set_cons_succ]
                  first
                    | (refine heldK_skip 2 28 rfl (by kernel_rfl) (by kernel_rfl) (by kernel_rfl) rfl (fun _ _ _ h => h) (by rfl) (by assumption) ?_)
                    | (refine heldK_take 2 28 ?vv67 rfl (by kernel_rfl) (by kernel_rfl) (by kernel_rfl) rfl (fun _ _ _ h => h) (by rfl) ?hy67 (by assumption) ?rest67
                       case hy67 => (intro w hSw; (try dsimp only at hSw); go_simp; try with_reducible rfl))
                  try simp only [Act.put, List.setIfInBounds_toArray, List.set_cons_zero, List.set_cons_succ]
                  first
                    | (refine heldK_skip 3 29 rfl (by kernel_rfl) (by kernel_rfl) (by kernel_rfl) rfl (fun _ _ _ h => h) (by rfl) (by assumption) ?_)
                    | (refine heldK_take 3 29 ?vv68 rfl (by kernel_rfl) (by kernel_rfl) (by kernel_rfl) rfl (fun _ _ _ h => h) (by rfl) ?hy68 (by assumption) ?rest68
                       case hy68 => (intro w hSw; (try dsimp only at hSw); go_simp; try with_reducible rfl))
                  try simp only [Act.put, List.setIfInBounds_toArray, List.set_cons_zero, List.set_cons_succ]
                  first
                    | (refine heldK_skip 4 30 rfl (by kernel_rfl) (by kernel_rfl) (by kernel_rfl) rfl (fun _ _ _ h => h) (by rfl) (by assumption) ?_)
                    | (refine heldK_take 4 30 ?vv69 rfl (by kernel_rfl) (by kernel_rfl) (by kernel_rfl) rfl (fun _ _ _ h => h) (by rfl) ?hy69 (by assumption) ?rest69
                       case hy69 => (intro w hSw; (try dsimp only at hSw); go_simp; try with_reducible rfl))
                  try simp only [Act.put, List.setIfInBounds_toArray, List.set_cons_zero, List.set_cons_succ]
                  first
                    | (refine heldK_skip 5 31 rfl (by kernel_rfl) (by kernel_rfl) (by kernel_rfl) rfl (fun _ _ _ h => h) (by rfl) (by assumption) ?_)
                    | (refine heldK_take 5 31 ?vv70 rfl (by kernel_rfl) (by kernel_rfl) (by kernel_rfl) rfl (fun _ _ _ h => h) (by rfl) ?hy70 (by assumption) ?rest70
                       case hy70 => (intro w hSw; (try dsimp only at hSw); go_simp; try with_reducible rfl))
                  try simp only [Act.put, List.setIfInBounds_toArray, List.set_cons_zero, List.set_cons_succ]
                  first
                    | (refine heldK_skip 6 32 rfl (by kernel_rfl) (by kernel_rfl) (by kernel_rfl) rfl (fun _ _ _ h => h) (by rfl) (by assumption) ?_)
                    | (refine heldK_take 6 32 ?vv71 rfl (by kernel_rfl) (by kernel_rfl) (by kernel_rfl) rfl (fun _ _ _ h => h) (by rfl) ?hy71 (by assumption) ?rest71
                       case hy71 => (intro w hSw; (try dsimp only at hSw); go_simp; try with_reducible rfl))
                  try simp only [Act.put, List.setIfInBounds_toArray, List.set_cons_zero, List.set_cons_succ]
                  first
                    | (refine heldK_skip 7 33 rfl (by kernel_rfl) (by kernel_rfl) (by kernel_rfl) rfl (fun _ _ _ h => h) (by rfl) (by assumption) ?_)
                    | (refine heldK_take 7 33 ?vv72 rfl (by kernel_rfl) (by kernel_rfl) (by kernel_rfl) rfl (fun _ _ _ h => h) (by rfl) ?hy72 (by assumption) ?rest72
                       case hy72 => (intro w hSw; (try dsimp only at hSw); go_simp; try with_reducible rfl))
                  try simp only [Act.put, List.setIfInBounds_toArray, List.set_cons_zero, List.set_cons_succ]
                  first
                    | (refine heldK_skip 8 34 rfl (by kernel_rfl) (by kernel_rfl) (by kernel_rfl) rfl (fun _ _ _ h => h) (by rfl) (by assumption) ?_)
                    | (refine heldK_take 8 34 ?vv73 rfl (by kernel_rfl) (by kernel_rfl) (by kernel_rfl) rfl (fun _ _ _ h => h) (by rfl) ?hy73 (by assumption) ?rest73
                       case hy73 => (intro w hSw; (try dsimp only at hSw); go_simp; try with_reducible rfl))
                  try simp only [Act.put, List.setIfInBounds_toArray, List.set_cons_zero, List.set_cons_succ]
                  first
                    | (refine heldK_skip 9 35 rfl (by kernel_rfl) (by kernel_rfl) (by kernel_rfl) rfl (fun _ _ _ h => h) (by rfl) (by assumption) ?_)
                    | (refine heldK_take 9 35 ?vv74 rfl (by kernel_rfl) (by kernel_rfl) (by kernel_rfl) rfl (fun _ _ _ h => h) (by rfl) ?hy74 (by assumption) ?rest74
                       case hy74 => (intro w hSw; (try dsimp only at hSw); go_simp; try with_reducible rfl))
                  try simp only [Act.put, List.setIfInBounds_toArray, List.set_cons_zero, List.set_cons_succ]
                  first
                    | (refine heldK_skip 10 36 rfl (by kernel_rfl) (by kernel_rfl) (by kernel_rfl) rfl (fun _ _ _ h => h) (by rfl) (by assumption) ?_)
                    | (refine heldK_take 10 36 ?vv75 rfl (by kernel_rfl) (by kernel_rfl) (by kernel_rfl) rfl (fun _ _ _ h => h) (by rfl) ?hy75 (by assumption) ?rest75
                       case hy75 => (intro w hSw; (try dsimp only at hSw); go_simp; try with_reducible rfl))
                  try simp only [Act.put, List.setIfInBounds_toArray, List.set_cons_zero, List.set_cons_succ]
                  refine wpAnyH_ready (rs := [11]) (by kernel_rfl) (by simp) ?_
                  refine AllReadyH.cons rfl (fun K hK => ?_) AllReadyH.nil
                  go_simp
                  refine (l13Beside_any y x HAY.out HAX.out _).mono ?_
                  rintro e w2 ⟨rfl, hb⟩
                  rw [show besB y x = true from by rw [← HXB.out, ← HYB.out]; exact HQ.out]
                  go_wp2_with fail
                  have hq := Below.trans hHeld.2.2.2.2.2.2.2.2.2 (Below.mono hb hHeld.2.2.2.2.2.2.2.2.2.size)
                  refine hK.out _ _ ⟨(hq.cell (p := ⟨b3, off3 + i, none⟩) g3).trans p0, (hq.cell (p := ⟨b, off + s * 4, none⟩) g1).trans d0, (hq.cell (p := ⟨b, off + s * 4 + 1, none⟩) g1).trans d1, (hq.cell (p := ⟨b, off + s * 4 + 2, none⟩) g1).trans d2, (hq.cell (p := ⟨b, off + s * 4 + 3, none⟩) g1).trans d3, (hq.cell (p := ⟨b, off + k * 4, none⟩) g0).trans c0, (hq.cell (p := ⟨b, off + k * 4 + 1, none⟩) g0).trans c1, (hq.cell (p := ⟨b, off + k * 4 + 2, none⟩) g0).trans c2, (hq.cell (p := ⟨b, off + k * 4 + 3, none⟩) g0).trans c3, hq⟩ (fun hHeld => ?_)
                  clear hq hb hK K
                  try simp only [Act.put, List.setIfInBounds_toArray, List.set_cons_zero, List.set_cons_succ]
                  first
                    | (refine heldK_skip 12 38 rfl (by kernel_rfl) (by kernel_rfl) (by kernel_rfl) rfl (fun _ _ _ h => h) (by rfl) (by assumption) ?_)
                    | (refine heldK_take 12 38 ?vv76 rfl (by kernel_rfl) (by kernel_rfl) (by kernel_rfl) rfl (fun _ _ _ h => h) (by rfl) ?hy76 (by assumption) ?rest76
                       case hy76 => (intro w hSw; (try dsimp only at hSw); go_simp; try with_reducible rfl))
                  try simp only [Act.put, List.setIfInBounds_toArray, List.set_cons_zero, List.set_cons_succ]
                  first
                    | (refine heldK_skip 13 39 rfl (by kernel_rfl) (by kernel_rfl) (by kernel_rfl) rfl (fun _ _ _ h => h) (by rfl) (by assumption) ?_)
                    | (refine heldK_take 13 39 ?vv77 rfl (by kernel_rfl) (by kernel_rfl) (by kernel_rfl) rfl (fun _ _ _ h => h) (by rfl) ?hy77 (by assumption) ?rest77
                       case hy77 => (intro w hSw; (try dsimp only at hSw); go_simp; try with_reducible rfl))
                  try simp only [Act.put, List.setIfInBounds_toArray, List.set_cons_zero, List.set_cons_succ]
                  first
                    | (refine heldK_skip 14 40 rfl (by kernel_rfl) (by kernel_rfl) (by kernel_rfl) rfl (fun _ _ _ h => h) (by rfl) (by assumption) ?_)
                    | (refine heldK_take 14 40 ?vv78 rfl (by kernel_rfl) (by kernel_rfl) (by kernel_rfl) rfl (fun _ _ _ h => h) (by rfl) ?hy78 (by assumption) ?rest78
                       case hy78 => (intro w hSw; (try dsimp only at hSw); go_simp; try with_reducible rfl))
                  try simp only [Act.put, List.setIfInBounds_toArray, List.set_cons_zero, List.set_cons_succ]
                  refine wpAnyH_ready (rs := [15]) (by kernel_rfl) (by simp) ?_
                  refine AllReadyH.cons rfl (fun K hK => ?_) AllReadyH.nil
                  go_simp
                  refine (l1Has_any _ M uc (numN (innC zs (outC zs i) s k)) (k : Int) _ (by rw [numN_len]; exact HM.out.symm) (by omega) (rd_step HRU.out hHeld.2.2.2.2.2.2.2.2.2)).mono ?_
                  rintro e w3 ⟨rfl, rfl⟩
                  have hb := Below.refl w2.heap.size w2
                  rw [show hasN (numN (innC zs (outC zs i) s k)) (k : Int) = false from by rw [hasN_eq]; exact HQ2.out]
                  go_wp2_with fail
                  have hq := Below.trans hHeld.2.2.2.2.2.2.2.2.2 (Below.mono hb hHeld.2.2.2.2.2.2.2.2.2.size)
                  refine hK.out _ _ ⟨(hq.cell (p := ⟨b3, off3 + i, none⟩) g3).trans p0, (hq.cell (p := ⟨b, off + s * 4, none⟩) g1).trans d0, (hq.cell (p := ⟨b, off + s * 4 + 1, none⟩) g1).trans d1, (hq.cell (p := ⟨b, off + s * 4 + 2, none⟩) g1).trans d2, (hq.cell (p := ⟨b, off + s * 4 + 3, none⟩) g1).trans d3, (hq.cell (p := ⟨b, off + k * 4, none⟩) g0).trans c0, (hq.cell (p := ⟨b, off + k * 4 + 1, none⟩) g0).trans c1, (hq.cell (p := ⟨b, off + k * 4 + 2, none⟩) g0).trans c2, (hq.cell (p := ⟨b, off + k * 4 + 3, none⟩) g0).trans c3, hq⟩ (fun hHeld => ?_)
                  clear hq hb hK K
                  try simp only [Act.put, List.setIfInBounds_toArray, List.set_cons_zero, List.set_cons_succ]
                  first
                    | (refine heldK_skip 16 42 rfl (by kernel_rfl) (by kernel_rfl) (by kernel_rfl) rfl (fun _ _ _ h => h) (by rfl) (by assumption) ?_)
                    | (refine heldK_take 16 42 ?vv79 rfl (by kernel_rfl) (by kernel_rfl) (by kernel_rfl) rfl (fun _ _ _ h => h) (by rfl) ?hy79 (by assumption) ?rest79
                       case hy79 => (intro w hSw; (try dsimp only at hSw); go_simp; try with_reducible rfl))
                  try simp only [Act.put, List.setIfInBounds_toArray, List.set_cons_zero, List.set_cons_succ]
                  first
                    | (refine heldK_skip 17 43 rfl (by kernel_rfl) (by kernel_rfl) (by kernel_rfl) rfl (fun _ _ _ h => h) (by rfl) (by assumption) ?_)
                    | (refine heldK_take 17 43 ?vv80 rfl (by kernel_rfl) (by kernel_rfl) (by kernel_rfl) rfl (fun _ _ _ h => h) (by rfl) ?hy80 (by assumption) ?rest80
                       case hy80 => (intro w hSw; (try dsimp only at hSw); go_simp; try with_reducible rfl))
                  try simp only [Act.put, List.setIfInBounds_toArray, List.set_cons_zero, List.set_cons_succ]
                  refine wpAnyH_done (by kernel_rfl) ?_ _
                  have HBK := hide hHeld.2.2.2.2.2.2.2.2.2
                  clear hHeld
                  have HBX := hide (bl_step BW2.out HBK.out)
                  have HOX := hide (own_step HO2.out HBK.out)
                  have hsz := HBX.out.size
                  clear p0 c0 c1 c2 c3 d0 d1 d2 d3
                  obtain ⟨hi, hz0', hz1, hz2⟩ := HI.out
                  go_wp2_with (at_builtin; refine wpList_append_own _ rfl _ _ 37 rfl w.heap.size 3 i0 (.int .i64 0) 1 8 Tryd.underlying37 hi hz0' hz1 hz2 rfl (by decide) _ M _ rfl (HOX.out.alloc _) ⟨w2.heap.size, 0, none⟩ 1 1 [.int .i64 (k : Int)] rfl rfl ?c1 ?c2 ?c3 ?c4 ?c5 ?_)
                  case c1 => exact news_at #[.int .i64 (k : Int)]
                  case c2 => intro u hu; simp only [List.mem_cons, List.not_mem_nil, or_false] at hu; rcases hu with rfl; rfl
                  case c3 => unfold maxLen; omega
                  case c4 => omega
                  case c5 => simp; omega
                  intro v' w4 hown' hgrow _
                  have HB4 := hide (bl_grown (HBX.out.alloc HBX.out.size _) (HOX.out.alloc _) (Nat.le_refl _) hgrow)
                  have HO4 := hide hown'
                  clear hown' hgrow hi hz0' hz1 hz2
                  go_wp2
                  go_roundg (n - (k + 1))
                  case measure => omega
                  case rel => exact ⟨k + 1, by omega, by omega, by go_num, HB4.out, by rw [innC, HST.out, numN_snoc, flat_snoc, List.length_append, ← HM.out]; exact HO4.out⟩
            · have hge : ¬ (k : Int) < (n : Int) := by omega
              obtain rfl : k = n := by omega
              have HF : Hid (outC zs (i + 1) = innC zs (outC zs i) s k) := hide (by rw [HGO.out, HZ.out])
              go_wp2
              go_roundg (k - i)
              case measure => omega
              case rel => exact ⟨i + 1, by omega, by omega, by go_num, by rw [HF.out, ← HM.out]; omega, BW2.out, by rw [HF.out, ← HM.out]; exact HO2.out⟩
        · have hge : ¬ (i : Int) < (L : Int) := by omega
          have HE := hide (out_end hz0 (by rw [HZ.out]; exact hin) (by rw [← HL.out]; exact hlt))
          have HV : Hid (oneC zs = decide (L = n)) := hide (by unfold oneC; rw [HE.out, ← HL.out, HZ.out])
          by_cases hLn2 : L = n
          · have HV1 : Hid (oneV zs = true) := hide (by rw [HO.out, HV.out]; simpa using hLn2)
            have e3 : decide (L = n) = true := by simpa using hLn2
            have e4 : ((L : Int) == (n : Int)) = true := by simp [hLn2]
            clear HV HO
            subst hLn2
            go_wp2
            go_ret2
            exact ⟨ret_bb (by first | exact HV1.out.symm | (rw [HV1.out]; rfl) | (rw [HV1.out]; simp)) rfl, BW.out⟩
          · have e1 : decide (L = n) = false := by simpa using hLn2
            have e2 : ¬ (L : Int) = (n : Int) := by omega
            have e5 : ((L : Int) == (n : Int)) = false := by simpa using e2
            have HV2 : Hid (oneV zs = false) := hide (by rw [HO.out, HV.out]; exact e1)
            clear HV HO
            go_wp2
            go_ret2
            exact ⟨ret_bb (by first | exact HV2.out.symm | (rw [HV2.out]; rfl) | (rw [HV2.out]; simp; omega)) rfl, BW.out⟩

end Go.Proofs.YtdgalehipgdhiaaDoor
