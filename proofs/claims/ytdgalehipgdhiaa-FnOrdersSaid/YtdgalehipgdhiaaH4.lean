/- OrderedAtlas: the reference. -/
import Derived.Test.YtdgalehipgdhiaaH1
import Derived.Test.YtdgalehipgdhiaaHI
import Derived.Test.YtdgalehipgdhiaaA11g
import Derived.Deep.RegionWith
import Derived.Deep.AppendLies
namespace Go.Proofs.Ytdgalehipgdhiaa
open Go.RowKit
set_option linter.unusedVariables false
set_option linter.unusedSimpArgs false

theorem own_baseH {w : World} {b b2 n k : Nat} {e : TypeId} {v : Value} {xs : List Value} (ho : w.ownsRow b e k v n xs) (h : b2 ≤ b) : w.ownsRow b2 e k v n xs := ⟨ho.1, ho.2.imp id (fun ⟨g, cap, cur, h1, h2, r⟩ => ⟨g, cap, cur, h1, Nat.le_trans h h2, r⟩)⟩
set_option maxRecDepth 100000 in
set_option maxHeartbeats 8000000 in
theorem sOrderedAtlasC_any (ao : Option Addr) (n c : Nat) (zs : List Pg) (hcap : n ≤ c) (w : World) (hz : zs.length = n) (hn : n ≤ 1048576) (hr : Rd encPg 4 w.heap.size w ao zs) :
    Calls Try.prog 22 #[.slice ao n c] w fun e w' => ∃ v, e = .returned (.tuple #[v, .bool (atlasB zs)]) ∧ w'.ownsRow w.heap.size 48 4 v (oaV zs).length ((oaV zs).flatMap encPg) ∧ Below w.heap.size w w' := by
  have HZ := hide hz
  have HR := hide hr
  have HA := hide (l13GoodC_any ao n c zs hcap w hz hn hr)
  clear hz hr
  cases h1 : atlasB zs with
  | false =>
    have HC : Hid (oaV zs = []) := hide (by unfold oaV; rw [h1]; rfl)
    have H1 := hide h1
    clear h1
    go_enter Try.func22, Try.ntmps22
    go_wp2_with fail
    refine HA.out.mono ?_
    rintro e w1 ⟨rfl, hb⟩
    rw [H1.out]
    have HB := hide hb
    clear hb HA
    go_wp2
    go_ret2
    exact ⟨_, rfl, by rw [HC.out]; exact World.ownsRow_made _ #[] 0 HB.out.size (by simp [maxLen]) rfl, HB.out.alloc HB.out.size _⟩
  | true =>
    have HC : Hid (oaV zs = numL (sortE kyP zs)) := hide (by unfold oaV; rw [h1]; rfl)
    have h12 := atlas_12 h1
    rw [HZ.out] at h12
    have HIN := hide (atlas_in h1)
    have H1 := hide h1
    clear h1
    obtain ⟨i0, hi, hz0, hz1, hz2⟩ := info_parts infoPg
    have HI := hide (And.intro hi (And.intro hz0 (And.intro hz1 hz2)))
    clear hi hz0 hz1 hz2
    go_enter Try.func22, Try.ntmps22
    go_wp2_with fail
    refine HA.out.mono ?_
    rintro e w1 ⟨rfl, hb⟩
    rw [H1.out]
    have HB := hide hb
    have HEM : Hid ((w1.alloc (.cells #[] 48)).ownsRow w.heap.size 48 4 (.slice (some ⟨w1.heap.size, 0, none⟩) 0 0) 0 []) := hide (World.ownsRow_made w1 #[] 0 hb.size (by simp [maxLen]) rfl)
    clear hb HA
    go_wp2
    go_loopg [4, 5] n (fun gk v i wr => ∃ k g cap : Nat, k ≤ n ∧ n - k ≤ gk ∧ i = .int .i64 k ∧ v = .slice (some ⟨g, 0, none⟩) k cap ∧ k ≤ cap ∧ cap ≤ maxLen ∧ Aside (wr.ownsRow w.heap.size 48 4 (.slice (some ⟨g, 0, none⟩) k cap) k ((sortE kyP (zs.take k)).flatMap encPg)) ∧ Aside (Below w.heap.size w wr))
    case atStart => exact ⟨0, _, 0, Nat.zero_le _, by omega, rfl, rfl, Nat.le_refl _, by simp [maxLen], HEM.out, HB.out.alloc HB.out.size _⟩
    case round =>
      obtain ⟨k, g, cap, hk, hg, rfl, rfl, hNc, hcm, OW, BW⟩ := hrel
      by_cases hlt : k < n
      · have hltz : (k : Int) < (n : Int) := by omega
        obtain ⟨b, off, rfl, hb1, hat⟩ := rdPg HR.out (by rw [HZ.out]; omega)
        obtain ⟨x, hx, hxc⟩ := hat k (by rw [HZ.out]; exact hlt)
        have HXC := hide hxc
        have HXI := hide (HIN.out x (List.mem_of_getElem? hx))
        obtain ⟨ord, hord⟩ : ∃ ord, ord = sortE kyP (zs.take k) := ⟨_, rfl⟩
        have HON : Hid (ord.length = k) := hide (by rw [hord, sortE_lenk kyP _ k (by rw [HZ.out]; omega)])
        have HOI : Hid (∀ y ∈ ord, inP y) := hide (fun y hy => by
          rw [hord] at hy
          exact HIN.out y (List.mem_of_mem_take ((sortE_permk kyP zs k (by rw [HZ.out]; omega)).subset hy)))
        have HNX : Hid (sortE kyP (zs.take (k + 1)) = rowE ord x [] (refk kyP ord (kyP x) k)) := hide (by rw [sortE_succ hx, ← hord]; unfold insE; rw [HON.out])
        rw [← hord] at OW
        clear hord hx hxc hat
        go_wp2
        go_loopg [6] k (fun g2 vj wr2 => ∃ j : Nat, vj = .int .i64 j ∧ j ≤ k ∧ j ≤ g2 ∧ Aside (wr2.ownsRow w.heap.size 48 4 (.slice (some ⟨g, 0, none⟩) k cap) k (ord.flatMap encPg)) ∧ Aside (Below w.heap.size w wr2) ∧ Hid (refk kyP ord (kyP x) j = refk kyP ord (kyP x) k))
        case atStart => exact ⟨k, rfl, Nat.le_refl _, Nat.le_refl _, OW, BW, rfl⟩
        case round =>
          clear OW BW
          obtain ⟨j, rfl, hjk, hg2, OJ, BJ, HK⟩ := hrel
          obtain ⟨hbr, _, x1, x2, _⟩ := HXC.out wr BJ.out
          have kz1 : (0 : Int) ≤ (k : Int) := by omega
          cases j with
          | zero =>
            obtain ⟨j, hj⟩ : ∃ j : Nat, j = 0 := ⟨_, rfl⟩
            have HREF : Hid (refk kyP ord (kyP x) k = j) := hide (by rw [← HK.out, hj]; rfl)
            rw [← hj] at hjk
            rw [show ((0 : Nat) : Int) = (j : Int) by omega]
            have hj0' : decide (0 < j) = false := decide_eq_false (by omega)
            clear hj HK hg2 x1 x2 hbr
            obtain ⟨W, hW⟩ : ∃ W, W = wr := ⟨_, rfl⟩
            subst hW
            go_wp2_with fail
            refine wp_region_held_drew (S := fun w' => Below W.heap.size W w') (by kernel_rfl) ((Below.refl _ _).drew) (fun hHeld => ?_)
            first
              | (refine heldI_skip 0 20 rfl (by kernel_rfl) (by kernel_rfl) (by kernel_rfl) rfl (fun _ _ _ h => h) (by rfl) (by assumption) ?_)
              | (refine heldI_take 0 20 ?vv69 rfl (by kernel_rfl) (by kernel_rfl) (by kernel_rfl) rfl (fun _ _ _ h => h) (by rfl) ?hy69 (by assumption) ?rest69
                 case hy69 => (intro w hSw; (try dsimp only at hSw); go_simp; try with_reducible rfl))
            try simp only [Act.put, List.setIfInBounds_toArray, List.set_cons_zero, List.set_cons_succ]
            first
              | (refine heldI_skip 1 21 rfl (by kernel_rfl) (by kernel_rfl) (by kernel_rfl) rfl (fun _ _ _ h => h) (by rfl) (by assumption) ?_)
              | (refine heldI_take 1 21 ?vv70 rfl (by kernel_rfl) (by kernel_rfl) (by kernel_rfl) rfl (fun _ _ _ h => h) (by rfl) ?hy70 (by assumption) ?rest70
                 case hy70 => (intro w hSw; (try dsimp only at hSw); go_simp; try with_reducible rfl))
            try simp only [Act.put, List.setIfInBounds_toArray, List.set_cons_zero, List.set_cons_succ]
            first
              | (refine heldI_skip 2 22 rfl (by kernel_rfl) (by kernel_rfl) (by kernel_rfl) rfl (fun _ _ _ h => h) (by rfl) (by assumption) ?_)
              | (refine heldI_take 2 22 ?vv71 rfl (by kernel_rfl) (by kernel_rfl) (by kernel_rfl) rfl (fun _ _ _ h => h) (by rfl) ?hy71 (by assumption) ?rest71
                 case hy71 => (intro w hSw; (try dsimp only at hSw); go_simp; try with_reducible rfl))
            try simp only [Act.put, List.setIfInBounds_toArray, List.set_cons_zero, List.set_cons_succ]
            first
              | (refine heldI_skip 3 23 rfl (by kernel_rfl) (by kernel_rfl) (by kernel_rfl) rfl (fun _ _ _ h => h) (by rfl) (by assumption) ?_)
              | (refine heldI_take 3 23 ?vv72 rfl (by kernel_rfl) (by kernel_rfl) (by kernel_rfl) rfl (fun _ _ _ h => h) (by rfl) ?hy72 (by assumption) ?rest72
                 case hy72 => (intro w hSw; (try dsimp only at hSw); go_simp; try with_reducible rfl))
            try simp only [Act.put, List.setIfInBounds_toArray, List.set_cons_zero, List.set_cons_succ]
            first
              | (refine heldI_skip 4 24 rfl (by kernel_rfl) (by kernel_rfl) (by kernel_rfl) rfl (fun _ _ _ h => h) (by rfl) (by assumption) ?_)
              | (refine heldI_take 4 24 ?vv73 rfl (by kernel_rfl) (by kernel_rfl) (by kernel_rfl) rfl (fun _ _ _ h => h) (by rfl) ?hy73 (by assumption) ?rest73
                 case hy73 => (intro w hSw; (try dsimp only at hSw); go_simp; try with_reducible rfl))
            try simp only [Act.put, List.setIfInBounds_toArray, List.set_cons_zero, List.set_cons_succ]
            first
              | (refine heldI_skip 5 25 rfl (by kernel_rfl) (by kernel_rfl) (by kernel_rfl) rfl (fun _ _ _ h => h) (by rfl) (by assumption) ?_)
              | (refine heldI_take 5 25 ?vv74 rfl (by kernel_rfl) (by kernel_rfl) (by kernel_rfl) rfl (fun _ _ _ h => h) (by rfl) ?hy74 (by assumption) ?rest74
                 case hy74 => (intro w hSw; (try dsimp only at hSw); go_simp; try with_reducible rfl))
            try simp only [Act.put, List.setIfInBounds_toArray, List.set_cons_zero, List.set_cons_succ]
            first
              | (refine heldI_skip 6 26 rfl (by kernel_rfl) (by kernel_rfl) (by kernel_rfl) rfl (fun _ _ _ h => h) (by rfl) (by assumption) ?_)
              | (refine heldI_take 6 26 ?vv75 rfl (by kernel_rfl) (by kernel_rfl) (by kernel_rfl) rfl (fun _ _ _ h => h) (by rfl) ?hy75 (by assumption) ?rest75
                 case hy75 => (intro w hSw; (try dsimp only at hSw); go_simp; try with_reducible rfl))
            try simp only [Act.put, List.setIfInBounds_toArray, List.set_cons_zero, List.set_cons_succ]
            first
              | (refine heldI_skip 7 27 rfl (by kernel_rfl) (by kernel_rfl) (by kernel_rfl) rfl (fun _ _ _ h => h) (by rfl) (by assumption) ?_)
              | (refine heldI_take 7 27 ?vv76 rfl (by kernel_rfl) (by kernel_rfl) (by kernel_rfl) rfl (fun _ _ _ h => h) (by rfl) ?hy76 (by assumption) ?rest76
                 case hy76 => (intro w hSw; (try dsimp only at hSw); go_simp; try with_reducible rfl))
            try simp only [Act.put, List.setIfInBounds_toArray, List.set_cons_zero, List.set_cons_succ]
            first
              | (refine heldI_skip 8 28 rfl (by kernel_rfl) (by kernel_rfl) (by kernel_rfl) rfl (fun _ _ _ h => h) (by rfl) (by assumption) ?_)
              | (refine heldI_take 8 28 ?vv77 rfl (by kernel_rfl) (by kernel_rfl) (by kernel_rfl) rfl (fun _ _ _ h => h) (by rfl) ?hy77 (by assumption) ?rest77
                 case hy77 => (intro w hSw; (try dsimp only at hSw); go_simp; try with_reducible rfl))
            try simp only [Act.put, List.setIfInBounds_toArray, List.set_cons_zero, List.set_cons_succ]
            first
              | (refine heldI_skip 9 29 rfl (by kernel_rfl) (by kernel_rfl) (by kernel_rfl) rfl (fun _ _ _ h => h) (by rfl) (by assumption) ?_)
              | (refine heldI_take 9 29 ?vv78 rfl (by kernel_rfl) (by kernel_rfl) (by kernel_rfl) rfl (fun _ _ _ h => h) (by rfl) ?hy78 (by assumption) ?rest78
                 case hy78 => (intro w hSw; (try dsimp only at hSw); go_simp; try with_reducible rfl))
            try simp only [Act.put, List.setIfInBounds_toArray, List.set_cons_zero, List.set_cons_succ]
            first
              | (refine heldI_skip 10 30 rfl (by kernel_rfl) (by kernel_rfl) (by kernel_rfl) rfl (fun _ _ _ h => h) (by rfl) (by assumption) ?_)
              | (refine heldI_take 10 30 ?vv79 rfl (by kernel_rfl) (by kernel_rfl) (by kernel_rfl) rfl (fun _ _ _ h => h) (by rfl) ?hy79 (by assumption) ?rest79
                 case hy79 => (intro w hSw; (try dsimp only at hSw); go_simp; try with_reducible rfl))
            try simp only [Act.put, List.setIfInBounds_toArray, List.set_cons_zero, List.set_cons_succ]
            first
              | (refine heldI_skip 11 31 rfl (by kernel_rfl) (by kernel_rfl) (by kernel_rfl) rfl (fun _ _ _ h => h) (by rfl) (by assumption) ?_)
              | (refine heldI_take 11 31 ?vv80 rfl (by kernel_rfl) (by kernel_rfl) (by kernel_rfl) rfl (fun _ _ _ h => h) (by rfl) ?hy80 (by assumption) ?rest80
                 case hy80 => (intro w hSw; (try dsimp only at hSw); go_simp; try with_reducible rfl))
            try simp only [Act.put, List.setIfInBounds_toArray, List.set_cons_zero, List.set_cons_succ]
            first
              | (refine heldI_skip 12 32 rfl (by kernel_rfl) (by kernel_rfl) (by kernel_rfl) rfl (fun _ _ _ h => h) (by rfl) (by assumption) ?_)
              | (refine heldI_take 12 32 ?vv81 rfl (by kernel_rfl) (by kernel_rfl) (by kernel_rfl) rfl (fun _ _ _ h => h) (by rfl) ?hy81 (by assumption) ?rest81
                 case hy81 => (intro w hSw; (try dsimp only at hSw); go_simp; try with_reducible rfl))
            try simp only [Act.put, List.setIfInBounds_toArray, List.set_cons_zero, List.set_cons_succ]
            first
              | (refine heldI_skip 13 33 rfl (by kernel_rfl) (by kernel_rfl) (by kernel_rfl) rfl (fun _ _ _ h => h) (by rfl) (by assumption) ?_)
              | (refine heldI_take 13 33 ?vv82 rfl (by kernel_rfl) (by kernel_rfl) (by kernel_rfl) rfl (fun _ _ _ h => h) (by rfl) ?hy82 (by assumption) ?rest82
                 case hy82 => (intro w hSw; (try dsimp only at hSw); go_simp; try with_reducible rfl))
            try simp only [Act.put, List.setIfInBounds_toArray, List.set_cons_zero, List.set_cons_succ]
            first
              | (refine heldI_skip 14 34 rfl (by kernel_rfl) (by kernel_rfl) (by kernel_rfl) rfl (fun _ _ _ h => h) (by rfl) (by assumption) ?_)
              | (refine heldI_take 14 34 ?vv83 rfl (by kernel_rfl) (by kernel_rfl) (by kernel_rfl) rfl (fun _ _ _ h => h) (by rfl) ?hy83 (by assumption) ?rest83
                 case hy83 => (intro w hSw; (try dsimp only at hSw); go_simp; try with_reducible rfl))
            try simp only [Act.put, List.setIfInBounds_toArray, List.set_cons_zero, List.set_cons_succ]
            first
              | (refine heldI_skip 15 35 rfl (by kernel_rfl) (by kernel_rfl) (by kernel_rfl) rfl (fun _ _ _ h => h) (by rfl) (by assumption) ?_)
              | (refine heldI_take 15 35 ?vv84 rfl (by kernel_rfl) (by kernel_rfl) (by kernel_rfl) rfl (fun _ _ _ h => h) (by rfl) ?hy84 (by assumption) ?rest84
                 case hy84 => (intro w hSw; (try dsimp only at hSw); go_simp; try with_reducible rfl))
            try simp only [Act.put, List.setIfInBounds_toArray, List.set_cons_zero, List.set_cons_succ]
            first
              | (refine heldI_skip 16 36 rfl (by kernel_rfl) (by kernel_rfl) (by kernel_rfl) rfl (fun _ _ _ h => h) (by rfl) (by assumption) ?_)
              | (refine heldI_take 16 36 ?vv85 rfl (by kernel_rfl) (by kernel_rfl) (by kernel_rfl) rfl (fun _ _ _ h => h) (by rfl) ?hy85 (by assumption) ?rest85
                 case hy85 => (intro w hSw; (try dsimp only at hSw); go_simp; try with_reducible rfl))
            try simp only [Act.put, List.setIfInBounds_toArray, List.set_cons_zero, List.set_cons_succ]
            first
              | (refine heldI_skip 17 37 rfl (by kernel_rfl) (by kernel_rfl) (by kernel_rfl) rfl (fun _ _ _ h => h) (by rfl) (by assumption) ?_)
              | (refine heldI_take 17 37 ?vv86 rfl (by kernel_rfl) (by kernel_rfl) (by kernel_rfl) rfl (fun _ _ _ h => h) (by rfl) ?hy86 (by assumption) ?rest86
                 case hy86 => (intro w hSw; (try dsimp only at hSw); go_simp; try with_reducible rfl))
            try simp only [Act.put, List.setIfInBounds_toArray, List.set_cons_zero, List.set_cons_succ]
            first
              | (refine heldI_skip 18 38 rfl (by kernel_rfl) (by kernel_rfl) (by kernel_rfl) rfl (fun _ _ _ h => h) (by rfl) (by assumption) ?_)
              | (refine heldI_take 18 38 ?vv87 rfl (by kernel_rfl) (by kernel_rfl) (by kernel_rfl) rfl (fun _ _ _ h => h) (by rfl) ?hy87 (by assumption) ?rest87
                 case hy87 => (intro w hSw; (try dsimp only at hSw); go_simp; try with_reducible rfl))
            try simp only [Act.put, List.setIfInBounds_toArray, List.set_cons_zero, List.set_cons_succ]
            first
              | (refine heldI_skip 19 39 rfl (by kernel_rfl) (by kernel_rfl) (by kernel_rfl) rfl (fun _ _ _ h => h) (by rfl) (by assumption) ?_)
              | (refine heldI_take 19 39 ?vv88 rfl (by kernel_rfl) (by kernel_rfl) (by kernel_rfl) rfl (fun _ _ _ h => h) (by rfl) ?hy88 (by assumption) ?rest88
                 case hy88 => (intro w hSw; (try dsimp only at hSw); go_simp; try with_reducible rfl))
            try simp only [Act.put, List.setIfInBounds_toArray, List.set_cons_zero, List.set_cons_succ]
            first
              | (refine heldI_skip 20 40 rfl (by kernel_rfl) (by kernel_rfl) (by kernel_rfl) rfl (fun _ _ _ h => h) (by rfl) (by assumption) ?_)
              | (refine heldI_take 20 40 ?vv89 rfl (by kernel_rfl) (by kernel_rfl) (by kernel_rfl) rfl (fun _ _ _ h => h) (by rfl) ?hy89 (by assumption) ?rest89
                 case hy89 => (intro w hSw; (try dsimp only at hSw); go_simp; try with_reducible rfl))
            try simp only [Act.put, List.setIfInBounds_toArray, List.set_cons_zero, List.set_cons_succ]
            first
              | (refine heldI_skip 21 41 rfl (by kernel_rfl) (by kernel_rfl) (by kernel_rfl) rfl (fun _ _ _ h => h) (by rfl) (by assumption) ?_)
              | (refine heldI_take 21 41 ?vv90 rfl (by kernel_rfl) (by kernel_rfl) (by kernel_rfl) rfl (fun _ _ _ h => h) (by rfl) ?hy90 (by assumption) ?rest90
                 case hy90 => (intro w hSw; (try dsimp only at hSw); go_simp; try with_reducible rfl))
            try simp only [Act.put, List.setIfInBounds_toArray, List.set_cons_zero, List.set_cons_succ]
            first
              | (refine heldI_skip 22 42 rfl (by kernel_rfl) (by kernel_rfl) (by kernel_rfl) rfl (fun _ _ _ h => h) (by rfl) (by assumption) ?_)
              | (refine heldI_take 22 42 ?vv91 rfl (by kernel_rfl) (by kernel_rfl) (by kernel_rfl) rfl (fun _ _ _ h => h) (by rfl) ?hy91 (by assumption) ?rest91
                 case hy91 => (intro w hSw; (try dsimp only at hSw); go_simp; try with_reducible rfl))
            try simp only [Act.put, List.setIfInBounds_toArray, List.set_cons_zero, List.set_cons_succ]
            first
              | (refine heldI_skip 23 43 rfl (by kernel_rfl) (by kernel_rfl) (by kernel_rfl) rfl (fun _ _ _ h => h) (by rfl) (by assumption) ?_)
              | (refine heldI_take 23 43 ?vv92 rfl (by kernel_rfl) (by kernel_rfl) (by kernel_rfl) rfl (fun _ _ _ h => h) (by rfl) ?hy92 (by assumption) ?rest92
                 case hy92 => (intro w hSw; (try dsimp only at hSw); go_simp; try with_reducible rfl))
            try simp only [Act.put, List.setIfInBounds_toArray, List.set_cons_zero, List.set_cons_succ]
            first
              | (refine heldI_skip 24 44 rfl (by kernel_rfl) (by kernel_rfl) (by kernel_rfl) rfl (fun _ _ _ h => h) (by rfl) (by assumption) ?_)
              | (refine heldI_take 24 44 ?vv93 rfl (by kernel_rfl) (by kernel_rfl) (by kernel_rfl) rfl (fun _ _ _ h => h) (by rfl) ?hy93 (by assumption) ?rest93
                 case hy93 => (intro w hSw; (try dsimp only at hSw); go_simp; try with_reducible rfl))
            try simp only [Act.put, List.setIfInBounds_toArray, List.set_cons_zero, List.set_cons_succ]
            first
              | (refine heldI_skip 25 45 rfl (by kernel_rfl) (by kernel_rfl) (by kernel_rfl) rfl (fun _ _ _ h => h) (by rfl) (by assumption) ?_)
              | (refine heldI_take 25 45 ?vv94 rfl (by kernel_rfl) (by kernel_rfl) (by kernel_rfl) rfl (fun _ _ _ h => h) (by rfl) ?hy94 (by assumption) ?rest94
                 case hy94 => (intro w hSw; (try dsimp only at hSw); go_simp; try with_reducible rfl))
            try simp only [Act.put, List.setIfInBounds_toArray, List.set_cons_zero, List.set_cons_succ]
            first
              | (refine heldI_skip 26 46 rfl (by kernel_rfl) (by kernel_rfl) (by kernel_rfl) rfl (fun _ _ _ h => h) (by rfl) (by assumption) ?_)
              | (refine heldI_take 26 46 ?vv95 rfl (by kernel_rfl) (by kernel_rfl) (by kernel_rfl) rfl (fun _ _ _ h => h) (by rfl) ?hy95 (by assumption) ?rest95
                 case hy95 => (intro w hSw; (try dsimp only at hSw); go_simp; try with_reducible rfl))
            try simp only [Act.put, List.setIfInBounds_toArray, List.set_cons_zero, List.set_cons_succ]
            first
              | (refine heldI_skip 27 47 rfl (by kernel_rfl) (by kernel_rfl) (by kernel_rfl) rfl (fun _ _ _ h => h) (by rfl) (by assumption) ?_)
              | (refine heldI_take 27 47 ?vv96 rfl (by kernel_rfl) (by kernel_rfl) (by kernel_rfl) rfl (fun _ _ _ h => h) (by rfl) ?hy96 (by assumption) ?rest96
                 case hy96 => (intro w hSw; (try dsimp only at hSw); go_simp; try with_reducible rfl))
            try simp only [Act.put, List.setIfInBounds_toArray, List.set_cons_zero, List.set_cons_succ]
            first
              | (refine heldI_skip 28 48 rfl (by kernel_rfl) (by kernel_rfl) (by kernel_rfl) rfl (fun _ _ _ h => h) (by rfl) (by assumption) ?_)
              | (refine heldI_take 28 48 ?vv97 rfl (by kernel_rfl) (by kernel_rfl) (by kernel_rfl) rfl (fun _ _ _ h => h) (by rfl) ?hy97 (by assumption) ?rest97
                 case hy97 => (intro w hSw; (try dsimp only at hSw); go_simp; try with_reducible rfl))
            try simp only [Act.put, List.setIfInBounds_toArray, List.set_cons_zero, List.set_cons_succ]
            first
              | (refine heldI_skip 29 49 rfl (by kernel_rfl) (by kernel_rfl) (by kernel_rfl) rfl (fun _ _ _ h => h) (by rfl) (by assumption) ?_)
              | (refine heldI_take 29 49 ?vv98 rfl (by kernel_rfl) (by kernel_rfl) (by kernel_rfl) rfl (fun _ _ _ h => h) (by rfl) ?hy98 (by assumption) ?rest98
                 case hy98 => (intro w hSw; (try dsimp only at hSw); go_simp; try with_reducible rfl))
            try simp only [Act.put, List.setIfInBounds_toArray, List.set_cons_zero, List.set_cons_succ]
            first
              | (refine heldI_skip 30 50 rfl (by kernel_rfl) (by kernel_rfl) (by kernel_rfl) rfl (fun _ _ _ h => h) (by rfl) (by assumption) ?_)
              | (refine heldI_take 30 50 ?vv99 rfl (by kernel_rfl) (by kernel_rfl) (by kernel_rfl) rfl (fun _ _ _ h => h) (by rfl) ?hy99 (by assumption) ?rest99
                 case hy99 => (intro w hSw; (try dsimp only at hSw); go_simp; try with_reducible rfl))
            try simp only [Act.put, List.setIfInBounds_toArray, List.set_cons_zero, List.set_cons_succ]
            first
              | (refine heldI_skip 31 51 rfl (by kernel_rfl) (by kernel_rfl) (by kernel_rfl) rfl (fun _ _ _ h => h) (by rfl) (by assumption) ?_)
              | (refine heldI_take 31 51 ?vv100 rfl (by kernel_rfl) (by kernel_rfl) (by kernel_rfl) rfl (fun _ _ _ h => h) (by rfl) ?hy100 (by assumption) ?rest100
                 case hy100 => (intro w hSw; (try dsimp only at hSw); go_simp; try with_reducible rfl))
            try simp only [Act.put, List.setIfInBounds_toArray, List.set_cons_zero, List.set_cons_succ]
            first
              | (refine heldI_skip 32 52 rfl (by kernel_rfl) (by kernel_rfl) (by kernel_rfl) rfl (fun _ _ _ h => h) (by rfl) (by assumption) ?_)
              | (refine heldI_take 32 52 ?vv101 rfl (by kernel_rfl) (by kernel_rfl) (by kernel_rfl) rfl (fun _ _ _ h => h) (by rfl) ?hy101 (by assumption) ?rest101
                 case hy101 => (intro w hSw; (try dsimp only at hSw); go_simp; try with_reducible rfl))
            try simp only [Act.put, List.setIfInBounds_toArray, List.set_cons_zero, List.set_cons_succ]
            first
              | (refine heldI_skip 33 53 rfl (by kernel_rfl) (by kernel_rfl) (by kernel_rfl) rfl (fun _ _ _ h => h) (by rfl) (by assumption) ?_)
              | (refine heldI_take 33 53 ?vv102 rfl (by kernel_rfl) (by kernel_rfl) (by kernel_rfl) rfl (fun _ _ _ h => h) (by rfl) ?hy102 (by assumption) ?rest102
                 case hy102 => (intro w hSw; (try dsimp only at hSw); go_simp; try with_reducible rfl))
            try simp only [Act.put, List.setIfInBounds_toArray, List.set_cons_zero, List.set_cons_succ]
            first
              | (refine heldI_skip 34 54 rfl (by kernel_rfl) (by kernel_rfl) (by kernel_rfl) rfl (fun _ _ _ h => h) (by rfl) (by assumption) ?_)
              | (refine heldI_take 34 54 ?vv103 rfl (by kernel_rfl) (by kernel_rfl) (by kernel_rfl) rfl (fun _ _ _ h => h) (by rfl) ?hy103 (by assumption) ?rest103
                 case hy103 => (intro w hSw; (try dsimp only at hSw); go_simp; try with_reducible rfl))
            try simp only [Act.put, List.setIfInBounds_toArray, List.set_cons_zero, List.set_cons_succ]
            first
              | (refine heldI_skip 35 55 rfl (by kernel_rfl) (by kernel_rfl) (by kernel_rfl) rfl (fun _ _ _ h => h) (by rfl) (by assumption) ?_)
              | (refine heldI_take 35 55 ?vv104 rfl (by kernel_rfl) (by kernel_rfl) (by kernel_rfl) rfl (fun _ _ _ h => h) (by rfl) ?hy104 (by assumption) ?rest104
                 case hy104 => (intro w hSw; (try dsimp only at hSw); go_simp; try with_reducible rfl))
            try simp only [Act.put, List.setIfInBounds_toArray, List.set_cons_zero, List.set_cons_succ]
            first
              | (refine heldI_skip 36 56 rfl (by kernel_rfl) (by kernel_rfl) (by kernel_rfl) rfl (fun _ _ _ h => h) (by rfl) (by assumption) ?_)
              | (refine heldI_take 36 56 ?vv105 rfl (by kernel_rfl) (by kernel_rfl) (by kernel_rfl) rfl (fun _ _ _ h => h) (by rfl) ?hy105 (by assumption) ?rest105
                 case hy105 => (intro w hSw; (try dsimp only at hSw); go_simp; try with_reducible rfl))
            try simp only [Act.put, List.setIfInBounds_toArray, List.set_cons_zero, List.set_cons_succ]
            first
              | (refine heldI_skip 37 57 rfl (by kernel_rfl) (by kernel_rfl) (by kernel_rfl) rfl (fun _ _ _ h => h) (by rfl) (by assumption) ?_)
              | (refine heldI_take 37 57 ?vv106 rfl (by kernel_rfl) (by kernel_rfl) (by kernel_rfl) rfl (fun _ _ _ h => h) (by rfl) ?hy106 (by assumption) ?rest106
                 case hy106 => (intro w hSw; (try dsimp only at hSw); go_simp; try with_reducible rfl))
            try simp only [Act.put, List.setIfInBounds_toArray, List.set_cons_zero, List.set_cons_succ]
            first
              | (refine heldI_skip 38 58 rfl (by kernel_rfl) (by kernel_rfl) (by kernel_rfl) rfl (fun _ _ _ h => h) (by rfl) (by assumption) ?_)
              | (refine heldI_take 38 58 ?vv107 rfl (by kernel_rfl) (by kernel_rfl) (by kernel_rfl) rfl (fun _ _ _ h => h) (by rfl) ?hy107 (by assumption) ?rest107
                 case hy107 => (intro w hSw; (try dsimp only at hSw); go_simp; try with_reducible rfl))
            try simp only [Act.put, List.setIfInBounds_toArray, List.set_cons_zero, List.set_cons_succ]
            first
              | (refine heldI_skip 39 59 rfl (by kernel_rfl) (by kernel_rfl) (by kernel_rfl) rfl (fun _ _ _ h => h) (by rfl) (by assumption) ?_)
              | (refine heldI_take 39 59 ?vv108 rfl (by kernel_rfl) (by kernel_rfl) (by kernel_rfl) rfl (fun _ _ _ h => h) (by rfl) ?hy108 (by assumption) ?rest108
                 case hy108 => (intro w hSw; (try dsimp only at hSw); go_simp; try with_reducible rfl))
            try simp only [Act.put, List.setIfInBounds_toArray, List.set_cons_zero, List.set_cons_succ]
            first
              | (refine heldI_skip 40 60 rfl (by kernel_rfl) (by kernel_rfl) (by kernel_rfl) rfl (fun _ _ _ h => h) (by rfl) (by assumption) ?_)
              | (refine heldI_take 40 60 ?vv109 rfl (by kernel_rfl) (by kernel_rfl) (by kernel_rfl) rfl (fun _ _ _ h => h) (by rfl) ?hy109 (by assumption) ?rest109
                 case hy109 => (intro w hSw; (try dsimp only at hSw); go_simp; try with_reducible rfl))
            try simp only [Act.put, List.setIfInBounds_toArray, List.set_cons_zero, List.set_cons_succ]
            first
              | (refine heldI_skip 41 61 rfl (by kernel_rfl) (by kernel_rfl) (by kernel_rfl) rfl (fun _ _ _ h => h) (by rfl) (by assumption) ?_)
              | (refine heldI_take 41 61 ?vv110 rfl (by kernel_rfl) (by kernel_rfl) (by kernel_rfl) rfl (fun _ _ _ h => h) (by rfl) ?hy110 (by assumption) ?rest110
                 case hy110 => (intro w hSw; (try dsimp only at hSw); go_simp; try with_reducible rfl))
            try simp only [Act.put, List.setIfInBounds_toArray, List.set_cons_zero, List.set_cons_succ]
            first
              | (refine heldI_skip 42 62 rfl (by kernel_rfl) (by kernel_rfl) (by kernel_rfl) rfl (fun _ _ _ h => h) (by rfl) (by assumption) ?_)
              | (refine heldI_take 42 62 ?vv111 rfl (by kernel_rfl) (by kernel_rfl) (by kernel_rfl) rfl (fun _ _ _ h => h) (by rfl) ?hy111 (by assumption) ?rest111
                 case hy111 => (intro w hSw; (try dsimp only at hSw); go_simp; try with_reducible rfl))
            try simp only [Act.put, List.setIfInBounds_toArray, List.set_cons_zero, List.set_cons_succ]
            first
              | (refine heldI_skip 43 63 rfl (by kernel_rfl) (by kernel_rfl) (by kernel_rfl) rfl (fun _ _ _ h => h) (by rfl) (by assumption) ?_)
              | (refine heldI_take 43 63 ?vv112 rfl (by kernel_rfl) (by kernel_rfl) (by kernel_rfl) rfl (fun _ _ _ h => h) (by rfl) ?hy112 (by assumption) ?rest112
                 case hy112 => (intro w hSw; (try dsimp only at hSw); go_simp; try with_reducible rfl))
            try simp only [Act.put, List.setIfInBounds_toArray, List.set_cons_zero, List.set_cons_succ]
            refine wpAnyH_done (by kernel_rfl) ?_ _
            clear hHeld
            have BJ : Aside (Below w.heap.size w W.drew) := Below.drew BJ.out
            have OJ : Aside (W.drew.ownsRow w.heap.size 48 4 (.slice (some ⟨g, 0, none⟩) k cap) k (ord.flatMap encPg)) := OJ.out.drew
            generalize W.drew = V at BJ OJ ⊢
            clear hj0'
            obtain ⟨W, hW⟩ : ∃ W, W = V := ⟨_, rfl⟩
            subst hW
            have HBr := hide BJ.out
            obtain ⟨hbW, cR0, cR1, cR2, cR3⟩ := HXC.out W BJ.out
            have HRO := hide (own_rd' encPg_len OJ.out HON.out)
            have hjN : j ≤ k := by omega
            have N1 : k ≤ 1000000 := by omega
            have kq1 : (j : Int) ≤ (cap : Int) := by omega
            have kq2 : (0 : Int) ≤ (j : Int) := by omega
            have kq3 : (j : Int) ≤ (k : Int) := by omega
            have kq4 : ((j : Int)).toNat = j := by omega
            have kq5 : IntKind.i64.wrap (j : Int) = (j : Int) := IntWalk.i64_in _ (by omega)
            have kq6 : (0 : Int) ≤ (k : Int) := by omega
            clear BJ OJ
            obtain ⟨hi, hz0, hz1, hz2⟩ := HI.out
            go_wp2_with fail
            refine wp_region_held_drew (S := fun w' => w'.cell? ⟨b, off + k * 4, none⟩ = some (.int .i64 x.n) ∧ w'.cell? ⟨b, off + k * 4 + 1, none⟩ = some (.int .i64 x.r) ∧ w'.cell? ⟨b, off + k * 4 + 2, none⟩ = some (.int .i64 x.c) ∧ w'.cell? ⟨b, off + k * 4 + 3, none⟩ = some (.int .i64 x.l) ∧ Below W.heap.size W w') (by kernel_rfl) ⟨((show Below W.heap.size W W.drew from (Below.refl _ _).drew).cell (p := ⟨b, off + k * 4, none⟩) hbW).trans cR0, ((show Below W.heap.size W W.drew from (Below.refl _ _).drew).cell (p := ⟨b, off + k * 4 + 1, none⟩) hbW).trans cR1, ((show Below W.heap.size W W.drew from (Below.refl _ _).drew).cell (p := ⟨b, off + k * 4 + 2, none⟩) hbW).trans cR2, ((show Below W.heap.size W W.drew from (Below.refl _ _).drew).cell (p := ⟨b, off + k * 4 + 3, none⟩) hbW).trans cR3, (show Below W.heap.size W W.drew from (Below.refl _ _).drew)⟩ (fun hHeld => ?_)
            refine heldI_take 1 67 ?vv29 rfl (by kernel_rfl) (by kernel_rfl) (by kernel_rfl) rfl (fun _ _ _ h => h) (by rfl) ?hy29 (by assumption) ?rest29
            case hy29 => (intro w hSw; (try dsimp only at hSw); go_simp; try with_reducible rfl)
            try simp only [Act.put, List.setIfInBounds_toArray, List.set_cons_zero, List.set_cons_succ]
            refine heldI_take 2 68 ?vv30 rfl (by kernel_rfl) (by kernel_rfl) (by kernel_rfl) rfl (fun _ _ _ h => h) (by rfl) ?hy30 (by assumption) ?rest30
            case hy30 => (intro w hSw; (try dsimp only at hSw); go_simp; try with_reducible rfl)
            try simp only [Act.put, List.setIfInBounds_toArray, List.set_cons_zero, List.set_cons_succ]
            refine heldI_take 3 69 (.slice (some ⟨g, 0, none⟩) j cap) rfl (by kernel_rfl) (by kernel_rfl) (by kernel_rfl) rfl (fun _ _ _ h => h) (by rfl) ?hy31 (by assumption) ?rest31
            case hy31 => (intro w hSw; (try dsimp only at hSw); go_simp; first | done | (with_reducible rfl) | (unfold behindJ; by_cases hcc : cap = j <;> simp [hcc]))
            try simp only [Act.put, List.setIfInBounds_toArray, List.set_cons_zero, List.set_cons_succ]
            refine heldI_take 5 71 ?vv32 rfl (by kernel_rfl) (by kernel_rfl) (by kernel_rfl) rfl (fun _ _ _ h => h) (by rfl) ?hy32 (by assumption) ?rest32
            case hy32 => (intro w hSw; (try dsimp only at hSw); go_simp; try with_reducible rfl)
            try simp only [Act.put, List.setIfInBounds_toArray, List.set_cons_zero, List.set_cons_succ]
            refine heldI_take 6 72 ?vv33 rfl (by kernel_rfl) (by kernel_rfl) (by kernel_rfl) rfl (fun _ _ _ h => h) (by rfl) ?hy33 (by assumption) ?rest33
            case hy33 => (intro w hSw; (try dsimp only at hSw); go_simp; try with_reducible rfl)
            try simp only [Act.put, List.setIfInBounds_toArray, List.set_cons_zero, List.set_cons_succ]
            refine heldI_take 7 73 ?vv34 rfl (by kernel_rfl) (by kernel_rfl) (by kernel_rfl) rfl (fun _ _ _ h => h) (by rfl) ?hy34 (by assumption) ?rest34
            case hy34 => (intro w hSw; (try dsimp only at hSw); go_simp; try with_reducible rfl)
            try simp only [Act.put, List.setIfInBounds_toArray, List.set_cons_zero, List.set_cons_succ]
            refine heldI_take 8 74 ?vv35 rfl (by kernel_rfl) (by kernel_rfl) (by kernel_rfl) rfl (fun _ _ _ h => h) (by rfl) ?hy35 (by assumption) ?rest35
            case hy35 => (intro w hSw; (try dsimp only at hSw); go_simp; try with_reducible rfl)
            try simp only [Act.put, List.setIfInBounds_toArray, List.set_cons_zero, List.set_cons_succ]
            refine heldI_take 11 77 ?vv36 rfl (by kernel_rfl) (by kernel_rfl) (by kernel_rfl) rfl (fun _ _ _ h => h) (by rfl) ?hy36 (by assumption) ?rest36
            case hy36 => (intro w hSw; (try dsimp only at hSw); go_simp; try with_reducible rfl)
            try simp only [Act.put, List.setIfInBounds_toArray, List.set_cons_zero, List.set_cons_succ]
            refine heldI_take 12 78 ?vv37 rfl (by kernel_rfl) (by kernel_rfl) (by kernel_rfl) rfl (fun _ _ _ h => h) (by rfl) ?hy37 (by assumption) ?rest37
            case hy37 => (intro w hSw; (try dsimp only at hSw); go_simp; try with_reducible rfl)
            try simp only [Act.put, List.setIfInBounds_toArray, List.set_cons_zero, List.set_cons_succ]
            refine heldI_take 13 79 (.slice (some (behindJ g j cap 4)) (k - j) (cap - j)) rfl (by kernel_rfl) (by kernel_rfl) (by kernel_rfl) rfl (fun _ _ _ h => h) (by rfl) ?hy38 (by assumption) ?rest38
            case hy38 => (intro w hSw; (try dsimp only at hSw); go_simp; first | done | (with_reducible rfl) | (unfold behindJ; by_cases hcc : cap = j <;> simp [hcc]))
            try simp only [Act.put, List.setIfInBounds_toArray, List.set_cons_zero, List.set_cons_succ]
            refine wpAnyH_ready (rs := [0, 9]) (by kernel_rfl) (by simp) ?_
            refine AllReadyH.cons rfl (fun K hK => ?_) (AllReadyH.cons rfl (fun K hK => ?_) AllReadyH.nil)
            · go_simp
              have own0 : ((World.alloc W (.cells #[] 48)).drew).ownsRow W.heap.size 48 4 (.slice (some ⟨W.heap.size, 0, none⟩) 0 0) 0 [] := World.ownsRow_made W.drew #[] 0 (Nat.le_refl _) (by simp [maxLen]) rfl
              have q1 : Below W.heap.size W ((World.alloc W (.cells #[] 48)).drew) := (Below.drew (Below.refl W.heap.size W)).alloc (Nat.le_refl _) _
              have gE : W.heap.size < ((World.alloc W (.cells #[] 48)).drew).heap.size := by simp
              generalize (World.alloc W (.cells #[] 48)).drew = u1 at own0 q1 gE ⊢
              refine hK.out _ _ ⟨(q1.cell (p := ⟨b, off + k * 4, none⟩) hbW).trans cR0, (q1.cell (p := ⟨b, off + k * 4 + 1, none⟩) hbW).trans cR1, (q1.cell (p := ⟨b, off + k * 4 + 2, none⟩) hbW).trans cR2, (q1.cell (p := ⟨b, off + k * 4 + 3, none⟩) hbW).trans cR3, q1⟩ (fun hHeld1 => ?_)
              clear hK K
              try simp only [Act.put, List.setIfInBounds_toArray, List.set_cons_zero, List.set_cons_succ]
              refine wpAnyH_ready (rs := [4, 9]) (by kernel_rfl) (by simp) ?_
              refine AllReadyH.cons rfl (fun K hK => ?_) (AllReadyH.cons rfl (fun K hK => ?_) AllReadyH.nil)
              · refine step_append_ownJ (by rfl) _ _ _ (by rfl) W.heap.size 48 i0 _ 4 32 Try.underlying26 hi hz0 hz1 hz2 rfl (by omega) _ 0 [] (by rfl) own0 ⟨g, 0, none⟩ j cap ((ord.take j).flatMap encPg) (by rfl) (by rw [flat_len encPg_len, List.length_take, HON.out, Nat.min_eq_left hjN]) (rd_flat encPg_len ((rd_at0 HRO.out q1).takeJ j)) (encJ_one encPg_one _) (by unfold maxLen; omega) (by omega) q1.size ?_
                intro v3 w3 hown3 hgrow3
                have q3 : Below W.heap.size W w3 := bl_grown q1 own0 (Nat.le_refl _) hgrow3
                have ho3 : w3.ownsRow W.heap.size 48 4 v3 j ((ord.take j).flatMap encPg) := by first | exact hown3 | (rw [Nat.zero_add, List.nil_append] at hown3; exact hown3)
                clear hown3
                refine hK.out _ _ ⟨(q3.cell (p := ⟨b, off + k * 4, none⟩) hbW).trans cR0, (q3.cell (p := ⟨b, off + k * 4 + 1, none⟩) hbW).trans cR1, (q3.cell (p := ⟨b, off + k * 4 + 2, none⟩) hbW).trans cR2, (q3.cell (p := ⟨b, off + k * 4 + 3, none⟩) hbW).trans cR3, q3⟩ (fun hHeld2 => ?_)
                clear hK K
                try simp only [Act.put, List.setIfInBounds_toArray, List.set_cons_zero, List.set_cons_succ]
                refine wpAnyH_ready (rs := [9]) (by kernel_rfl) (by simp) ?_
                refine AllReadyH.cons rfl (fun K hK => ?_) AllReadyH.nil
                go_simp
                have hX : Blk (World.alloc w3 (.cells #[.int .i64 x.n, .int .i64 x.r, .int .i64 x.c, .int .i64 x.l] 48)) w3.heap.size 48 #[.int .i64 x.n, .int .i64 x.r, .int .i64 x.c, .int .i64 x.l] := Blk.new w3 _ _
                have q2 : Below W.heap.size W (World.alloc w3 (.cells #[.int .i64 x.n, .int .i64 x.r, .int .i64 x.c, .int .i64 x.l] 48)) := q3.alloc q3.size _
                have gX : w3.heap.size < (World.alloc w3 (.cells #[.int .i64 x.n, .int .i64 x.r, .int .i64 x.c, .int .i64 x.l] 48)).heap.size := by simp
                have ho3 := ho3.alloc (.cells #[.int .i64 x.n, .int .i64 x.r, .int .i64 x.c, .int .i64 x.l] 48)
                generalize World.alloc w3 (.cells #[.int .i64 x.n, .int .i64 x.r, .int .i64 x.c, .int .i64 x.l] 48) = u2 at ho3 hX q2 gX ⊢
                refine hK.out _ _ ⟨(q2.cell (p := ⟨b, off + k * 4, none⟩) hbW).trans cR0, (q2.cell (p := ⟨b, off + k * 4 + 1, none⟩) hbW).trans cR1, (q2.cell (p := ⟨b, off + k * 4 + 2, none⟩) hbW).trans cR2, (q2.cell (p := ⟨b, off + k * 4 + 3, none⟩) hbW).trans cR3, q2⟩ (fun hHeld3 => ?_)
                clear hK K
                try simp only [Act.put, List.setIfInBounds_toArray, List.set_cons_zero, List.set_cons_succ]
                refine wpAnyH_ready (rs := [10]) (by kernel_rfl) (by simp) ?_
                refine AllReadyH.cons rfl (fun K hK => ?_) AllReadyH.nil
                refine step_append_ownJ (by rfl) _ _ _ (by rfl) W.heap.size 48 i0 _ 4 32 Try.underlying26 hi hz0 hz1 hz2 rfl (by omega) _ j _ (by rfl) ho3 ⟨w3.heap.size, 0, none⟩ 1 1 ([.int .i64 x.n, .int .i64 x.r, .int .i64 x.c, .int .i64 x.l]) (by rfl) (by rfl) (World.news_of_block (cs := #[.int .i64 x.n, .int .i64 x.r, .int .i64 x.c, .int .i64 x.l]) (t := 48) (fr := (0, 0)) hX) (by simp [Value.oneCell']) (by unfold maxLen; omega) (by omega) q2.size ?_
                intro v4 w4 hown4 hgrow4
                have q4 : Below W.heap.size W w4 := bl_grown q2 ho3 (Nat.le_refl _) hgrow4
                refine hK.out _ _ ⟨(q4.cell (p := ⟨b, off + k * 4, none⟩) hbW).trans cR0, (q4.cell (p := ⟨b, off + k * 4 + 1, none⟩) hbW).trans cR1, (q4.cell (p := ⟨b, off + k * 4 + 2, none⟩) hbW).trans cR2, (q4.cell (p := ⟨b, off + k * 4 + 3, none⟩) hbW).trans cR3, q4⟩ (fun hHeld4 => ?_)
                clear hK K
                try simp only [Act.put, List.setIfInBounds_toArray, List.set_cons_zero, List.set_cons_succ]
                clear hgrow4
                refine wpAnyH_ready (rs := [14]) (by kernel_rfl) (by simp) ?_
                refine AllReadyH.cons rfl (fun K hK => ?_) AllReadyH.nil
                refine step_append_ownJ (by rfl) _ _ _ (by rfl) W.heap.size 48 i0 _ 4 32 Try.underlying26 hi hz0 hz1 hz2 rfl (by omega) _ (j + 1) _ (by rfl) hown4 (behindJ g j cap 4) (k - j) (cap - j) ((ord.drop j).flatMap encPg) (by rfl) (by rw [flat_len encPg_len, List.length_drop, HON.out]) (rd_flat encPg_len (Rd.behindJ HON.out hNc (rd_at0 HRO.out q4))) (encJ_one encPg_one _) (by unfold maxLen; omega) (by omega) q4.size ?_
                intro v5 w5 hown5 hgrow5
                have q5 : Below W.heap.size W w5 := bl_grown q4 hown4 (Nat.le_refl _) hgrow5
                refine hK.out _ _ ⟨(q5.cell (p := ⟨b, off + k * 4, none⟩) hbW).trans cR0, (q5.cell (p := ⟨b, off + k * 4 + 1, none⟩) hbW).trans cR1, (q5.cell (p := ⟨b, off + k * 4 + 2, none⟩) hbW).trans cR2, (q5.cell (p := ⟨b, off + k * 4 + 3, none⟩) hbW).trans cR3, q5⟩ (fun hHeld5 => ?_)
                clear hK K
                try simp only [Act.put, List.setIfInBounds_toArray, List.set_cons_zero, List.set_cons_succ]
                try simp only [List.getElem_toArray, List.getElem_cons_succ, List.getElem_cons_zero]
                try simp only [Act.put, List.setIfInBounds_toArray, List.set_cons_zero, List.set_cons_succ]
                refine heldI_take 15 4 ?vv39 rfl (by kernel_rfl) (by kernel_rfl) (by kernel_rfl) rfl (fun _ _ _ h => h) (by rfl) ?hy39 (by assumption) ?rest39
                case hy39 => (intro w hSw; (try dsimp only at hSw); go_simp; try with_reducible rfl)
                try simp only [Act.put, List.setIfInBounds_toArray, List.set_cons_zero, List.set_cons_succ]
                refine wpAnyH_done (by kernel_rfl) ?_ _
                have ho5 : w5.ownsRow W.heap.size 48 4 v5 (k + 1) ((rowE ord x [] j).flatMap encPg) := by
                  have e1 : j + 1 + (k - j) = k + 1 := by omega
                  have h9 := hown5
                  rw [e1] at h9
                  have e2 : (rowE ord x [] j).flatMap encPg = (ord.take j).flatMap encPg ++ [.int .i64 x.n, .int .i64 x.r, .int .i64 x.c, .int .i64 x.l] ++ (ord.drop j).flatMap encPg := by unfold rowE; simp [encPg]
                  rw [e2]; exact h9
                have HO5 := hide ho5
                have HB5 := hide q5
                clear ho5 hown5 hgrow5 q5 hown4 q4 ho3
                try clear q3
                try clear q2
                try clear q1
                try clear own0
                try clear hX
                try clear gX
                try clear gE
                try clear hgrow3
                clear hi hz0 hz1 hz2
                have hlen : (rowE ord x [] j).length = k + 1 := by rw [rowE_len, HON.out]; rfl
                rcases own_form encPg_len HO5.out hlen with ⟨_, h0, _⟩ | ⟨g', cap', cs, rfl, hg', hB', hs', hnc', hm', ht'⟩
                · omega
                have HO6 : Hid (rowE ord x [] j = sortE kyP (zs.take (k + 1))) := hide (by rw [HNX.out, HREF.out])
                clear hB' hs' ht' hg' hlen
                go_wp2
                go_roundg (n - (k + 1))
                case measure => omega
                case rel =>
                  refine ⟨k + 1, g', cap', by omega, by omega, by go_num, rfl, hnc', hm', ?_, (HBr.out.trans (HB5.out.mono HBr.out.size) : Below w.heap.size w _)⟩
                  rw [← HO6.out]; exact own_baseH HO5.out HBr.out.size
              · go_simp
                have hX : Blk (World.alloc u1 (.cells #[.int .i64 x.n, .int .i64 x.r, .int .i64 x.c, .int .i64 x.l] 48)) u1.heap.size 48 #[.int .i64 x.n, .int .i64 x.r, .int .i64 x.c, .int .i64 x.l] := Blk.new u1 _ _
                have q2 : Below W.heap.size W (World.alloc u1 (.cells #[.int .i64 x.n, .int .i64 x.r, .int .i64 x.c, .int .i64 x.l] 48)) := q1.alloc q1.size _
                have gX : u1.heap.size < (World.alloc u1 (.cells #[.int .i64 x.n, .int .i64 x.r, .int .i64 x.c, .int .i64 x.l] 48)).heap.size := by simp
                have own0 := own0.alloc (.cells #[.int .i64 x.n, .int .i64 x.r, .int .i64 x.c, .int .i64 x.l] 48)
                generalize World.alloc u1 (.cells #[.int .i64 x.n, .int .i64 x.r, .int .i64 x.c, .int .i64 x.l] 48) = u2 at own0 hX q2 gX ⊢
                refine hK.out _ _ ⟨(q2.cell (p := ⟨b, off + k * 4, none⟩) hbW).trans cR0, (q2.cell (p := ⟨b, off + k * 4 + 1, none⟩) hbW).trans cR1, (q2.cell (p := ⟨b, off + k * 4 + 2, none⟩) hbW).trans cR2, (q2.cell (p := ⟨b, off + k * 4 + 3, none⟩) hbW).trans cR3, q2⟩ (fun hHeld6 => ?_)
                clear hK K
                try simp only [Act.put, List.setIfInBounds_toArray, List.set_cons_zero, List.set_cons_succ]
                refine wpAnyH_ready (rs := [4]) (by kernel_rfl) (by simp) ?_
                refine AllReadyH.cons rfl (fun K hK => ?_) AllReadyH.nil
                refine step_append_ownJ (by rfl) _ _ _ (by rfl) W.heap.size 48 i0 _ 4 32 Try.underlying26 hi hz0 hz1 hz2 rfl (by omega) _ 0 [] (by rfl) own0 ⟨g, 0, none⟩ j cap ((ord.take j).flatMap encPg) (by rfl) (by rw [flat_len encPg_len, List.length_take, HON.out, Nat.min_eq_left hjN]) (rd_flat encPg_len ((rd_at0 HRO.out q2).takeJ j)) (encJ_one encPg_one _) (by unfold maxLen; omega) (by omega) q2.size ?_
                intro v3 w3 hown3 hgrow3
                have q3 : Below W.heap.size W w3 := bl_grown q2 own0 (Nat.le_refl _) hgrow3
                have ho3 : w3.ownsRow W.heap.size 48 4 v3 j ((ord.take j).flatMap encPg) := by first | exact hown3 | (rw [Nat.zero_add, List.nil_append] at hown3; exact hown3)
                clear hown3
                have hX := hX.grown hgrow3 (by simp [Value.ownBlock]; omega)
                refine hK.out _ _ ⟨(q3.cell (p := ⟨b, off + k * 4, none⟩) hbW).trans cR0, (q3.cell (p := ⟨b, off + k * 4 + 1, none⟩) hbW).trans cR1, (q3.cell (p := ⟨b, off + k * 4 + 2, none⟩) hbW).trans cR2, (q3.cell (p := ⟨b, off + k * 4 + 3, none⟩) hbW).trans cR3, q3⟩ (fun hHeld7 => ?_)
                clear hK K
                try simp only [Act.put, List.setIfInBounds_toArray, List.set_cons_zero, List.set_cons_succ]
                refine wpAnyH_ready (rs := [10]) (by kernel_rfl) (by simp) ?_
                refine AllReadyH.cons rfl (fun K hK => ?_) AllReadyH.nil
                refine step_append_ownJ (by rfl) _ _ _ (by rfl) W.heap.size 48 i0 _ 4 32 Try.underlying26 hi hz0 hz1 hz2 rfl (by omega) _ j _ (by rfl) ho3 ⟨u1.heap.size, 0, none⟩ 1 1 ([.int .i64 x.n, .int .i64 x.r, .int .i64 x.c, .int .i64 x.l]) (by rfl) (by rfl) (World.news_of_block (cs := #[.int .i64 x.n, .int .i64 x.r, .int .i64 x.c, .int .i64 x.l]) (t := 48) (fr := (0, 0)) hX) (by simp [Value.oneCell']) (by unfold maxLen; omega) (by omega) q3.size ?_
                intro v4 w4 hown4 hgrow4
                have q4 : Below W.heap.size W w4 := bl_grown q3 ho3 (Nat.le_refl _) hgrow4
                refine hK.out _ _ ⟨(q4.cell (p := ⟨b, off + k * 4, none⟩) hbW).trans cR0, (q4.cell (p := ⟨b, off + k * 4 + 1, none⟩) hbW).trans cR1, (q4.cell (p := ⟨b, off + k * 4 + 2, none⟩) hbW).trans cR2, (q4.cell (p := ⟨b, off + k * 4 + 3, none⟩) hbW).trans cR3, q4⟩ (fun hHeld8 => ?_)
                clear hK K
                try simp only [Act.put, List.setIfInBounds_toArray, List.set_cons_zero, List.set_cons_succ]
                clear hgrow4
                refine wpAnyH_ready (rs := [14]) (by kernel_rfl) (by simp) ?_
                refine AllReadyH.cons rfl (fun K hK => ?_) AllReadyH.nil
                refine step_append_ownJ (by rfl) _ _ _ (by rfl) W.heap.size 48 i0 _ 4 32 Try.underlying26 hi hz0 hz1 hz2 rfl (by omega) _ (j + 1) _ (by rfl) hown4 (behindJ g j cap 4) (k - j) (cap - j) ((ord.drop j).flatMap encPg) (by rfl) (by rw [flat_len encPg_len, List.length_drop, HON.out]) (rd_flat encPg_len (Rd.behindJ HON.out hNc (rd_at0 HRO.out q4))) (encJ_one encPg_one _) (by unfold maxLen; omega) (by omega) q4.size ?_
                intro v5 w5 hown5 hgrow5
                have q5 : Below W.heap.size W w5 := bl_grown q4 hown4 (Nat.le_refl _) hgrow5
                refine hK.out _ _ ⟨(q5.cell (p := ⟨b, off + k * 4, none⟩) hbW).trans cR0, (q5.cell (p := ⟨b, off + k * 4 + 1, none⟩) hbW).trans cR1, (q5.cell (p := ⟨b, off + k * 4 + 2, none⟩) hbW).trans cR2, (q5.cell (p := ⟨b, off + k * 4 + 3, none⟩) hbW).trans cR3, q5⟩ (fun hHeld9 => ?_)
                clear hK K
                try simp only [Act.put, List.setIfInBounds_toArray, List.set_cons_zero, List.set_cons_succ]
                try simp only [List.getElem_toArray, List.getElem_cons_succ, List.getElem_cons_zero]
                try simp only [Act.put, List.setIfInBounds_toArray, List.set_cons_zero, List.set_cons_succ]
                refine heldI_take 15 4 ?vv40 rfl (by kernel_rfl) (by kernel_rfl) (by kernel_rfl) rfl (fun _ _ _ h => h) (by rfl) ?hy40 (by assumption) ?rest40
                case hy40 => (intro w hSw; (try dsimp only at hSw); go_simp; try with_reducible rfl)
                try simp only [Act.put, List.setIfInBounds_toArray, List.set_cons_zero, List.set_cons_succ]
                refine wpAnyH_done (by kernel_rfl) ?_ _
                have ho5 : w5.ownsRow W.heap.size 48 4 v5 (k + 1) ((rowE ord x [] j).flatMap encPg) := by
                  have e1 : j + 1 + (k - j) = k + 1 := by omega
                  have h9 := hown5
                  rw [e1] at h9
                  have e2 : (rowE ord x [] j).flatMap encPg = (ord.take j).flatMap encPg ++ [.int .i64 x.n, .int .i64 x.r, .int .i64 x.c, .int .i64 x.l] ++ (ord.drop j).flatMap encPg := by unfold rowE; simp [encPg]
                  rw [e2]; exact h9
                have HO5 := hide ho5
                have HB5 := hide q5
                clear ho5 hown5 hgrow5 q5 hown4 q4 ho3
                try clear q3
                try clear q2
                try clear q1
                try clear own0
                try clear hX
                try clear gX
                try clear gE
                try clear hgrow3
                clear hi hz0 hz1 hz2
                have hlen : (rowE ord x [] j).length = k + 1 := by rw [rowE_len, HON.out]; rfl
                rcases own_form encPg_len HO5.out hlen with ⟨_, h0, _⟩ | ⟨g', cap', cs, rfl, hg', hB', hs', hnc', hm', ht'⟩
                · omega
                have HO6 : Hid (rowE ord x [] j = sortE kyP (zs.take (k + 1))) := hide (by rw [HNX.out, HREF.out])
                clear hB' hs' ht' hg' hlen
                go_wp2
                go_roundg (n - (k + 1))
                case measure => omega
                case rel =>
                  refine ⟨k + 1, g', cap', by omega, by omega, by go_num, rfl, hnc', hm', ?_, (HBr.out.trans (HB5.out.mono HBr.out.size) : Below w.heap.size w _)⟩
                  rw [← HO6.out]; exact own_baseH HO5.out HBr.out.size
            · go_simp
              have hX : Blk ((World.alloc W (.cells #[.int .i64 x.n, .int .i64 x.r, .int .i64 x.c, .int .i64 x.l] 48)).drew) W.heap.size 48 #[.int .i64 x.n, .int .i64 x.r, .int .i64 x.c, .int .i64 x.l] := Blk.new W.drew _ _
              have q1 : Below W.heap.size W ((World.alloc W (.cells #[.int .i64 x.n, .int .i64 x.r, .int .i64 x.c, .int .i64 x.l] 48)).drew) := (Below.drew (Below.refl W.heap.size W)).alloc (Nat.le_refl _) _
              have gX : W.heap.size < ((World.alloc W (.cells #[.int .i64 x.n, .int .i64 x.r, .int .i64 x.c, .int .i64 x.l] 48)).drew).heap.size := by simp
              generalize (World.alloc W (.cells #[.int .i64 x.n, .int .i64 x.r, .int .i64 x.c, .int .i64 x.l] 48)).drew = u1 at hX q1 gX ⊢
              refine hK.out _ _ ⟨(q1.cell (p := ⟨b, off + k * 4, none⟩) hbW).trans cR0, (q1.cell (p := ⟨b, off + k * 4 + 1, none⟩) hbW).trans cR1, (q1.cell (p := ⟨b, off + k * 4 + 2, none⟩) hbW).trans cR2, (q1.cell (p := ⟨b, off + k * 4 + 3, none⟩) hbW).trans cR3, q1⟩ (fun hHeld10 => ?_)
              clear hK K
              try simp only [Act.put, List.setIfInBounds_toArray, List.set_cons_zero, List.set_cons_succ]
              refine wpAnyH_ready (rs := [0]) (by kernel_rfl) (by simp) ?_
              refine AllReadyH.cons rfl (fun K hK => ?_) AllReadyH.nil
              go_simp
              have own0 : (World.alloc u1 (.cells #[] 48)).ownsRow W.heap.size 48 4 (.slice (some ⟨u1.heap.size, 0, none⟩) 0 0) 0 [] := World.ownsRow_made u1 #[] 0 q1.size (by simp [maxLen]) rfl
              have q2 : Below W.heap.size W (World.alloc u1 (.cells #[] 48)) := q1.alloc q1.size _
              have gE : u1.heap.size < (World.alloc u1 (.cells #[] 48)).heap.size := by simp
              have hX := hX.alloc (.cells #[] 48)
              generalize World.alloc u1 (.cells #[] 48) = u2 at own0 hX q2 gE ⊢
              refine hK.out _ _ ⟨(q2.cell (p := ⟨b, off + k * 4, none⟩) hbW).trans cR0, (q2.cell (p := ⟨b, off + k * 4 + 1, none⟩) hbW).trans cR1, (q2.cell (p := ⟨b, off + k * 4 + 2, none⟩) hbW).trans cR2, (q2.cell (p := ⟨b, off + k * 4 + 3, none⟩) hbW).trans cR3, q2⟩ (fun hHeld11 => ?_)
              clear hK K
              try simp only [Act.put, List.setIfInBounds_toArray, List.set_cons_zero, List.set_cons_succ]
              refine wpAnyH_ready (rs := [4]) (by kernel_rfl) (by simp) ?_
              refine AllReadyH.cons rfl (fun K hK => ?_) AllReadyH.nil
              refine step_append_ownJ (by rfl) _ _ _ (by rfl) W.heap.size 48 i0 _ 4 32 Try.underlying26 hi hz0 hz1 hz2 rfl (by omega) _ 0 [] (by rfl) own0 ⟨g, 0, none⟩ j cap ((ord.take j).flatMap encPg) (by rfl) (by rw [flat_len encPg_len, List.length_take, HON.out, Nat.min_eq_left hjN]) (rd_flat encPg_len ((rd_at0 HRO.out q2).takeJ j)) (encJ_one encPg_one _) (by unfold maxLen; omega) (by omega) q2.size ?_
              intro v3 w3 hown3 hgrow3
              have q3 : Below W.heap.size W w3 := bl_grown q2 own0 (Nat.le_refl _) hgrow3
              have ho3 : w3.ownsRow W.heap.size 48 4 v3 j ((ord.take j).flatMap encPg) := by first | exact hown3 | (rw [Nat.zero_add, List.nil_append] at hown3; exact hown3)
              clear hown3
              have hX := hX.grown hgrow3 (by simp [Value.ownBlock]; omega)
              refine hK.out _ _ ⟨(q3.cell (p := ⟨b, off + k * 4, none⟩) hbW).trans cR0, (q3.cell (p := ⟨b, off + k * 4 + 1, none⟩) hbW).trans cR1, (q3.cell (p := ⟨b, off + k * 4 + 2, none⟩) hbW).trans cR2, (q3.cell (p := ⟨b, off + k * 4 + 3, none⟩) hbW).trans cR3, q3⟩ (fun hHeld12 => ?_)
              clear hK K
              try simp only [Act.put, List.setIfInBounds_toArray, List.set_cons_zero, List.set_cons_succ]
              refine wpAnyH_ready (rs := [10]) (by kernel_rfl) (by simp) ?_
              refine AllReadyH.cons rfl (fun K hK => ?_) AllReadyH.nil
              refine step_append_ownJ (by rfl) _ _ _ (by rfl) W.heap.size 48 i0 _ 4 32 Try.underlying26 hi hz0 hz1 hz2 rfl (by omega) _ j _ (by rfl) ho3 ⟨W.heap.size, 0, none⟩ 1 1 ([.int .i64 x.n, .int .i64 x.r, .int .i64 x.c, .int .i64 x.l]) (by rfl) (by rfl) (World.news_of_block (cs := #[.int .i64 x.n, .int .i64 x.r, .int .i64 x.c, .int .i64 x.l]) (t := 48) (fr := (0, 0)) hX) (by simp [Value.oneCell']) (by unfold maxLen; omega) (by omega) q3.size ?_
              intro v4 w4 hown4 hgrow4
              have q4 : Below W.heap.size W w4 := bl_grown q3 ho3 (Nat.le_refl _) hgrow4
              refine hK.out _ _ ⟨(q4.cell (p := ⟨b, off + k * 4, none⟩) hbW).trans cR0, (q4.cell (p := ⟨b, off + k * 4 + 1, none⟩) hbW).trans cR1, (q4.cell (p := ⟨b, off + k * 4 + 2, none⟩) hbW).trans cR2, (q4.cell (p := ⟨b, off + k * 4 + 3, none⟩) hbW).trans cR3, q4⟩ (fun hHeld13 => ?_)
              clear hK K
              try simp only [Act.put, List.setIfInBounds_toArray, List.set_cons_zero, List.set_cons_succ]
              clear hgrow4
              refine wpAnyH_ready (rs := [14]) (by kernel_rfl) (by simp) ?_
              refine AllReadyH.cons rfl (fun K hK => ?_) AllReadyH.nil
              refine step_append_ownJ (by rfl) _ _ _ (by rfl) W.heap.size 48 i0 _ 4 32 Try.underlying26 hi hz0 hz1 hz2 rfl (by omega) _ (j + 1) _ (by rfl) hown4 (behindJ g j cap 4) (k - j) (cap - j) ((ord.drop j).flatMap encPg) (by rfl) (by rw [flat_len encPg_len, List.length_drop, HON.out]) (rd_flat encPg_len (Rd.behindJ HON.out hNc (rd_at0 HRO.out q4))) (encJ_one encPg_one _) (by unfold maxLen; omega) (by omega) q4.size ?_
              intro v5 w5 hown5 hgrow5
              have q5 : Below W.heap.size W w5 := bl_grown q4 hown4 (Nat.le_refl _) hgrow5
              refine hK.out _ _ ⟨(q5.cell (p := ⟨b, off + k * 4, none⟩) hbW).trans cR0, (q5.cell (p := ⟨b, off + k * 4 + 1, none⟩) hbW).trans cR1, (q5.cell (p := ⟨b, off + k * 4 + 2, none⟩) hbW).trans cR2, (q5.cell (p := ⟨b, off + k * 4 + 3, none⟩) hbW).trans cR3, q5⟩ (fun hHeld14 => ?_)
              clear hK K
              try simp only [Act.put, List.setIfInBounds_toArray, List.set_cons_zero, List.set_cons_succ]
              try simp only [List.getElem_toArray, List.getElem_cons_succ, List.getElem_cons_zero]
              try simp only [Act.put, List.setIfInBounds_toArray, List.set_cons_zero, List.set_cons_succ]
              refine heldI_take 15 4 ?vv41 rfl (by kernel_rfl) (by kernel_rfl) (by kernel_rfl) rfl (fun _ _ _ h => h) (by rfl) ?hy41 (by assumption) ?rest41
              case hy41 => (intro w hSw; (try dsimp only at hSw); go_simp; try with_reducible rfl)
              try simp only [Act.put, List.setIfInBounds_toArray, List.set_cons_zero, List.set_cons_succ]
              refine wpAnyH_done (by kernel_rfl) ?_ _
              have ho5 : w5.ownsRow W.heap.size 48 4 v5 (k + 1) ((rowE ord x [] j).flatMap encPg) := by
                have e1 : j + 1 + (k - j) = k + 1 := by omega
                have h9 := hown5
                rw [e1] at h9
                have e2 : (rowE ord x [] j).flatMap encPg = (ord.take j).flatMap encPg ++ [.int .i64 x.n, .int .i64 x.r, .int .i64 x.c, .int .i64 x.l] ++ (ord.drop j).flatMap encPg := by unfold rowE; simp [encPg]
                rw [e2]; exact h9
              have HO5 := hide ho5
              have HB5 := hide q5
              clear ho5 hown5 hgrow5 q5 hown4 q4 ho3
              try clear q3
              try clear q2
              try clear q1
              try clear own0
              try clear hX
              try clear gX
              try clear gE
              try clear hgrow3
              clear hi hz0 hz1 hz2
              have hlen : (rowE ord x [] j).length = k + 1 := by rw [rowE_len, HON.out]; rfl
              rcases own_form encPg_len HO5.out hlen with ⟨_, h0, _⟩ | ⟨g', cap', cs, rfl, hg', hB', hs', hnc', hm', ht'⟩
              · omega
              have HO6 : Hid (rowE ord x [] j = sortE kyP (zs.take (k + 1))) := hide (by rw [HNX.out, HREF.out])
              clear hB' hs' ht' hg' hlen
              go_wp2
              go_roundg (n - (k + 1))
              case measure => omega
              case rel =>
                refine ⟨k + 1, g', cap', by omega, by omega, by go_num, rfl, hnc', hm', ?_, (HBr.out.trans (HB5.out.mono HBr.out.size) : Below w.heap.size w _)⟩
                rw [← HO6.out]; exact own_baseH HO5.out HBr.out.size
          | succ jp =>
            have hjl : jp < ord.length := by rw [HON.out]; omega
            obtain ⟨b', off', he, hb', hat⟩ := rdPg (own_rd' encPg_len OJ.out HON.out) (by omega)
            cases he
            obtain ⟨y, hy, hyc⟩ := hat jp hjl
            obtain ⟨gg, _, y1, y2, _⟩ := hyc wr (Below.refl _ _)
            simp only [Nat.zero_add] at y1 y2
            have HYY := hide hy
            have HYI := hide (HOI.out y (List.mem_of_getElem? hy))
            clear hy hyc hat hb'
            have k2 : (0 : Int) < (jp : Int) + 1 := by omega
            have k3 : (0 : Int) ≤ (jp : Int) := by omega
            have k4 : (jp : Int) < (k : Int) := by omega
            have k5 : IntKind.i64.wrap ((jp : Int) + 1) = (jp : Int) + 1 := IntWalk.i64_in _ (by omega)
            have k7 : IntKind.i64.wrap (jp : Int) = (jp : Int) := IntWalk.i64_in _ (by omega)
            have k8 : (jp : Int) + 1 - 1 = (jp : Int) := by omega
            have H4 : x.r < y.r ∨ (¬ x.r < y.r ∧ ¬ y.r = x.r) ∨ (y.r = x.r ∧ x.c < y.c) ∨ (y.r = x.r ∧ ¬ x.c < y.c) := by omega
            cases hlq : decide (kyP y < kyP x) with
            | true =>
              have hlt2 : kyP y < kyP x := by simpa using hlq
              have HGO := hide (refk_go (s := kyP x) (show kyP ord[jp]! < kyP x by rw [getB HYY.out]; exact hlt2))
              have H2 : x.r < y.r ∨ (y.r = x.r ∧ x.c < y.c) := by
                have := (ltP_key HXI.out HYI.out).2 hlt2
                unfold ltP at this; simp only [Bool.or_eq_true, Bool.and_eq_true, decide_eq_true_eq] at this
                omega
              clear hlq hlt2 H4
              rcases H2 with h1 | ⟨h1, h2⟩
              · have h1' : ¬ y.r < x.r := by omega
                obtain ⟨W, hW⟩ : ∃ W, W = wr := ⟨_, rfl⟩
                subst hW
                go_wp2_with fail
                refine wp_region_held_drew (S := fun w' => w'.cell? ⟨g, jp * 4 + 1, none⟩ = some (.int .i64 y.r) ∧ w'.cell? ⟨g, jp * 4 + 2, none⟩ = some (.int .i64 y.c) ∧ w'.cell? ⟨b, off + k * 4 + 1, none⟩ = some (.int .i64 x.r) ∧ w'.cell? ⟨b, off + k * 4 + 2, none⟩ = some (.int .i64 x.c) ∧ Below W.heap.size W w') (by kernel_rfl) ⟨y1, y2, x1, x2, (Below.refl _ _).drew⟩ (fun hHeld => ?_)
                first
                  | (refine heldI_skip 0 20 rfl (by kernel_rfl) (by kernel_rfl) (by kernel_rfl) rfl (fun _ _ _ h => h) (by rfl) (by assumption) ?_)
                  | (refine heldI_take 0 20 ?vv113 rfl (by kernel_rfl) (by kernel_rfl) (by kernel_rfl) rfl (fun _ _ _ h => h) (by rfl) ?hy113 (by assumption) ?rest113
                     case hy113 => (intro w hSw; (try dsimp only at hSw); go_simp; try with_reducible rfl))
                try simp only [Act.put, List.setIfInBounds_toArray, List.set_cons_zero, List.set_cons_succ]
                first
                  | (refine heldI_skip 1 21 rfl (by kernel_rfl) (by kernel_rfl) (by kernel_rfl) rfl (fun _ _ _ h => h) (by rfl) (by assumption) ?_)
                  | (refine heldI_take 1 21 ?vv114 rfl (by kernel_rfl) (by kernel_rfl) (by kernel_rfl) rfl (fun _ _ _ h => h) (by rfl) ?hy114 (by assumption) ?rest114
                     case hy114 => (intro w hSw; (try dsimp only at hSw); go_simp; try with_reducible rfl))
                try simp only [Act.put, List.setIfInBounds_toArray, List.set_cons_zero, List.set_cons_succ]
                first
                  | (refine heldI_skip 2 22 rfl (by kernel_rfl) (by kernel_rfl) (by kernel_rfl) rfl (fun _ _ _ h => h) (by rfl) (by assumption) ?_)
                  | (refine heldI_take 2 22 ?vv115 rfl (by kernel_rfl) (by kernel_rfl) (by kernel_rfl) rfl (fun _ _ _ h => h) (by rfl) ?hy115 (by assumption) ?rest115
                     case hy115 => (intro w hSw; (try dsimp only at hSw); go_simp; try with_reducible rfl))
                try simp only [Act.put, List.setIfInBounds_toArray, List.set_cons_zero, List.set_cons_succ]
                first
                  | (refine heldI_skip 3 23 rfl (by kernel_rfl) (by kernel_rfl) (by kernel_rfl) rfl (fun _ _ _ h => h) (by rfl) (by assumption) ?_)
                  | (refine heldI_take 3 23 ?vv116 rfl (by kernel_rfl) (by kernel_rfl) (by kernel_rfl) rfl (fun _ _ _ h => h) (by rfl) ?hy116 (by assumption) ?rest116
                     case hy116 => (intro w hSw; (try dsimp only at hSw); go_simp; try with_reducible rfl))
                try simp only [Act.put, List.setIfInBounds_toArray, List.set_cons_zero, List.set_cons_succ]
                first
                  | (refine heldI_skip 4 24 rfl (by kernel_rfl) (by kernel_rfl) (by kernel_rfl) rfl (fun _ _ _ h => h) (by rfl) (by assumption) ?_)
                  | (refine heldI_take 4 24 ?vv117 rfl (by kernel_rfl) (by kernel_rfl) (by kernel_rfl) rfl (fun _ _ _ h => h) (by rfl) ?hy117 (by assumption) ?rest117
                     case hy117 => (intro w hSw; (try dsimp only at hSw); go_simp; try with_reducible rfl))
                try simp only [Act.put, List.setIfInBounds_toArray, List.set_cons_zero, List.set_cons_succ]
                first
                  | (refine heldI_skip 5 25 rfl (by kernel_rfl) (by kernel_rfl) (by kernel_rfl) rfl (fun _ _ _ h => h) (by rfl) (by assumption) ?_)
                  | (refine heldI_take 5 25 ?vv118 rfl (by kernel_rfl) (by kernel_rfl) (by kernel_rfl) rfl (fun _ _ _ h => h) (by rfl) ?hy118 (by assumption) ?rest118
                     case hy118 => (intro w hSw; (try dsimp only at hSw); go_simp; try with_reducible rfl))
                try simp only [Act.put, List.setIfInBounds_toArray, List.set_cons_zero, List.set_cons_succ]
                first
                  | (refine heldI_skip 6 26 rfl (by kernel_rfl) (by kernel_rfl) (by kernel_rfl) rfl (fun _ _ _ h => h) (by rfl) (by assumption) ?_)
                  | (refine heldI_take 6 26 ?vv119 rfl (by kernel_rfl) (by kernel_rfl) (by kernel_rfl) rfl (fun _ _ _ h => h) (by rfl) ?hy119 (by assumption) ?rest119
                     case hy119 => (intro w hSw; (try dsimp only at hSw); go_simp; try with_reducible rfl))
                try simp only [Act.put, List.setIfInBounds_toArray, List.set_cons_zero, List.set_cons_succ]
                first
                  | (refine heldI_skip 7 27 rfl (by kernel_rfl) (by kernel_rfl) (by kernel_rfl) rfl (fun _ _ _ h => h) (by rfl) (by assumption) ?_)
                  | (refine heldI_take 7 27 ?vv120 rfl (by kernel_rfl) (by kernel_rfl) (by kernel_rfl) rfl (fun _ _ _ h => h) (by rfl) ?hy120 (by assumption) ?rest120
                     case hy120 => (intro w hSw; (try dsimp only at hSw); go_simp; try with_reducible rfl))
                try simp only [Act.put, List.setIfInBounds_toArray, List.set_cons_zero, List.set_cons_succ]
                first
                  | (refine heldI_skip 8 28 rfl (by kernel_rfl) (by kernel_rfl) (by kernel_rfl) rfl (fun _ _ _ h => h) (by rfl) (by assumption) ?_)
                  | (refine heldI_take 8 28 ?vv121 rfl (by kernel_rfl) (by kernel_rfl) (by kernel_rfl) rfl (fun _ _ _ h => h) (by rfl) ?hy121 (by assumption) ?rest121
                     case hy121 => (intro w hSw; (try dsimp only at hSw); go_simp; try with_reducible rfl))
                try simp only [Act.put, List.setIfInBounds_toArray, List.set_cons_zero, List.set_cons_succ]
                first
                  | (refine heldI_skip 9 29 rfl (by kernel_rfl) (by kernel_rfl) (by kernel_rfl) rfl (fun _ _ _ h => h) (by rfl) (by assumption) ?_)
                  | (refine heldI_take 9 29 ?vv122 rfl (by kernel_rfl) (by kernel_rfl) (by kernel_rfl) rfl (fun _ _ _ h => h) (by rfl) ?hy122 (by assumption) ?rest122
                     case hy122 => (intro w hSw; (try dsimp only at hSw); go_simp; try with_reducible rfl))
                try simp only [Act.put, List.setIfInBounds_toArray, List.set_cons_zero, List.set_cons_succ]
                first
                  | (refine heldI_skip 10 30 rfl (by kernel_rfl) (by kernel_rfl) (by kernel_rfl) rfl (fun _ _ _ h => h) (by rfl) (by assumption) ?_)
                  | (refine heldI_take 10 30 ?vv123 rfl (by kernel_rfl) (by kernel_rfl) (by kernel_rfl) rfl (fun _ _ _ h => h) (by rfl) ?hy123 (by assumption) ?rest123
                     case hy123 => (intro w hSw; (try dsimp only at hSw); go_simp; try with_reducible rfl))
                try simp only [Act.put, List.setIfInBounds_toArray, List.set_cons_zero, List.set_cons_succ]
                first
                  | (refine heldI_skip 11 31 rfl (by kernel_rfl) (by kernel_rfl) (by kernel_rfl) rfl (fun _ _ _ h => h) (by rfl) (by assumption) ?_)
                  | (refine heldI_take 11 31 ?vv124 rfl (by kernel_rfl) (by kernel_rfl) (by kernel_rfl) rfl (fun _ _ _ h => h) (by rfl) ?hy124 (by assumption) ?rest124
                     case hy124 => (intro w hSw; (try dsimp only at hSw); go_simp; try with_reducible rfl))
                try simp only [Act.put, List.setIfInBounds_toArray, List.set_cons_zero, List.set_cons_succ]
                first
                  | (refine heldI_skip 12 32 rfl (by kernel_rfl) (by kernel_rfl) (by kernel_rfl) rfl (fun _ _ _ h => h) (by rfl) (by assumption) ?_)
                  | (refine heldI_take 12 32 ?vv125 rfl (by kernel_rfl) (by kernel_rfl) (by kernel_rfl) rfl (fun _ _ _ h => h) (by rfl) ?hy125 (by assumption) ?rest125
                     case hy125 => (intro w hSw; (try dsimp only at hSw); go_simp; try with_reducible rfl))
                try simp only [Act.put, List.setIfInBounds_toArray, List.set_cons_zero, List.set_cons_succ]
                first
                  | (refine heldI_skip 13 33 rfl (by kernel_rfl) (by kernel_rfl) (by kernel_rfl) rfl (fun _ _ _ h => h) (by rfl) (by assumption) ?_)
                  | (refine heldI_take 13 33 ?vv126 rfl (by kernel_rfl) (by kernel_rfl) (by kernel_rfl) rfl (fun _ _ _ h => h) (by rfl) ?hy126 (by assumption) ?rest126
                     case hy126 => (intro w hSw; (try dsimp only at hSw); go_simp; try with_reducible rfl))
                try simp only [Act.put, List.setIfInBounds_toArray, List.set_cons_zero, List.set_cons_succ]
                first
                  | (refine heldI_skip 14 34 rfl (by kernel_rfl) (by kernel_rfl) (by kernel_rfl) rfl (fun _ _ _ h => h) (by rfl) (by assumption) ?_)
                  | (refine heldI_take 14 34 ?vv127 rfl (by kernel_rfl) (by kernel_rfl) (by kernel_rfl) rfl (fun _ _ _ h => h) (by rfl) ?hy127 (by assumption) ?rest127
                     case hy127 => (intro w hSw; (try dsimp only at hSw); go_simp; try with_reducible rfl))
                try simp only [Act.put, List.setIfInBounds_toArray, List.set_cons_zero, List.set_cons_succ]
                first
                  | (refine heldI_skip 15 35 rfl (by kernel_rfl) (by kernel_rfl) (by kernel_rfl) rfl (fun _ _ _ h => h) (by rfl) (by assumption) ?_)
                  | (refine heldI_take 15 35 ?vv128 rfl (by kernel_rfl) (by kernel_rfl) (by kernel_rfl) rfl (fun _ _ _ h => h) (by rfl) ?hy128 (by assumption) ?rest128
                     case hy128 => (intro w hSw; (try dsimp only at hSw); go_simp; try with_reducible rfl))
                try simp only [Act.put, List.setIfInBounds_toArray, List.set_cons_zero, List.set_cons_succ]
                first
                  | (refine heldI_skip 16 36 rfl (by kernel_rfl) (by kernel_rfl) (by kernel_rfl) rfl (fun _ _ _ h => h) (by rfl) (by assumption) ?_)
                  | (refine heldI_take 16 36 ?vv129 rfl (by kernel_rfl) (by kernel_rfl) (by kernel_rfl) rfl (fun _ _ _ h => h) (by rfl) ?hy129 (by assumption) ?rest129
                     case hy129 => (intro w hSw; (try dsimp only at hSw); go_simp; try with_reducible rfl))
                try simp only [Act.put, List.setIfInBounds_toArray, List.set_cons_zero, List.set_cons_succ]
                first
                  | (refine heldI_skip 17 37 rfl (by kernel_rfl) (by kernel_rfl) (by kernel_rfl) rfl (fun _ _ _ h => h) (by rfl) (by assumption) ?_)
                  | (refine heldI_take 17 37 ?vv130 rfl (by kernel_rfl) (by kernel_rfl) (by kernel_rfl) rfl (fun _ _ _ h => h) (by rfl) ?hy130 (by assumption) ?rest130
                     case hy130 => (intro w hSw; (try dsimp only at hSw); go_simp; try with_reducible rfl))
                try simp only [Act.put, List.setIfInBounds_toArray, List.set_cons_zero, List.set_cons_succ]
                first
                  | (refine heldI_skip 18 38 rfl (by kernel_rfl) (by kernel_rfl) (by kernel_rfl) rfl (fun _ _ _ h => h) (by rfl) (by assumption) ?_)
                  | (refine heldI_take 18 38 ?vv131 rfl (by kernel_rfl) (by kernel_rfl) (by kernel_rfl) rfl (fun _ _ _ h => h) (by rfl) ?hy131 (by assumption) ?rest131
                     case hy131 => (intro w hSw; (try dsimp only at hSw); go_simp; try with_reducible rfl))
                try simp only [Act.put, List.setIfInBounds_toArray, List.set_cons_zero, List.set_cons_succ]
                first
                  | (refine heldI_skip 19 39 rfl (by kernel_rfl) (by kernel_rfl) (by kernel_rfl) rfl (fun _ _ _ h => h) (by rfl) (by assumption) ?_)
                  | (refine heldI_take 19 39 ?vv132 rfl (by kernel_rfl) (by kernel_rfl) (by kernel_rfl) rfl (fun _ _ _ h => h) (by rfl) ?hy132 (by assumption) ?rest132
                     case hy132 => (intro w hSw; (try dsimp only at hSw); go_simp; try with_reducible rfl))
                try simp only [Act.put, List.setIfInBounds_toArray, List.set_cons_zero, List.set_cons_succ]
                first
                  | (refine heldI_skip 20 40 rfl (by kernel_rfl) (by kernel_rfl) (by kernel_rfl) rfl (fun _ _ _ h => h) (by rfl) (by assumption) ?_)
                  | (refine heldI_take 20 40 ?vv133 rfl (by kernel_rfl) (by kernel_rfl) (by kernel_rfl) rfl (fun _ _ _ h => h) (by rfl) ?hy133 (by assumption) ?rest133
                     case hy133 => (intro w hSw; (try dsimp only at hSw); go_simp; try with_reducible rfl))
                try simp only [Act.put, List.setIfInBounds_toArray, List.set_cons_zero, List.set_cons_succ]
                first
                  | (refine heldI_skip 21 41 rfl (by kernel_rfl) (by kernel_rfl) (by kernel_rfl) rfl (fun _ _ _ h => h) (by rfl) (by assumption) ?_)
                  | (refine heldI_take 21 41 ?vv134 rfl (by kernel_rfl) (by kernel_rfl) (by kernel_rfl) rfl (fun _ _ _ h => h) (by rfl) ?hy134 (by assumption) ?rest134
                     case hy134 => (intro w hSw; (try dsimp only at hSw); go_simp; try with_reducible rfl))
                try simp only [Act.put, List.setIfInBounds_toArray, List.set_cons_zero, List.set_cons_succ]
                first
                  | (refine heldI_skip 22 42 rfl (by kernel_rfl) (by kernel_rfl) (by kernel_rfl) rfl (fun _ _ _ h => h) (by rfl) (by assumption) ?_)
                  | (refine heldI_take 22 42 ?vv135 rfl (by kernel_rfl) (by kernel_rfl) (by kernel_rfl) rfl (fun _ _ _ h => h) (by rfl) ?hy135 (by assumption) ?rest135
                     case hy135 => (intro w hSw; (try dsimp only at hSw); go_simp; try with_reducible rfl))
                try simp only [Act.put, List.setIfInBounds_toArray, List.set_cons_zero, List.set_cons_succ]
                first
                  | (refine heldI_skip 23 43 rfl (by kernel_rfl) (by kernel_rfl) (by kernel_rfl) rfl (fun _ _ _ h => h) (by rfl) (by assumption) ?_)
                  | (refine heldI_take 23 43 ?vv136 rfl (by kernel_rfl) (by kernel_rfl) (by kernel_rfl) rfl (fun _ _ _ h => h) (by rfl) ?hy136 (by assumption) ?rest136
                     case hy136 => (intro w hSw; (try dsimp only at hSw); go_simp; try with_reducible rfl))
                try simp only [Act.put, List.setIfInBounds_toArray, List.set_cons_zero, List.set_cons_succ]
                first
                  | (refine heldI_skip 24 44 rfl (by kernel_rfl) (by kernel_rfl) (by kernel_rfl) rfl (fun _ _ _ h => h) (by rfl) (by assumption) ?_)
                  | (refine heldI_take 24 44 ?vv137 rfl (by kernel_rfl) (by kernel_rfl) (by kernel_rfl) rfl (fun _ _ _ h => h) (by rfl) ?hy137 (by assumption) ?rest137
                     case hy137 => (intro w hSw; (try dsimp only at hSw); go_simp; try with_reducible rfl))
                try simp only [Act.put, List.setIfInBounds_toArray, List.set_cons_zero, List.set_cons_succ]
                first
                  | (refine heldI_skip 25 45 rfl (by kernel_rfl) (by kernel_rfl) (by kernel_rfl) rfl (fun _ _ _ h => h) (by rfl) (by assumption) ?_)
                  | (refine heldI_take 25 45 ?vv138 rfl (by kernel_rfl) (by kernel_rfl) (by kernel_rfl) rfl (fun _ _ _ h => h) (by rfl) ?hy138 (by assumption) ?rest138
                     case hy138 => (intro w hSw; (try dsimp only at hSw); go_simp; try with_reducible rfl))
                try simp only [Act.put, List.setIfInBounds_toArray, List.set_cons_zero, List.set_cons_succ]
                first
                  | (refine heldI_skip 26 46 rfl (by kernel_rfl) (by kernel_rfl) (by kernel_rfl) rfl (fun _ _ _ h => h) (by rfl) (by assumption) ?_)
                  | (refine heldI_take 26 46 ?vv139 rfl (by kernel_rfl) (by kernel_rfl) (by kernel_rfl) rfl (fun _ _ _ h => h) (by rfl) ?hy139 (by assumption) ?rest139
                     case hy139 => (intro w hSw; (try dsimp only at hSw); go_simp; try with_reducible rfl))
                try simp only [Act.put, List.setIfInBounds_toArray, List.set_cons_zero, List.set_cons_succ]
                first
                  | (refine heldI_skip 27 47 rfl (by kernel_rfl) (by kernel_rfl) (by kernel_rfl) rfl (fun _ _ _ h => h) (by rfl) (by assumption) ?_)
                  | (refine heldI_take 27 47 ?vv140 rfl (by kernel_rfl) (by kernel_rfl) (by kernel_rfl) rfl (fun _ _ _ h => h) (by rfl) ?hy140 (by assumption) ?rest140
                     case hy140 => (intro w hSw; (try dsimp only at hSw); go_simp; try with_reducible rfl))
                try simp only [Act.put, List.setIfInBounds_toArray, List.set_cons_zero, List.set_cons_succ]
                first
                  | (refine heldI_skip 28 48 rfl (by kernel_rfl) (by kernel_rfl) (by kernel_rfl) rfl (fun _ _ _ h => h) (by rfl) (by assumption) ?_)
                  | (refine heldI_take 28 48 ?vv141 rfl (by kernel_rfl) (by kernel_rfl) (by kernel_rfl) rfl (fun _ _ _ h => h) (by rfl) ?hy141 (by assumption) ?rest141
                     case hy141 => (intro w hSw; (try dsimp only at hSw); go_simp; try with_reducible rfl))
                try simp only [Act.put, List.setIfInBounds_toArray, List.set_cons_zero, List.set_cons_succ]
                first
                  | (refine heldI_skip 29 49 rfl (by kernel_rfl) (by kernel_rfl) (by kernel_rfl) rfl (fun _ _ _ h => h) (by rfl) (by assumption) ?_)
                  | (refine heldI_take 29 49 ?vv142 rfl (by kernel_rfl) (by kernel_rfl) (by kernel_rfl) rfl (fun _ _ _ h => h) (by rfl) ?hy142 (by assumption) ?rest142
                     case hy142 => (intro w hSw; (try dsimp only at hSw); go_simp; try with_reducible rfl))
                try simp only [Act.put, List.setIfInBounds_toArray, List.set_cons_zero, List.set_cons_succ]
                first
                  | (refine heldI_skip 30 50 rfl (by kernel_rfl) (by kernel_rfl) (by kernel_rfl) rfl (fun _ _ _ h => h) (by rfl) (by assumption) ?_)
                  | (refine heldI_take 30 50 ?vv143 rfl (by kernel_rfl) (by kernel_rfl) (by kernel_rfl) rfl (fun _ _ _ h => h) (by rfl) ?hy143 (by assumption) ?rest143
                     case hy143 => (intro w hSw; (try dsimp only at hSw); go_simp; try with_reducible rfl))
                try simp only [Act.put, List.setIfInBounds_toArray, List.set_cons_zero, List.set_cons_succ]
                first
                  | (refine heldI_skip 31 51 rfl (by kernel_rfl) (by kernel_rfl) (by kernel_rfl) rfl (fun _ _ _ h => h) (by rfl) (by assumption) ?_)
                  | (refine heldI_take 31 51 ?vv144 rfl (by kernel_rfl) (by kernel_rfl) (by kernel_rfl) rfl (fun _ _ _ h => h) (by rfl) ?hy144 (by assumption) ?rest144
                     case hy144 => (intro w hSw; (try dsimp only at hSw); go_simp; try with_reducible rfl))
                try simp only [Act.put, List.setIfInBounds_toArray, List.set_cons_zero, List.set_cons_succ]
                first
                  | (refine heldI_skip 32 52 rfl (by kernel_rfl) (by kernel_rfl) (by kernel_rfl) rfl (fun _ _ _ h => h) (by rfl) (by assumption) ?_)
                  | (refine heldI_take 32 52 ?vv145 rfl (by kernel_rfl) (by kernel_rfl) (by kernel_rfl) rfl (fun _ _ _ h => h) (by rfl) ?hy145 (by assumption) ?rest145
                     case hy145 => (intro w hSw; (try dsimp only at hSw); go_simp; try with_reducible rfl))
                try simp only [Act.put, List.setIfInBounds_toArray, List.set_cons_zero, List.set_cons_succ]
                first
                  | (refine heldI_skip 33 53 rfl (by kernel_rfl) (by kernel_rfl) (by kernel_rfl) rfl (fun _ _ _ h => h) (by rfl) (by assumption) ?_)
                  | (refine heldI_take 33 53 ?vv146 rfl (by kernel_rfl) (by kernel_rfl) (by kernel_rfl) rfl (fun _ _ _ h => h) (by rfl) ?hy146 (by assumption) ?rest146
                     case hy146 => (intro w hSw; (try dsimp only at hSw); go_simp; try with_reducible rfl))
                try simp only [Act.put, List.setIfInBounds_toArray, List.set_cons_zero, List.set_cons_succ]
                first
                  | (refine heldI_skip 34 54 rfl (by kernel_rfl) (by kernel_rfl) (by kernel_rfl) rfl (fun _ _ _ h => h) (by rfl) (by assumption) ?_)
                  | (refine heldI_take 34 54 ?vv147 rfl (by kernel_rfl) (by kernel_rfl) (by kernel_rfl) rfl (fun _ _ _ h => h) (by rfl) ?hy147 (by assumption) ?rest147
                     case hy147 => (intro w hSw; (try dsimp only at hSw); go_simp; try with_reducible rfl))
                try simp only [Act.put, List.setIfInBounds_toArray, List.set_cons_zero, List.set_cons_succ]
                first
                  | (refine heldI_skip 35 55 rfl (by kernel_rfl) (by kernel_rfl) (by kernel_rfl) rfl (fun _ _ _ h => h) (by rfl) (by assumption) ?_)
                  | (refine heldI_take 35 55 ?vv148 rfl (by kernel_rfl) (by kernel_rfl) (by kernel_rfl) rfl (fun _ _ _ h => h) (by rfl) ?hy148 (by assumption) ?rest148
                     case hy148 => (intro w hSw; (try dsimp only at hSw); go_simp; try with_reducible rfl))
                try simp only [Act.put, List.setIfInBounds_toArray, List.set_cons_zero, List.set_cons_succ]
                first
                  | (refine heldI_skip 36 56 rfl (by kernel_rfl) (by kernel_rfl) (by kernel_rfl) rfl (fun _ _ _ h => h) (by rfl) (by assumption) ?_)
                  | (refine heldI_take 36 56 ?vv149 rfl (by kernel_rfl) (by kernel_rfl) (by kernel_rfl) rfl (fun _ _ _ h => h) (by rfl) ?hy149 (by assumption) ?rest149
                     case hy149 => (intro w hSw; (try dsimp only at hSw); go_simp; try with_reducible rfl))
                try simp only [Act.put, List.setIfInBounds_toArray, List.set_cons_zero, List.set_cons_succ]
                first
                  | (refine heldI_skip 37 57 rfl (by kernel_rfl) (by kernel_rfl) (by kernel_rfl) rfl (fun _ _ _ h => h) (by rfl) (by assumption) ?_)
                  | (refine heldI_take 37 57 ?vv150 rfl (by kernel_rfl) (by kernel_rfl) (by kernel_rfl) rfl (fun _ _ _ h => h) (by rfl) ?hy150 (by assumption) ?rest150
                     case hy150 => (intro w hSw; (try dsimp only at hSw); go_simp; try with_reducible rfl))
                try simp only [Act.put, List.setIfInBounds_toArray, List.set_cons_zero, List.set_cons_succ]
                first
                  | (refine heldI_skip 38 58 rfl (by kernel_rfl) (by kernel_rfl) (by kernel_rfl) rfl (fun _ _ _ h => h) (by rfl) (by assumption) ?_)
                  | (refine heldI_take 38 58 ?vv151 rfl (by kernel_rfl) (by kernel_rfl) (by kernel_rfl) rfl (fun _ _ _ h => h) (by rfl) ?hy151 (by assumption) ?rest151
                     case hy151 => (intro w hSw; (try dsimp only at hSw); go_simp; try with_reducible rfl))
                try simp only [Act.put, List.setIfInBounds_toArray, List.set_cons_zero, List.set_cons_succ]
                first
                  | (refine heldI_skip 39 59 rfl (by kernel_rfl) (by kernel_rfl) (by kernel_rfl) rfl (fun _ _ _ h => h) (by rfl) (by assumption) ?_)
                  | (refine heldI_take 39 59 ?vv152 rfl (by kernel_rfl) (by kernel_rfl) (by kernel_rfl) rfl (fun _ _ _ h => h) (by rfl) ?hy152 (by assumption) ?rest152
                     case hy152 => (intro w hSw; (try dsimp only at hSw); go_simp; try with_reducible rfl))
                try simp only [Act.put, List.setIfInBounds_toArray, List.set_cons_zero, List.set_cons_succ]
                first
                  | (refine heldI_skip 40 60 rfl (by kernel_rfl) (by kernel_rfl) (by kernel_rfl) rfl (fun _ _ _ h => h) (by rfl) (by assumption) ?_)
                  | (refine heldI_take 40 60 ?vv153 rfl (by kernel_rfl) (by kernel_rfl) (by kernel_rfl) rfl (fun _ _ _ h => h) (by rfl) ?hy153 (by assumption) ?rest153
                     case hy153 => (intro w hSw; (try dsimp only at hSw); go_simp; try with_reducible rfl))
                try simp only [Act.put, List.setIfInBounds_toArray, List.set_cons_zero, List.set_cons_succ]
                first
                  | (refine heldI_skip 41 61 rfl (by kernel_rfl) (by kernel_rfl) (by kernel_rfl) rfl (fun _ _ _ h => h) (by rfl) (by assumption) ?_)
                  | (refine heldI_take 41 61 ?vv154 rfl (by kernel_rfl) (by kernel_rfl) (by kernel_rfl) rfl (fun _ _ _ h => h) (by rfl) ?hy154 (by assumption) ?rest154
                     case hy154 => (intro w hSw; (try dsimp only at hSw); go_simp; try with_reducible rfl))
                try simp only [Act.put, List.setIfInBounds_toArray, List.set_cons_zero, List.set_cons_succ]
                first
                  | (refine heldI_skip 42 62 rfl (by kernel_rfl) (by kernel_rfl) (by kernel_rfl) rfl (fun _ _ _ h => h) (by rfl) (by assumption) ?_)
                  | (refine heldI_take 42 62 ?vv155 rfl (by kernel_rfl) (by kernel_rfl) (by kernel_rfl) rfl (fun _ _ _ h => h) (by rfl) ?hy155 (by assumption) ?rest155
                     case hy155 => (intro w hSw; (try dsimp only at hSw); go_simp; try with_reducible rfl))
                try simp only [Act.put, List.setIfInBounds_toArray, List.set_cons_zero, List.set_cons_succ]
                first
                  | (refine heldI_skip 43 63 rfl (by kernel_rfl) (by kernel_rfl) (by kernel_rfl) rfl (fun _ _ _ h => h) (by rfl) (by assumption) ?_)
                  | (refine heldI_take 43 63 ?vv156 rfl (by kernel_rfl) (by kernel_rfl) (by kernel_rfl) rfl (fun _ _ _ h => h) (by rfl) ?hy156 (by assumption) ?rest156
                     case hy156 => (intro w hSw; (try dsimp only at hSw); go_simp; try with_reducible rfl))
                try simp only [Act.put, List.setIfInBounds_toArray, List.set_cons_zero, List.set_cons_succ]
                refine wpAnyH_done (by kernel_rfl) ?_ _
                clear hHeld
                have BJ : Aside (Below w.heap.size w W.drew) := Below.drew BJ.out
                have OJ : Aside (W.drew.ownsRow w.heap.size 48 4 (.slice (some ⟨g, 0, none⟩) k cap) k (ord.flatMap encPg)) := OJ.out.drew
                generalize W.drew = V at BJ OJ ⊢
                go_wp2
                go_roundg jp
                case measure => omega
                case rel => exact ⟨jp, by go_num, by omega, Nat.le_refl _, OJ, BJ, by show _ = _; rw [← HK.out, HGO.out]⟩
              · obtain ⟨yn, yr, yc, yl⟩ := y
                dsimp only at h1 h2 y1 y2
                subst h1
                obtain ⟨W, hW⟩ : ∃ W, W = wr := ⟨_, rfl⟩
                subst hW
                go_wp2_with fail
                refine wp_region_held_drew (S := fun w' => w'.cell? ⟨g, jp * 4 + 1, none⟩ = some (.int .i64 x.r) ∧ w'.cell? ⟨g, jp * 4 + 2, none⟩ = some (.int .i64 yc) ∧ w'.cell? ⟨b, off + k * 4 + 1, none⟩ = some (.int .i64 x.r) ∧ w'.cell? ⟨b, off + k * 4 + 2, none⟩ = some (.int .i64 x.c) ∧ Below W.heap.size W w') (by kernel_rfl) ⟨y1, y2, x1, x2, (Below.refl _ _).drew⟩ (fun hHeld => ?_)
                first
                  | (refine heldI_skip 0 20 rfl (by kernel_rfl) (by kernel_rfl) (by kernel_rfl) rfl (fun _ _ _ h => h) (by rfl) (by assumption) ?_)
                  | (refine heldI_take 0 20 ?vv157 rfl (by kernel_rfl) (by kernel_rfl) (by kernel_rfl) rfl (fun _ _ _ h => h) (by rfl) ?hy157 (by assumption) ?rest157
                     case hy157 => (intro w hSw; (try dsimp only at hSw); go_simp; try with_reducible rfl))
                try simp only [Act.put, List.setIfInBounds_toArray, List.set_cons_zero, List.set_cons_succ]
                first
                  | (refine heldI_skip 1 21 rfl (by kernel_rfl) (by kernel_rfl) (by kernel_rfl) rfl (fun _ _ _ h => h) (by rfl) (by assumption) ?_)
                  | (refine heldI_take 1 21 ?vv158 rfl (by kernel_rfl) (by kernel_rfl) (by kernel_rfl) rfl (fun _ _ _ h => h) (by rfl) ?hy158 (by assumption) ?rest158
                     case hy158 => (intro w hSw; (try dsimp only at hSw); go_simp; try with_reducible rfl))
                try simp only [Act.put, List.setIfInBounds_toArray, List.set_cons_zero, List.set_cons_succ]
                first
                  | (refine heldI_skip 2 22 rfl (by kernel_rfl) (by kernel_rfl) (by kernel_rfl) rfl (fun _ _ _ h => h) (by rfl) (by assumption) ?_)
                  | (refine heldI_take 2 22 ?vv159 rfl (by kernel_rfl) (by kernel_rfl) (by kernel_rfl) rfl (fun _ _ _ h => h) (by rfl) ?hy159 (by assumption) ?rest159
                     case hy159 => (intro w hSw; (try dsimp only at hSw); go_simp; try with_reducible rfl))
                try simp only [Act.put, List.setIfInBounds_toArray, List.set_cons_zero, List.set_cons_succ]
                first
                  | (refine heldI_skip 3 23 rfl (by kernel_rfl) (by kernel_rfl) (by kernel_rfl) rfl (fun _ _ _ h => h) (by rfl) (by assumption) ?_)
                  | (refine heldI_take 3 23 ?vv160 rfl (by kernel_rfl) (by kernel_rfl) (by kernel_rfl) rfl (fun _ _ _ h => h) (by rfl) ?hy160 (by assumption) ?rest160
                     case hy160 => (intro w hSw; (try dsimp only at hSw); go_simp; try with_reducible rfl))
                try simp only [Act.put, List.setIfInBounds_toArray, List.set_cons_zero, List.set_cons_succ]
                first
                  | (refine heldI_skip 4 24 rfl (by kernel_rfl) (by kernel_rfl) (by kernel_rfl) rfl (fun _ _ _ h => h) (by rfl) (by assumption) ?_)
                  | (refine heldI_take 4 24 ?vv161 rfl (by kernel_rfl) (by kernel_rfl) (by kernel_rfl) rfl (fun _ _ _ h => h) (by rfl) ?hy161 (by assumption) ?rest161
                     case hy161 => (intro w hSw; (try dsimp only at hSw); go_simp; try with_reducible rfl))
                try simp only [Act.put, List.setIfInBounds_toArray, List.set_cons_zero, List.set_cons_succ]
                first
                  | (refine heldI_skip 5 25 rfl (by kernel_rfl) (by kernel_rfl) (by kernel_rfl) rfl (fun _ _ _ h => h) (by rfl) (by assumption) ?_)
                  | (refine heldI_take 5 25 ?vv162 rfl (by kernel_rfl) (by kernel_rfl) (by kernel_rfl) rfl (fun _ _ _ h => h) (by rfl) ?hy162 (by assumption) ?rest162
                     case hy162 => (intro w hSw; (try dsimp only at hSw); go_simp; try with_reducible rfl))
                try simp only [Act.put, List.setIfInBounds_toArray, List.set_cons_zero, List.set_cons_succ]
                first
                  | (refine heldI_skip 6 26 rfl (by kernel_rfl) (by kernel_rfl) (by kernel_rfl) rfl (fun _ _ _ h => h) (by rfl) (by assumption) ?_)
                  | (refine heldI_take 6 26 ?vv163 rfl (by kernel_rfl) (by kernel_rfl) (by kernel_rfl) rfl (fun _ _ _ h => h) (by rfl) ?hy163 (by assumption) ?rest163
                     case hy163 => (intro w hSw; (try dsimp only at hSw); go_simp; try with_reducible rfl))
                try simp only [Act.put, List.setIfInBounds_toArray, List.set_cons_zero, List.set_cons_succ]
                first
                  | (refine heldI_skip 7 27 rfl (by kernel_rfl) (by kernel_rfl) (by kernel_rfl) rfl (fun _ _ _ h => h) (by rfl) (by assumption) ?_)
                  | (refine heldI_take 7 27 ?vv164 rfl (by kernel_rfl) (by kernel_rfl) (by kernel_rfl) rfl (fun _ _ _ h => h) (by rfl) ?hy164 (by assumption) ?rest164
                     case hy164 => (intro w hSw; (try dsimp only at hSw); go_simp; try with_reducible rfl))
                try simp only [Act.put, List.setIfInBounds_toArray, List.set_cons_zero, List.set_cons_succ]
                first
                  | (refine heldI_skip 8 28 rfl (by kernel_rfl) (by kernel_rfl) (by kernel_rfl) rfl (fun _ _ _ h => h) (by rfl) (by assumption) ?_)
                  | (refine heldI_take 8 28 ?vv165 rfl (by kernel_rfl) (by kernel_rfl) (by kernel_rfl) rfl (fun _ _ _ h => h) (by rfl) ?hy165 (by assumption) ?rest165
                     case hy165 => (intro w hSw; (try dsimp only at hSw); go_simp; try with_reducible rfl))
                try simp only [Act.put, List.setIfInBounds_toArray, List.set_cons_zero, List.set_cons_succ]
                first
                  | (refine heldI_skip 9 29 rfl (by kernel_rfl) (by kernel_rfl) (by kernel_rfl) rfl (fun _ _ _ h => h) (by rfl) (by assumption) ?_)
                  | (refine heldI_take 9 29 ?vv166 rfl (by kernel_rfl) (by kernel_rfl) (by kernel_rfl) rfl (fun _ _ _ h => h) (by rfl) ?hy166 (by assumption) ?rest166
                     case hy166 => (intro w hSw; (try dsimp only at hSw); go_simp; try with_reducible rfl))
                try simp only [Act.put, List.setIfInBounds_toArray, List.set_cons_zero, List.set_cons_succ]
                first
                  | (refine heldI_skip 10 30 rfl (by kernel_rfl) (by kernel_rfl) (by kernel_rfl) rfl (fun _ _ _ h => h) (by rfl) (by assumption) ?_)
                  | (refine heldI_take 10 30 ?vv167 rfl (by kernel_rfl) (by kernel_rfl) (by kernel_rfl) rfl (fun _ _ _ h => h) (by rfl) ?hy167 (by assumption) ?rest167
                     case hy167 => (intro w hSw; (try dsimp only at hSw); go_simp; try with_reducible rfl))
                try simp only [Act.put, List.setIfInBounds_toArray, List.set_cons_zero, List.set_cons_succ]
                first
                  | (refine heldI_skip 11 31 rfl (by kernel_rfl) (by kernel_rfl) (by kernel_rfl) rfl (fun _ _ _ h => h) (by rfl) (by assumption) ?_)
                  | (refine heldI_take 11 31 ?vv168 rfl (by kernel_rfl) (by kernel_rfl) (by kernel_rfl) rfl (fun _ _ _ h => h) (by rfl) ?hy168 (by assumption) ?rest168
                     case hy168 => (intro w hSw; (try dsimp only at hSw); go_simp; try with_reducible rfl))
                try simp only [Act.put, List.setIfInBounds_toArray, List.set_cons_zero, List.set_cons_succ]
                first
                  | (refine heldI_skip 12 32 rfl (by kernel_rfl) (by kernel_rfl) (by kernel_rfl) rfl (fun _ _ _ h => h) (by rfl) (by assumption) ?_)
                  | (refine heldI_take 12 32 ?vv169 rfl (by kernel_rfl) (by kernel_rfl) (by kernel_rfl) rfl (fun _ _ _ h => h) (by rfl) ?hy169 (by assumption) ?rest169
                     case hy169 => (intro w hSw; (try dsimp only at hSw); go_simp; try with_reducible rfl))
                try simp only [Act.put, List.setIfInBounds_toArray, List.set_cons_zero, List.set_cons_succ]
                first
                  | (refine heldI_skip 13 33 rfl (by kernel_rfl) (by kernel_rfl) (by kernel_rfl) rfl (fun _ _ _ h => h) (by rfl) (by assumption) ?_)
                  | (refine heldI_take 13 33 ?vv170 rfl (by kernel_rfl) (by kernel_rfl) (by kernel_rfl) rfl (fun _ _ _ h => h) (by rfl) ?hy170 (by assumption) ?rest170
                     case hy170 => (intro w hSw; (try dsimp only at hSw); go_simp; try with_reducible rfl))
                try simp only [Act.put, List.setIfInBounds_toArray, List.set_cons_zero, List.set_cons_succ]
                first
                  | (refine heldI_skip 14 34 rfl (by kernel_rfl) (by kernel_rfl) (by kernel_rfl) rfl (fun _ _ _ h => h) (by rfl) (by assumption) ?_)
                  | (refine heldI_take 14 34 ?vv171 rfl (by kernel_rfl) (by kernel_rfl) (by kernel_rfl) rfl (fun _ _ _ h => h) (by rfl) ?hy171 (by assumption) ?rest171
                     case hy171 => (intro w hSw; (try dsimp only at hSw); go_simp; try with_reducible rfl))
                try simp only [Act.put, List.setIfInBounds_toArray, List.set_cons_zero, List.set_cons_succ]
                first
                  | (refine heldI_skip 15 35 rfl (by kernel_rfl) (by kernel_rfl) (by kernel_rfl) rfl (fun _ _ _ h => h) (by rfl) (by assumption) ?_)
                  | (refine heldI_take 15 35 ?vv172 rfl (by kernel_rfl) (by kernel_rfl) (by kernel_rfl) rfl (fun _ _ _ h => h) (by rfl) ?hy172 (by assumption) ?rest172
                     case hy172 => (intro w hSw; (try dsimp only at hSw); go_simp; try with_reducible rfl))
                try simp only [Act.put, List.setIfInBounds_toArray, List.set_cons_zero, List.set_cons_succ]
                first
                  | (refine heldI_skip 16 36 rfl (by kernel_rfl) (by kernel_rfl) (by kernel_rfl) rfl (fun _ _ _ h => h) (by rfl) (by assumption) ?_)
                  | (refine heldI_take 16 36 ?vv173 rfl (by kernel_rfl) (by kernel_rfl) (by kernel_rfl) rfl (fun _ _ _ h => h) (by rfl) ?hy173 (by assumption) ?rest173
                     case hy173 => (intro w hSw; (try dsimp only at hSw); go_simp; try with_reducible rfl))
                try simp only [Act.put, List.setIfInBounds_toArray, List.set_cons_zero, List.set_cons_succ]
                first
                  | (refine heldI_skip 17 37 rfl (by kernel_rfl) (by kernel_rfl) (by kernel_rfl) rfl (fun _ _ _ h => h) (by rfl) (by assumption) ?_)
                  | (refine heldI_take 17 37 ?vv174 rfl (by kernel_rfl) (by kernel_rfl) (by kernel_rfl) rfl (fun _ _ _ h => h) (by rfl) ?hy174 (by assumption) ?rest174
                     case hy174 => (intro w hSw; (try dsimp only at hSw); go_simp; try with_reducible rfl))
                try simp only [Act.put, List.setIfInBounds_toArray, List.set_cons_zero, List.set_cons_succ]
                first
                  | (refine heldI_skip 18 38 rfl (by kernel_rfl) (by kernel_rfl) (by kernel_rfl) rfl (fun _ _ _ h => h) (by rfl) (by assumption) ?_)
                  | (refine heldI_take 18 38 ?vv175 rfl (by kernel_rfl) (by kernel_rfl) (by kernel_rfl) rfl (fun _ _ _ h => h) (by rfl) ?hy175 (by assumption) ?rest175
                     case hy175 => (intro w hSw; (try dsimp only at hSw); go_simp; try with_reducible rfl))
                try simp only [Act.put, List.setIfInBounds_toArray, List.set_cons_zero, List.set_cons_succ]
                first
                  | (refine heldI_skip 19 39 rfl (by kernel_rfl) (by kernel_rfl) (by kernel_rfl) rfl (fun _ _ _ h => h) (by rfl) (by assumption) ?_)
                  | (refine heldI_take 19 39 ?vv176 rfl (by kernel_rfl) (by kernel_rfl) (by kernel_rfl) rfl (fun _ _ _ h => h) (by rfl) ?hy176 (by assumption) ?rest176
                     case hy176 => (intro w hSw; (try dsimp only at hSw); go_simp; try with_reducible rfl))
                try simp only [Act.put, List.setIfInBounds_toArray, List.set_cons_zero, List.set_cons_succ]
                first
                  | (refine heldI_skip 20 40 rfl (by kernel_rfl) (by kernel_rfl) (by kernel_rfl) rfl (fun _ _ _ h => h) (by rfl) (by assumption) ?_)
                  | (refine heldI_take 20 40 ?vv177 rfl (by kernel_rfl) (by kernel_rfl) (by kernel_rfl) rfl (fun _ _ _ h => h) (by rfl) ?hy177 (by assumption) ?rest177
                     case hy177 => (intro w hSw; (try dsimp only at hSw); go_simp; try with_reducible rfl))
                try simp only [Act.put, List.setIfInBounds_toArray, List.set_cons_zero, List.set_cons_succ]
                first
                  | (refine heldI_skip 21 41 rfl (by kernel_rfl) (by kernel_rfl) (by kernel_rfl) rfl (fun _ _ _ h => h) (by rfl) (by assumption) ?_)
                  | (refine heldI_take 21 41 ?vv178 rfl (by kernel_rfl) (by kernel_rfl) (by kernel_rfl) rfl (fun _ _ _ h => h) (by rfl) ?hy178 (by assumption) ?rest178
                     case hy178 => (intro w hSw; (try dsimp only at hSw); go_simp; try with_reducible rfl))
                try simp only [Act.put, List.setIfInBounds_toArray, List.set_cons_zero, List.set_cons_succ]
                first
                  | (refine heldI_skip 22 42 rfl (by kernel_rfl) (by kernel_rfl) (by kernel_rfl) rfl (fun _ _ _ h => h) (by rfl) (by assumption) ?_)
                  | (refine heldI_take 22 42 ?vv179 rfl (by kernel_rfl) (by kernel_rfl) (by kernel_rfl) rfl (fun _ _ _ h => h) (by rfl) ?hy179 (by assumption) ?rest179
                     case hy179 => (intro w hSw; (try dsimp only at hSw); go_simp; try with_reducible rfl))
                try simp only [Act.put, List.setIfInBounds_toArray, List.set_cons_zero, List.set_cons_succ]
                first
                  | (refine heldI_skip 23 43 rfl (by kernel_rfl) (by kernel_rfl) (by kernel_rfl) rfl (fun _ _ _ h => h) (by rfl) (by assumption) ?_)
                  | (refine heldI_take 23 43 ?vv180 rfl (by kernel_rfl) (by kernel_rfl) (by kernel_rfl) rfl (fun _ _ _ h => h) (by rfl) ?hy180 (by assumption) ?rest180
                     case hy180 => (intro w hSw; (try dsimp only at hSw); go_simp; try with_reducible rfl))
                try simp only [Act.put, List.setIfInBounds_toArray, List.set_cons_zero, List.set_cons_succ]
                first
                  | (refine heldI_skip 24 44 rfl (by kernel_rfl) (by kernel_rfl) (by kernel_rfl) rfl (fun _ _ _ h => h) (by rfl) (by assumption) ?_)
                  | (refine heldI_take 24 44 ?vv181 rfl (by kernel_rfl) (by kernel_rfl) (by kernel_rfl) rfl (fun _ _ _ h => h) (by rfl) ?hy181 (by assumption) ?rest181
                     case hy181 => (intro w hSw; (try dsimp only at hSw); go_simp; try with_reducible rfl))
                try simp only [Act.put, List.setIfInBounds_toArray, List.set_cons_zero, List.set_cons_succ]
                first
                  | (refine heldI_skip 25 45 rfl (by kernel_rfl) (by kernel_rfl) (by kernel_rfl) rfl (fun _ _ _ h => h) (by rfl) (by assumption) ?_)
                  | (refine heldI_take 25 45 ?vv182 rfl (by kernel_rfl) (by kernel_rfl) (by kernel_rfl) rfl (fun _ _ _ h => h) (by rfl) ?hy182 (by assumption) ?rest182
                     case hy182 => (intro w hSw; (try dsimp only at hSw); go_simp; try with_reducible rfl))
                try simp only [Act.put, List.setIfInBounds_toArray, List.set_cons_zero, List.set_cons_succ]
                first
                  | (refine heldI_skip 26 46 rfl (by kernel_rfl) (by kernel_rfl) (by kernel_rfl) rfl (fun _ _ _ h => h) (by rfl) (by assumption) ?_)
                  | (refine heldI_take 26 46 ?vv183 rfl (by kernel_rfl) (by kernel_rfl) (by kernel_rfl) rfl (fun _ _ _ h => h) (by rfl) ?hy183 (by assumption) ?rest183
                     case hy183 => (intro w hSw; (try dsimp only at hSw); go_simp; try with_reducible rfl))
                try simp only [Act.put, List.setIfInBounds_toArray, List.set_cons_zero, List.set_cons_succ]
                first
                  | (refine heldI_skip 27 47 rfl (by kernel_rfl) (by kernel_rfl) (by kernel_rfl) rfl (fun _ _ _ h => h) (by rfl) (by assumption) ?_)
                  | (refine heldI_take 27 47 ?vv184 rfl (by kernel_rfl) (by kernel_rfl) (by kernel_rfl) rfl (fun _ _ _ h => h) (by rfl) ?hy184 (by assumption) ?rest184
                     case hy184 => (intro w hSw; (try dsimp only at hSw); go_simp; try with_reducible rfl))
                try simp only [Act.put, List.setIfInBounds_toArray, List.set_cons_zero, List.set_cons_succ]
                first
                  | (refine heldI_skip 28 48 rfl (by kernel_rfl) (by kernel_rfl) (by kernel_rfl) rfl (fun _ _ _ h => h) (by rfl) (by assumption) ?_)
                  | (refine heldI_take 28 48 ?vv185 rfl (by kernel_rfl) (by kernel_rfl) (by kernel_rfl) rfl (fun _ _ _ h => h) (by rfl) ?hy185 (by assumption) ?rest185
                     case hy185 => (intro w hSw; (try dsimp only at hSw); go_simp; try with_reducible rfl))
                try simp only [Act.put, List.setIfInBounds_toArray, List.set_cons_zero, List.set_cons_succ]
                first
                  | (refine heldI_skip 29 49 rfl (by kernel_rfl) (by kernel_rfl) (by kernel_rfl) rfl (fun _ _ _ h => h) (by rfl) (by assumption) ?_)
                  | (refine heldI_take 29 49 ?vv186 rfl (by kernel_rfl) (by kernel_rfl) (by kernel_rfl) rfl (fun _ _ _ h => h) (by rfl) ?hy186 (by assumption) ?rest186
                     case hy186 => (intro w hSw; (try dsimp only at hSw); go_simp; try with_reducible rfl))
                try simp only [Act.put, List.setIfInBounds_toArray, List.set_cons_zero, List.set_cons_succ]
                first
                  | (refine heldI_skip 30 50 rfl (by kernel_rfl) (by kernel_rfl) (by kernel_rfl) rfl (fun _ _ _ h => h) (by rfl) (by assumption) ?_)
                  | (refine heldI_take 30 50 ?vv187 rfl (by kernel_rfl) (by kernel_rfl) (by kernel_rfl) rfl (fun _ _ _ h => h) (by rfl) ?hy187 (by assumption) ?rest187
                     case hy187 => (intro w hSw; (try dsimp only at hSw); go_simp; try with_reducible rfl))
                try simp only [Act.put, List.setIfInBounds_toArray, List.set_cons_zero, List.set_cons_succ]
                first
                  | (refine heldI_skip 31 51 rfl (by kernel_rfl) (by kernel_rfl) (by kernel_rfl) rfl (fun _ _ _ h => h) (by rfl) (by assumption) ?_)
                  | (refine heldI_take 31 51 ?vv188 rfl (by kernel_rfl) (by kernel_rfl) (by kernel_rfl) rfl (fun _ _ _ h => h) (by rfl) ?hy188 (by assumption) ?rest188
                     case hy188 => (intro w hSw; (try dsimp only at hSw); go_simp; try with_reducible rfl))
                try simp only [Act.put, List.setIfInBounds_toArray, List.set_cons_zero, List.set_cons_succ]
                first
                  | (refine heldI_skip 32 52 rfl (by kernel_rfl) (by kernel_rfl) (by kernel_rfl) rfl (fun _ _ _ h => h) (by rfl) (by assumption) ?_)
                  | (refine heldI_take 32 52 ?vv189 rfl (by kernel_rfl) (by kernel_rfl) (by kernel_rfl) rfl (fun _ _ _ h => h) (by rfl) ?hy189 (by assumption) ?rest189
                     case hy189 => (intro w hSw; (try dsimp only at hSw); go_simp; try with_reducible rfl))
                try simp only [Act.put, List.setIfInBounds_toArray, List.set_cons_zero, List.set_cons_succ]
                first
                  | (refine heldI_skip 33 53 rfl (by kernel_rfl) (by kernel_rfl) (by kernel_rfl) rfl (fun _ _ _ h => h) (by rfl) (by assumption) ?_)
                  | (refine heldI_take 33 53 ?vv190 rfl (by kernel_rfl) (by kernel_rfl) (by kernel_rfl) rfl (fun _ _ _ h => h) (by rfl) ?hy190 (by assumption) ?rest190
                     case hy190 => (intro w hSw; (try dsimp only at hSw); go_simp; try with_reducible rfl))
                try simp only [Act.put, List.setIfInBounds_toArray, List.set_cons_zero, List.set_cons_succ]
                first
                  | (refine heldI_skip 34 54 rfl (by kernel_rfl) (by kernel_rfl) (by kernel_rfl) rfl (fun _ _ _ h => h) (by rfl) (by assumption) ?_)
                  | (refine heldI_take 34 54 ?vv191 rfl (by kernel_rfl) (by kernel_rfl) (by kernel_rfl) rfl (fun _ _ _ h => h) (by rfl) ?hy191 (by assumption) ?rest191
                     case hy191 => (intro w hSw; (try dsimp only at hSw); go_simp; try with_reducible rfl))
                try simp only [Act.put, List.setIfInBounds_toArray, List.set_cons_zero, List.set_cons_succ]
                first
                  | (refine heldI_skip 35 55 rfl (by kernel_rfl) (by kernel_rfl) (by kernel_rfl) rfl (fun _ _ _ h => h) (by rfl) (by assumption) ?_)
                  | (refine heldI_take 35 55 ?vv192 rfl (by kernel_rfl) (by kernel_rfl) (by kernel_rfl) rfl (fun _ _ _ h => h) (by rfl) ?hy192 (by assumption) ?rest192
                     case hy192 => (intro w hSw; (try dsimp only at hSw); go_simp; try with_reducible rfl))
                try simp only [Act.put, List.setIfInBounds_toArray, List.set_cons_zero, List.set_cons_succ]
                first
                  | (refine heldI_skip 36 56 rfl (by kernel_rfl) (by kernel_rfl) (by kernel_rfl) rfl (fun _ _ _ h => h) (by rfl) (by assumption) ?_)
                  | (refine heldI_take 36 56 ?vv193 rfl (by kernel_rfl) (by kernel_rfl) (by kernel_rfl) rfl (fun _ _ _ h => h) (by rfl) ?hy193 (by assumption) ?rest193
                     case hy193 => (intro w hSw; (try dsimp only at hSw); go_simp; try with_reducible rfl))
                try simp only [Act.put, List.setIfInBounds_toArray, List.set_cons_zero, List.set_cons_succ]
                first
                  | (refine heldI_skip 37 57 rfl (by kernel_rfl) (by kernel_rfl) (by kernel_rfl) rfl (fun _ _ _ h => h) (by rfl) (by assumption) ?_)
                  | (refine heldI_take 37 57 ?vv194 rfl (by kernel_rfl) (by kernel_rfl) (by kernel_rfl) rfl (fun _ _ _ h => h) (by rfl) ?hy194 (by assumption) ?rest194
                     case hy194 => (intro w hSw; (try dsimp only at hSw); go_simp; try with_reducible rfl))
                try simp only [Act.put, List.setIfInBounds_toArray, List.set_cons_zero, List.set_cons_succ]
                first
                  | (refine heldI_skip 38 58 rfl (by kernel_rfl) (by kernel_rfl) (by kernel_rfl) rfl (fun _ _ _ h => h) (by rfl) (by assumption) ?_)
                  | (refine heldI_take 38 58 ?vv195 rfl (by kernel_rfl) (by kernel_rfl) (by kernel_rfl) rfl (fun _ _ _ h => h) (by rfl) ?hy195 (by assumption) ?rest195
                     case hy195 => (intro w hSw; (try dsimp only at hSw); go_simp; try with_reducible rfl))
                try simp only [Act.put, List.setIfInBounds_toArray, List.set_cons_zero, List.set_cons_succ]
                first
                  | (refine heldI_skip 39 59 rfl (by kernel_rfl) (by kernel_rfl) (by kernel_rfl) rfl (fun _ _ _ h => h) (by rfl) (by assumption) ?_)
                  | (refine heldI_take 39 59 ?vv196 rfl (by kernel_rfl) (by kernel_rfl) (by kernel_rfl) rfl (fun _ _ _ h => h) (by rfl) ?hy196 (by assumption) ?rest196
                     case hy196 => (intro w hSw; (try dsimp only at hSw); go_simp; try with_reducible rfl))
                try simp only [Act.put, List.setIfInBounds_toArray, List.set_cons_zero, List.set_cons_succ]
                first
                  | (refine heldI_skip 40 60 rfl (by kernel_rfl) (by kernel_rfl) (by kernel_rfl) rfl (fun _ _ _ h => h) (by rfl) (by assumption) ?_)
                  | (refine heldI_take 40 60 ?vv197 rfl (by kernel_rfl) (by kernel_rfl) (by kernel_rfl) rfl (fun _ _ _ h => h) (by rfl) ?hy197 (by assumption) ?rest197
                     case hy197 => (intro w hSw; (try dsimp only at hSw); go_simp; try with_reducible rfl))
                try simp only [Act.put, List.setIfInBounds_toArray, List.set_cons_zero, List.set_cons_succ]
                first
                  | (refine heldI_skip 41 61 rfl (by kernel_rfl) (by kernel_rfl) (by kernel_rfl) rfl (fun _ _ _ h => h) (by rfl) (by assumption) ?_)
                  | (refine heldI_take 41 61 ?vv198 rfl (by kernel_rfl) (by kernel_rfl) (by kernel_rfl) rfl (fun _ _ _ h => h) (by rfl) ?hy198 (by assumption) ?rest198
                     case hy198 => (intro w hSw; (try dsimp only at hSw); go_simp; try with_reducible rfl))
                try simp only [Act.put, List.setIfInBounds_toArray, List.set_cons_zero, List.set_cons_succ]
                first
                  | (refine heldI_skip 42 62 rfl (by kernel_rfl) (by kernel_rfl) (by kernel_rfl) rfl (fun _ _ _ h => h) (by rfl) (by assumption) ?_)
                  | (refine heldI_take 42 62 ?vv199 rfl (by kernel_rfl) (by kernel_rfl) (by kernel_rfl) rfl (fun _ _ _ h => h) (by rfl) ?hy199 (by assumption) ?rest199
                     case hy199 => (intro w hSw; (try dsimp only at hSw); go_simp; try with_reducible rfl))
                try simp only [Act.put, List.setIfInBounds_toArray, List.set_cons_zero, List.set_cons_succ]
                first
                  | (refine heldI_skip 43 63 rfl (by kernel_rfl) (by kernel_rfl) (by kernel_rfl) rfl (fun _ _ _ h => h) (by rfl) (by assumption) ?_)
                  | (refine heldI_take 43 63 ?vv200 rfl (by kernel_rfl) (by kernel_rfl) (by kernel_rfl) rfl (fun _ _ _ h => h) (by rfl) ?hy200 (by assumption) ?rest200
                     case hy200 => (intro w hSw; (try dsimp only at hSw); go_simp; try with_reducible rfl))
                try simp only [Act.put, List.setIfInBounds_toArray, List.set_cons_zero, List.set_cons_succ]
                refine wpAnyH_done (by kernel_rfl) ?_ _
                clear hHeld
                have BJ : Aside (Below w.heap.size w W.drew) := Below.drew BJ.out
                have OJ : Aside (W.drew.ownsRow w.heap.size 48 4 (.slice (some ⟨g, 0, none⟩) k cap) k (ord.flatMap encPg)) := OJ.out.drew
                generalize W.drew = V at BJ OJ ⊢
                go_wp2
                go_roundg jp
                case measure => omega
                case rel => exact ⟨jp, by go_num, by omega, Nat.le_refl _, OJ, BJ, by show _ = _; rw [← HK.out, HGO.out]⟩
            | false =>
              have hlt2 : ¬ kyP y < kyP x := by simpa using hlq
              have HREF0 : Hid (refk kyP ord (kyP x) k = jp + 1) := hide (by rw [← HK.out, refk_stop (by rw [getB HYY.out]; exact hlt2)])
              have H2 : (¬ x.r < y.r ∧ ¬ y.r = x.r) ∨ (y.r = x.r ∧ ¬ x.c < y.c) := by
                have h9 : ¬ ltP x y = true := fun h => hlt2 ((ltP_key HXI.out HYI.out).1 h)
                unfold ltP at h9; simp only [Bool.or_eq_true, Bool.and_eq_true, decide_eq_true_eq] at h9
                omega
              clear hlq hlt2 H4
              rcases H2 with ⟨h1, h2⟩ | ⟨h1, h2⟩
              · have h2' : decide (y.r = x.r) = false := by simpa using h2
                have h2'' : (y.r == x.r) = false := by simpa using h2
                have h1' : decide (x.r < y.r) = false := decide_eq_false h1
                have h1'' : decide (y.r > x.r) = false := decide_eq_false h1
                obtain ⟨W, hW⟩ : ∃ W, W = wr := ⟨_, rfl⟩
                subst hW
                go_wp2_with fail
                refine wp_region_held_drew (S := fun w' => w'.cell? ⟨g, jp * 4 + 1, none⟩ = some (.int .i64 y.r) ∧ w'.cell? ⟨g, jp * 4 + 2, none⟩ = some (.int .i64 y.c) ∧ w'.cell? ⟨b, off + k * 4 + 1, none⟩ = some (.int .i64 x.r) ∧ w'.cell? ⟨b, off + k * 4 + 2, none⟩ = some (.int .i64 x.c) ∧ Below W.heap.size W w') (by kernel_rfl) ⟨y1, y2, x1, x2, (Below.refl _ _).drew⟩ (fun hHeld => ?_)
                first
                  | (refine heldI_skip 0 20 rfl (by kernel_rfl) (by kernel_rfl) (by kernel_rfl) rfl (fun _ _ _ h => h) (by rfl) (by assumption) ?_)
                  | (refine heldI_take 0 20 ?vv201 rfl (by kernel_rfl) (by kernel_rfl) (by kernel_rfl) rfl (fun _ _ _ h => h) (by rfl) ?hy201 (by assumption) ?rest201
                     case hy201 => (intro w hSw; (try dsimp only at hSw); go_simp; try with_reducible rfl))
                try simp only [Act.put, List.setIfInBounds_toArray, List.set_cons_zero, List.set_cons_succ]
                first
                  | (refine heldI_skip 1 21 rfl (by kernel_rfl) (by kernel_rfl) (by kernel_rfl) rfl (fun _ _ _ h => h) (by rfl) (by assumption) ?_)
                  | (refine heldI_take 1 21 ?vv202 rfl (by kernel_rfl) (by kernel_rfl) (by kernel_rfl) rfl (fun _ _ _ h => h) (by rfl) ?hy202 (by assumption) ?rest202
                     case hy202 => (intro w hSw; (try dsimp only at hSw); go_simp; try with_reducible rfl))
                try simp only [Act.put, List.setIfInBounds_toArray, List.set_cons_zero, List.set_cons_succ]
                first
                  | (refine heldI_skip 2 22 rfl (by kernel_rfl) (by kernel_rfl) (by kernel_rfl) rfl (fun _ _ _ h => h) (by rfl) (by assumption) ?_)
                  | (refine heldI_take 2 22 ?vv203 rfl (by kernel_rfl) (by kernel_rfl) (by kernel_rfl) rfl (fun _ _ _ h => h) (by rfl) ?hy203 (by assumption) ?rest203
                     case hy203 => (intro w hSw; (try dsimp only at hSw); go_simp; try with_reducible rfl))
                try simp only [Act.put, List.setIfInBounds_toArray, List.set_cons_zero, List.set_cons_succ]
                first
                  | (refine heldI_skip 3 23 rfl (by kernel_rfl) (by kernel_rfl) (by kernel_rfl) rfl (fun _ _ _ h => h) (by rfl) (by assumption) ?_)
                  | (refine heldI_take 3 23 ?vv204 rfl (by kernel_rfl) (by kernel_rfl) (by kernel_rfl) rfl (fun _ _ _ h => h) (by rfl) ?hy204 (by assumption) ?rest204
                     case hy204 => (intro w hSw; (try dsimp only at hSw); go_simp; try with_reducible rfl))
                try simp only [Act.put, List.setIfInBounds_toArray, List.set_cons_zero, List.set_cons_succ]
                first
                  | (refine heldI_skip 4 24 rfl (by kernel_rfl) (by kernel_rfl) (by kernel_rfl) rfl (fun _ _ _ h => h) (by rfl) (by assumption) ?_)
                  | (refine heldI_take 4 24 ?vv205 rfl (by kernel_rfl) (by kernel_rfl) (by kernel_rfl) rfl (fun _ _ _ h => h) (by rfl) ?hy205 (by assumption) ?rest205
                     case hy205 => (intro w hSw; (try dsimp only at hSw); go_simp; try with_reducible rfl))
                try simp only [Act.put, List.setIfInBounds_toArray, List.set_cons_zero, List.set_cons_succ]
                first
                  | (refine heldI_skip 5 25 rfl (by kernel_rfl) (by kernel_rfl) (by kernel_rfl) rfl (fun _ _ _ h => h) (by rfl) (by assumption) ?_)
                  | (refine heldI_take 5 25 ?vv206 rfl (by kernel_rfl) (by kernel_rfl) (by kernel_rfl) rfl (fun _ _ _ h => h) (by rfl) ?hy206 (by assumption) ?rest206
                     case hy206 => (intro w hSw; (try dsimp only at hSw); go_simp; try with_reducible rfl))
                try simp only [Act.put, List.setIfInBounds_toArray, List.set_cons_zero, List.set_cons_succ]
                first
                  | (refine heldI_skip 6 26 rfl (by kernel_rfl) (by kernel_rfl) (by kernel_rfl) rfl (fun _ _ _ h => h) (by rfl) (by assumption) ?_)
                  | (refine heldI_take 6 26 ?vv207 rfl (by kernel_rfl) (by kernel_rfl) (by kernel_rfl) rfl (fun _ _ _ h => h) (by rfl) ?hy207 (by assumption) ?rest207
                     case hy207 => (intro w hSw; (try dsimp only at hSw); go_simp; try with_reducible rfl))
                try simp only [Act.put, List.setIfInBounds_toArray, List.set_cons_zero, List.set_cons_succ]
                first
                  | (refine heldI_skip 7 27 rfl (by kernel_rfl) (by kernel_rfl) (by kernel_rfl) rfl (fun _ _ _ h => h) (by rfl) (by assumption) ?_)
                  | (refine heldI_take 7 27 ?vv208 rfl (by kernel_rfl) (by kernel_rfl) (by kernel_rfl) rfl (fun _ _ _ h => h) (by rfl) ?hy208 (by assumption) ?rest208
                     case hy208 => (intro w hSw; (try dsimp only at hSw); go_simp; try with_reducible rfl))
                try simp only [Act.put, List.setIfInBounds_toArray, List.set_cons_zero, List.set_cons_succ]
                first
                  | (refine heldI_skip 8 28 rfl (by kernel_rfl) (by kernel_rfl) (by kernel_rfl) rfl (fun _ _ _ h => h) (by rfl) (by assumption) ?_)
                  | (refine heldI_take 8 28 ?vv209 rfl (by kernel_rfl) (by kernel_rfl) (by kernel_rfl) rfl (fun _ _ _ h => h) (by rfl) ?hy209 (by assumption) ?rest209
                     case hy209 => (intro w hSw; (try dsimp only at hSw); go_simp; try with_reducible rfl))
                try simp only [Act.put, List.setIfInBounds_toArray, List.set_cons_zero, List.set_cons_succ]
                first
                  | (refine heldI_skip 9 29 rfl (by kernel_rfl) (by kernel_rfl) (by kernel_rfl) rfl (fun _ _ _ h => h) (by rfl) (by assumption) ?_)
                  | (refine heldI_take 9 29 ?vv210 rfl (by kernel_rfl) (by kernel_rfl) (by kernel_rfl) rfl (fun _ _ _ h => h) (by rfl) ?hy210 (by assumption) ?rest210
                     case hy210 => (intro w hSw; (try dsimp only at hSw); go_simp; try with_reducible rfl))
                try simp only [Act.put, List.setIfInBounds_toArray, List.set_cons_zero, List.set_cons_succ]
                first
                  | (refine heldI_skip 10 30 rfl (by kernel_rfl) (by kernel_rfl) (by kernel_rfl) rfl (fun _ _ _ h => h) (by rfl) (by assumption) ?_)
                  | (refine heldI_take 10 30 ?vv211 rfl (by kernel_rfl) (by kernel_rfl) (by kernel_rfl) rfl (fun _ _ _ h => h) (by rfl) ?hy211 (by assumption) ?rest211
                     case hy211 => (intro w hSw; (try dsimp only at hSw); go_simp; try with_reducible rfl))
                try simp only [Act.put, List.setIfInBounds_toArray, List.set_cons_zero, List.set_cons_succ]
                first
                  | (refine heldI_skip 11 31 rfl (by kernel_rfl) (by kernel_rfl) (by kernel_rfl) rfl (fun _ _ _ h => h) (by rfl) (by assumption) ?_)
                  | (refine heldI_take 11 31 ?vv212 rfl (by kernel_rfl) (by kernel_rfl) (by kernel_rfl) rfl (fun _ _ _ h => h) (by rfl) ?hy212 (by assumption) ?rest212
                     case hy212 => (intro w hSw; (try dsimp only at hSw); go_simp; try with_reducible rfl))
                try simp only [Act.put, List.setIfInBounds_toArray, List.set_cons_zero, List.set_cons_succ]
                first
                  | (refine heldI_skip 12 32 rfl (by kernel_rfl) (by kernel_rfl) (by kernel_rfl) rfl (fun _ _ _ h => h) (by rfl) (by assumption) ?_)
                  | (refine heldI_take 12 32 ?vv213 rfl (by kernel_rfl) (by kernel_rfl) (by kernel_rfl) rfl (fun _ _ _ h => h) (by rfl) ?hy213 (by assumption) ?rest213
                     case hy213 => (intro w hSw; (try dsimp only at hSw); go_simp; try with_reducible rfl))
                try simp only [Act.put, List.setIfInBounds_toArray, List.set_cons_zero, List.set_cons_succ]
                first
                  | (refine heldI_skip 13 33 rfl (by kernel_rfl) (by kernel_rfl) (by kernel_rfl) rfl (fun _ _ _ h => h) (by rfl) (by assumption) ?_)
                  | (refine heldI_take 13 33 ?vv214 rfl (by kernel_rfl) (by kernel_rfl) (by kernel_rfl) rfl (fun _ _ _ h => h) (by rfl) ?hy214 (by assumption) ?rest214
                     case hy214 => (intro w hSw; (try dsimp only at hSw); go_simp; try with_reducible rfl))
                try simp only [Act.put, List.setIfInBounds_toArray, List.set_cons_zero, List.set_cons_succ]
                first
                  | (refine heldI_skip 14 34 rfl (by kernel_rfl) (by kernel_rfl) (by kernel_rfl) rfl (fun _ _ _ h => h) (by rfl) (by assumption) ?_)
                  | (refine heldI_take 14 34 ?vv215 rfl (by kernel_rfl) (by kernel_rfl) (by kernel_rfl) rfl (fun _ _ _ h => h) (by rfl) ?hy215 (by assumption) ?rest215
                     case hy215 => (intro w hSw; (try dsimp only at hSw); go_simp; try with_reducible rfl))
                try simp only [Act.put, List.setIfInBounds_toArray, List.set_cons_zero, List.set_cons_succ]
                first
                  | (refine heldI_skip 15 35 rfl (by kernel_rfl) (by kernel_rfl) (by kernel_rfl) rfl (fun _ _ _ h => h) (by rfl) (by assumption) ?_)
                  | (refine heldI_take 15 35 ?vv216 rfl (by kernel_rfl) (by kernel_rfl) (by kernel_rfl) rfl (fun _ _ _ h => h) (by rfl) ?hy216 (by assumption) ?rest216
                     case hy216 => (intro w hSw; (try dsimp only at hSw); go_simp; try with_reducible rfl))
                try simp only [Act.put, List.setIfInBounds_toArray, List.set_cons_zero, List.set_cons_succ]
                first
                  | (refine heldI_skip 16 36 rfl (by kernel_rfl) (by kernel_rfl) (by kernel_rfl) rfl (fun _ _ _ h => h) (by rfl) (by assumption) ?_)
                  | (refine heldI_take 16 36 ?vv217 rfl (by kernel_rfl) (by kernel_rfl) (by kernel_rfl) rfl (fun _ _ _ h => h) (by rfl) ?hy217 (by assumption) ?rest217
                     case hy217 => (intro w hSw; (try dsimp only at hSw); go_simp; try with_reducible rfl))
                try simp only [Act.put, List.setIfInBounds_toArray, List.set_cons_zero, List.set_cons_succ]
                first
                  | (refine heldI_skip 17 37 rfl (by kernel_rfl) (by kernel_rfl) (by kernel_rfl) rfl (fun _ _ _ h => h) (by rfl) (by assumption) ?_)
                  | (refine heldI_take 17 37 ?vv218 rfl (by kernel_rfl) (by kernel_rfl) (by kernel_rfl) rfl (fun _ _ _ h => h) (by rfl) ?hy218 (by assumption) ?rest218
                     case hy218 => (intro w hSw; (try dsimp only at hSw); go_simp; try with_reducible rfl))
                try simp only [Act.put, List.setIfInBounds_toArray, List.set_cons_zero, List.set_cons_succ]
                first
                  | (refine heldI_skip 18 38 rfl (by kernel_rfl) (by kernel_rfl) (by kernel_rfl) rfl (fun _ _ _ h => h) (by rfl) (by assumption) ?_)
                  | (refine heldI_take 18 38 ?vv219 rfl (by kernel_rfl) (by kernel_rfl) (by kernel_rfl) rfl (fun _ _ _ h => h) (by rfl) ?hy219 (by assumption) ?rest219
                     case hy219 => (intro w hSw; (try dsimp only at hSw); go_simp; try with_reducible rfl))
                try simp only [Act.put, List.setIfInBounds_toArray, List.set_cons_zero, List.set_cons_succ]
                first
                  | (refine heldI_skip 19 39 rfl (by kernel_rfl) (by kernel_rfl) (by kernel_rfl) rfl (fun _ _ _ h => h) (by rfl) (by assumption) ?_)
                  | (refine heldI_take 19 39 ?vv220 rfl (by kernel_rfl) (by kernel_rfl) (by kernel_rfl) rfl (fun _ _ _ h => h) (by rfl) ?hy220 (by assumption) ?rest220
                     case hy220 => (intro w hSw; (try dsimp only at hSw); go_simp; try with_reducible rfl))
                try simp only [Act.put, List.setIfInBounds_toArray, List.set_cons_zero, List.set_cons_succ]
                first
                  | (refine heldI_skip 20 40 rfl (by kernel_rfl) (by kernel_rfl) (by kernel_rfl) rfl (fun _ _ _ h => h) (by rfl) (by assumption) ?_)
                  | (refine heldI_take 20 40 ?vv221 rfl (by kernel_rfl) (by kernel_rfl) (by kernel_rfl) rfl (fun _ _ _ h => h) (by rfl) ?hy221 (by assumption) ?rest221
                     case hy221 => (intro w hSw; (try dsimp only at hSw); go_simp; try with_reducible rfl))
                try simp only [Act.put, List.setIfInBounds_toArray, List.set_cons_zero, List.set_cons_succ]
                first
                  | (refine heldI_skip 21 41 rfl (by kernel_rfl) (by kernel_rfl) (by kernel_rfl) rfl (fun _ _ _ h => h) (by rfl) (by assumption) ?_)
                  | (refine heldI_take 21 41 ?vv222 rfl (by kernel_rfl) (by kernel_rfl) (by kernel_rfl) rfl (fun _ _ _ h => h) (by rfl) ?hy222 (by assumption) ?rest222
                     case hy222 => (intro w hSw; (try dsimp only at hSw); go_simp; try with_reducible rfl))
                try simp only [Act.put, List.setIfInBounds_toArray, List.set_cons_zero, List.set_cons_succ]
                first
                  | (refine heldI_skip 22 42 rfl (by kernel_rfl) (by kernel_rfl) (by kernel_rfl) rfl (fun _ _ _ h => h) (by rfl) (by assumption) ?_)
                  | (refine heldI_take 22 42 ?vv223 rfl (by kernel_rfl) (by kernel_rfl) (by kernel_rfl) rfl (fun _ _ _ h => h) (by rfl) ?hy223 (by assumption) ?rest223
                     case hy223 => (intro w hSw; (try dsimp only at hSw); go_simp; try with_reducible rfl))
                try simp only [Act.put, List.setIfInBounds_toArray, List.set_cons_zero, List.set_cons_succ]
                first
                  | (refine heldI_skip 23 43 rfl (by kernel_rfl) (by kernel_rfl) (by kernel_rfl) rfl (fun _ _ _ h => h) (by rfl) (by assumption) ?_)
                  | (refine heldI_take 23 43 ?vv224 rfl (by kernel_rfl) (by kernel_rfl) (by kernel_rfl) rfl (fun _ _ _ h => h) (by rfl) ?hy224 (by assumption) ?rest224
                     case hy224 => (intro w hSw; (try dsimp only at hSw); go_simp; try with_reducible rfl))
                try simp only [Act.put, List.setIfInBounds_toArray, List.set_cons_zero, List.set_cons_succ]
                first
                  | (refine heldI_skip 24 44 rfl (by kernel_rfl) (by kernel_rfl) (by kernel_rfl) rfl (fun _ _ _ h => h) (by rfl) (by assumption) ?_)
                  | (refine heldI_take 24 44 ?vv225 rfl (by kernel_rfl) (by kernel_rfl) (by kernel_rfl) rfl (fun _ _ _ h => h) (by rfl) ?hy225 (by assumption) ?rest225
                     case hy225 => (intro w hSw; (try dsimp only at hSw); go_simp; try with_reducible rfl))
                try simp only [Act.put, List.setIfInBounds_toArray, List.set_cons_zero, List.set_cons_succ]
                first
                  | (refine heldI_skip 25 45 rfl (by kernel_rfl) (by kernel_rfl) (by kernel_rfl) rfl (fun _ _ _ h => h) (by rfl) (by assumption) ?_)
                  | (refine heldI_take 25 45 ?vv226 rfl (by kernel_rfl) (by kernel_rfl) (by kernel_rfl) rfl (fun _ _ _ h => h) (by rfl) ?hy226 (by assumption) ?rest226
                     case hy226 => (intro w hSw; (try dsimp only at hSw); go_simp; try with_reducible rfl))
                try simp only [Act.put, List.setIfInBounds_toArray, List.set_cons_zero, List.set_cons_succ]
                first
                  | (refine heldI_skip 26 46 rfl (by kernel_rfl) (by kernel_rfl) (by kernel_rfl) rfl (fun _ _ _ h => h) (by rfl) (by assumption) ?_)
                  | (refine heldI_take 26 46 ?vv227 rfl (by kernel_rfl) (by kernel_rfl) (by kernel_rfl) rfl (fun _ _ _ h => h) (by rfl) ?hy227 (by assumption) ?rest227
                     case hy227 => (intro w hSw; (try dsimp only at hSw); go_simp; try with_reducible rfl))
                try simp only [Act.put, List.setIfInBounds_toArray, List.set_cons_zero, List.set_cons_succ]
                first
                  | (refine heldI_skip 27 47 rfl (by kernel_rfl) (by kernel_rfl) (by kernel_rfl) rfl (fun _ _ _ h => h) (by rfl) (by assumption) ?_)
                  | (refine heldI_take 27 47 ?vv228 rfl (by kernel_rfl) (by kernel_rfl) (by kernel_rfl) rfl (fun _ _ _ h => h) (by rfl) ?hy228 (by assumption) ?rest228
                     case hy228 => (intro w hSw; (try dsimp only at hSw); go_simp; try with_reducible rfl))
                try simp only [Act.put, List.setIfInBounds_toArray, List.set_cons_zero, List.set_cons_succ]
                first
                  | (refine heldI_skip 28 48 rfl (by kernel_rfl) (by kernel_rfl) (by kernel_rfl) rfl (fun _ _ _ h => h) (by rfl) (by assumption) ?_)
                  | (refine heldI_take 28 48 ?vv229 rfl (by kernel_rfl) (by kernel_rfl) (by kernel_rfl) rfl (fun _ _ _ h => h) (by rfl) ?hy229 (by assumption) ?rest229
                     case hy229 => (intro w hSw; (try dsimp only at hSw); go_simp; try with_reducible rfl))
                try simp only [Act.put, List.setIfInBounds_toArray, List.set_cons_zero, List.set_cons_succ]
                first
                  | (refine heldI_skip 29 49 rfl (by kernel_rfl) (by kernel_rfl) (by kernel_rfl) rfl (fun _ _ _ h => h) (by rfl) (by assumption) ?_)
                  | (refine heldI_take 29 49 ?vv230 rfl (by kernel_rfl) (by kernel_rfl) (by kernel_rfl) rfl (fun _ _ _ h => h) (by rfl) ?hy230 (by assumption) ?rest230
                     case hy230 => (intro w hSw; (try dsimp only at hSw); go_simp; try with_reducible rfl))
                try simp only [Act.put, List.setIfInBounds_toArray, List.set_cons_zero, List.set_cons_succ]
                first
                  | (refine heldI_skip 30 50 rfl (by kernel_rfl) (by kernel_rfl) (by kernel_rfl) rfl (fun _ _ _ h => h) (by rfl) (by assumption) ?_)
                  | (refine heldI_take 30 50 ?vv231 rfl (by kernel_rfl) (by kernel_rfl) (by kernel_rfl) rfl (fun _ _ _ h => h) (by rfl) ?hy231 (by assumption) ?rest231
                     case hy231 => (intro w hSw; (try dsimp only at hSw); go_simp; try with_reducible rfl))
                try simp only [Act.put, List.setIfInBounds_toArray, List.set_cons_zero, List.set_cons_succ]
                first
                  | (refine heldI_skip 31 51 rfl (by kernel_rfl) (by kernel_rfl) (by kernel_rfl) rfl (fun _ _ _ h => h) (by rfl) (by assumption) ?_)
                  | (refine heldI_take 31 51 ?vv232 rfl (by kernel_rfl) (by kernel_rfl) (by kernel_rfl) rfl (fun _ _ _ h => h) (by rfl) ?hy232 (by assumption) ?rest232
                     case hy232 => (intro w hSw; (try dsimp only at hSw); go_simp; try with_reducible rfl))
                try simp only [Act.put, List.setIfInBounds_toArray, List.set_cons_zero, List.set_cons_succ]
                first
                  | (refine heldI_skip 32 52 rfl (by kernel_rfl) (by kernel_rfl) (by kernel_rfl) rfl (fun _ _ _ h => h) (by rfl) (by assumption) ?_)
                  | (refine heldI_take 32 52 ?vv233 rfl (by kernel_rfl) (by kernel_rfl) (by kernel_rfl) rfl (fun _ _ _ h => h) (by rfl) ?hy233 (by assumption) ?rest233
                     case hy233 => (intro w hSw; (try dsimp only at hSw); go_simp; try with_reducible rfl))
                try simp only [Act.put, List.setIfInBounds_toArray, List.set_cons_zero, List.set_cons_succ]
                first
                  | (refine heldI_skip 33 53 rfl (by kernel_rfl) (by kernel_rfl) (by kernel_rfl) rfl (fun _ _ _ h => h) (by rfl) (by assumption) ?_)
                  | (refine heldI_take 33 53 ?vv234 rfl (by kernel_rfl) (by kernel_rfl) (by kernel_rfl) rfl (fun _ _ _ h => h) (by rfl) ?hy234 (by assumption) ?rest234
                     case hy234 => (intro w hSw; (try dsimp only at hSw); go_simp; try with_reducible rfl))
                try simp only [Act.put, List.setIfInBounds_toArray, List.set_cons_zero, List.set_cons_succ]
                first
                  | (refine heldI_skip 34 54 rfl (by kernel_rfl) (by kernel_rfl) (by kernel_rfl) rfl (fun _ _ _ h => h) (by rfl) (by assumption) ?_)
                  | (refine heldI_take 34 54 ?vv235 rfl (by kernel_rfl) (by kernel_rfl) (by kernel_rfl) rfl (fun _ _ _ h => h) (by rfl) ?hy235 (by assumption) ?rest235
                     case hy235 => (intro w hSw; (try dsimp only at hSw); go_simp; try with_reducible rfl))
                try simp only [Act.put, List.setIfInBounds_toArray, List.set_cons_zero, List.set_cons_succ]
                first
                  | (refine heldI_skip 35 55 rfl (by kernel_rfl) (by kernel_rfl) (by kernel_rfl) rfl (fun _ _ _ h => h) (by rfl) (by assumption) ?_)
                  | (refine heldI_take 35 55 ?vv236 rfl (by kernel_rfl) (by kernel_rfl) (by kernel_rfl) rfl (fun _ _ _ h => h) (by rfl) ?hy236 (by assumption) ?rest236
                     case hy236 => (intro w hSw; (try dsimp only at hSw); go_simp; try with_reducible rfl))
                try simp only [Act.put, List.setIfInBounds_toArray, List.set_cons_zero, List.set_cons_succ]
                first
                  | (refine heldI_skip 36 56 rfl (by kernel_rfl) (by kernel_rfl) (by kernel_rfl) rfl (fun _ _ _ h => h) (by rfl) (by assumption) ?_)
                  | (refine heldI_take 36 56 ?vv237 rfl (by kernel_rfl) (by kernel_rfl) (by kernel_rfl) rfl (fun _ _ _ h => h) (by rfl) ?hy237 (by assumption) ?rest237
                     case hy237 => (intro w hSw; (try dsimp only at hSw); go_simp; try with_reducible rfl))
                try simp only [Act.put, List.setIfInBounds_toArray, List.set_cons_zero, List.set_cons_succ]
                first
                  | (refine heldI_skip 37 57 rfl (by kernel_rfl) (by kernel_rfl) (by kernel_rfl) rfl (fun _ _ _ h => h) (by rfl) (by assumption) ?_)
                  | (refine heldI_take 37 57 ?vv238 rfl (by kernel_rfl) (by kernel_rfl) (by kernel_rfl) rfl (fun _ _ _ h => h) (by rfl) ?hy238 (by assumption) ?rest238
                     case hy238 => (intro w hSw; (try dsimp only at hSw); go_simp; try with_reducible rfl))
                try simp only [Act.put, List.setIfInBounds_toArray, List.set_cons_zero, List.set_cons_succ]
                first
                  | (refine heldI_skip 38 58 rfl (by kernel_rfl) (by kernel_rfl) (by kernel_rfl) rfl (fun _ _ _ h => h) (by rfl) (by assumption) ?_)
                  | (refine heldI_take 38 58 ?vv239 rfl (by kernel_rfl) (by kernel_rfl) (by kernel_rfl) rfl (fun _ _ _ h => h) (by rfl) ?hy239 (by assumption) ?rest239
                     case hy239 => (intro w hSw; (try dsimp only at hSw); go_simp; try with_reducible rfl))
                try simp only [Act.put, List.setIfInBounds_toArray, List.set_cons_zero, List.set_cons_succ]
                first
                  | (refine heldI_skip 39 59 rfl (by kernel_rfl) (by kernel_rfl) (by kernel_rfl) rfl (fun _ _ _ h => h) (by rfl) (by assumption) ?_)
                  | (refine heldI_take 39 59 ?vv240 rfl (by kernel_rfl) (by kernel_rfl) (by kernel_rfl) rfl (fun _ _ _ h => h) (by rfl) ?hy240 (by assumption) ?rest240
                     case hy240 => (intro w hSw; (try dsimp only at hSw); go_simp; try with_reducible rfl))
                try simp only [Act.put, List.setIfInBounds_toArray, List.set_cons_zero, List.set_cons_succ]
                first
                  | (refine heldI_skip 40 60 rfl (by kernel_rfl) (by kernel_rfl) (by kernel_rfl) rfl (fun _ _ _ h => h) (by rfl) (by assumption) ?_)
                  | (refine heldI_take 40 60 ?vv241 rfl (by kernel_rfl) (by kernel_rfl) (by kernel_rfl) rfl (fun _ _ _ h => h) (by rfl) ?hy241 (by assumption) ?rest241
                     case hy241 => (intro w hSw; (try dsimp only at hSw); go_simp; try with_reducible rfl))
                try simp only [Act.put, List.setIfInBounds_toArray, List.set_cons_zero, List.set_cons_succ]
                first
                  | (refine heldI_skip 41 61 rfl (by kernel_rfl) (by kernel_rfl) (by kernel_rfl) rfl (fun _ _ _ h => h) (by rfl) (by assumption) ?_)
                  | (refine heldI_take 41 61 ?vv242 rfl (by kernel_rfl) (by kernel_rfl) (by kernel_rfl) rfl (fun _ _ _ h => h) (by rfl) ?hy242 (by assumption) ?rest242
                     case hy242 => (intro w hSw; (try dsimp only at hSw); go_simp; try with_reducible rfl))
                try simp only [Act.put, List.setIfInBounds_toArray, List.set_cons_zero, List.set_cons_succ]
                first
                  | (refine heldI_skip 42 62 rfl (by kernel_rfl) (by kernel_rfl) (by kernel_rfl) rfl (fun _ _ _ h => h) (by rfl) (by assumption) ?_)
                  | (refine heldI_take 42 62 ?vv243 rfl (by kernel_rfl) (by kernel_rfl) (by kernel_rfl) rfl (fun _ _ _ h => h) (by rfl) ?hy243 (by assumption) ?rest243
                     case hy243 => (intro w hSw; (try dsimp only at hSw); go_simp; try with_reducible rfl))
                try simp only [Act.put, List.setIfInBounds_toArray, List.set_cons_zero, List.set_cons_succ]
                first
                  | (refine heldI_skip 43 63 rfl (by kernel_rfl) (by kernel_rfl) (by kernel_rfl) rfl (fun _ _ _ h => h) (by rfl) (by assumption) ?_)
                  | (refine heldI_take 43 63 ?vv244 rfl (by kernel_rfl) (by kernel_rfl) (by kernel_rfl) rfl (fun _ _ _ h => h) (by rfl) ?hy244 (by assumption) ?rest244
                     case hy244 => (intro w hSw; (try dsimp only at hSw); go_simp; try with_reducible rfl))
                try simp only [Act.put, List.setIfInBounds_toArray, List.set_cons_zero, List.set_cons_succ]
                refine wpAnyH_done (by kernel_rfl) ?_ _
                clear hHeld
                have BJ : Aside (Below w.heap.size w W.drew) := Below.drew BJ.out
                have OJ : Aside (W.drew.ownsRow w.heap.size 48 4 (.slice (some ⟨g, 0, none⟩) k cap) k (ord.flatMap encPg)) := OJ.out.drew
                generalize W.drew = V at BJ OJ ⊢
                obtain ⟨j, hj⟩ : ∃ j, j = jp + 1 := ⟨_, rfl⟩
                have hjz : ((jp : Int) + 1) = (j : Int) := by omega
                have HREF : Hid (refk kyP ord (kyP x) k = j) := hide (by rw [HREF0.out, hj])
                rw [← hj] at hjk
                simp only [hjz] at *
                clear hj hjz k2 k3 k4 k5 k7 k8 HYY hjl h1 h1' h1'' h2 h2' h2'' y1 y2 HREF0 gg HK
                obtain ⟨W, hW⟩ : ∃ W, W = V := ⟨_, rfl⟩
                subst hW
                have HBr := hide BJ.out
                obtain ⟨hbW, cR0, cR1, cR2, cR3⟩ := HXC.out W BJ.out
                have HRO := hide (own_rd' encPg_len OJ.out HON.out)
                have hjN : j ≤ k := by omega
                have N1 : k ≤ 1000000 := by omega
                have kq1 : (j : Int) ≤ (cap : Int) := by omega
                have kq2 : (0 : Int) ≤ (j : Int) := by omega
                have kq3 : (j : Int) ≤ (k : Int) := by omega
                have kq4 : ((j : Int)).toNat = j := by omega
                have kq5 : IntKind.i64.wrap (j : Int) = (j : Int) := IntWalk.i64_in _ (by omega)
                have kq6 : (0 : Int) ≤ (k : Int) := by omega
                clear BJ OJ
                obtain ⟨hi, hz0, hz1, hz2⟩ := HI.out
                go_wp2_with fail
                refine wp_region_held_drew (S := fun w' => w'.cell? ⟨b, off + k * 4, none⟩ = some (.int .i64 x.n) ∧ w'.cell? ⟨b, off + k * 4 + 1, none⟩ = some (.int .i64 x.r) ∧ w'.cell? ⟨b, off + k * 4 + 2, none⟩ = some (.int .i64 x.c) ∧ w'.cell? ⟨b, off + k * 4 + 3, none⟩ = some (.int .i64 x.l) ∧ Below W.heap.size W w') (by kernel_rfl) ⟨((show Below W.heap.size W W.drew from (Below.refl _ _).drew).cell (p := ⟨b, off + k * 4, none⟩) hbW).trans cR0, ((show Below W.heap.size W W.drew from (Below.refl _ _).drew).cell (p := ⟨b, off + k * 4 + 1, none⟩) hbW).trans cR1, ((show Below W.heap.size W W.drew from (Below.refl _ _).drew).cell (p := ⟨b, off + k * 4 + 2, none⟩) hbW).trans cR2, ((show Below W.heap.size W W.drew from (Below.refl _ _).drew).cell (p := ⟨b, off + k * 4 + 3, none⟩) hbW).trans cR3, (show Below W.heap.size W W.drew from (Below.refl _ _).drew)⟩ (fun hHeld => ?_)
                refine heldI_take 1 67 ?vv42 rfl (by kernel_rfl) (by kernel_rfl) (by kernel_rfl) rfl (fun _ _ _ h => h) (by rfl) ?hy42 (by assumption) ?rest42
                case hy42 => (intro w hSw; (try dsimp only at hSw); go_simp; try with_reducible rfl)
                try simp only [Act.put, List.setIfInBounds_toArray, List.set_cons_zero, List.set_cons_succ]
                refine heldI_take 2 68 ?vv43 rfl (by kernel_rfl) (by kernel_rfl) (by kernel_rfl) rfl (fun _ _ _ h => h) (by rfl) ?hy43 (by assumption) ?rest43
                case hy43 => (intro w hSw; (try dsimp only at hSw); go_simp; try with_reducible rfl)
                try simp only [Act.put, List.setIfInBounds_toArray, List.set_cons_zero, List.set_cons_succ]
                refine heldI_take 3 69 (.slice (some ⟨g, 0, none⟩) j cap) rfl (by kernel_rfl) (by kernel_rfl) (by kernel_rfl) rfl (fun _ _ _ h => h) (by rfl) ?hy44 (by assumption) ?rest44
                case hy44 => (intro w hSw; (try dsimp only at hSw); go_simp; first | done | (with_reducible rfl) | (unfold behindJ; by_cases hcc : cap = j <;> simp [hcc]))
                try simp only [Act.put, List.setIfInBounds_toArray, List.set_cons_zero, List.set_cons_succ]
                refine heldI_take 5 71 ?vv45 rfl (by kernel_rfl) (by kernel_rfl) (by kernel_rfl) rfl (fun _ _ _ h => h) (by rfl) ?hy45 (by assumption) ?rest45
                case hy45 => (intro w hSw; (try dsimp only at hSw); go_simp; try with_reducible rfl)
                try simp only [Act.put, List.setIfInBounds_toArray, List.set_cons_zero, List.set_cons_succ]
                refine heldI_take 6 72 ?vv46 rfl (by kernel_rfl) (by kernel_rfl) (by kernel_rfl) rfl (fun _ _ _ h => h) (by rfl) ?hy46 (by assumption) ?rest46
                case hy46 => (intro w hSw; (try dsimp only at hSw); go_simp; try with_reducible rfl)
                try simp only [Act.put, List.setIfInBounds_toArray, List.set_cons_zero, List.set_cons_succ]
                refine heldI_take 7 73 ?vv47 rfl (by kernel_rfl) (by kernel_rfl) (by kernel_rfl) rfl (fun _ _ _ h => h) (by rfl) ?hy47 (by assumption) ?rest47
                case hy47 => (intro w hSw; (try dsimp only at hSw); go_simp; try with_reducible rfl)
                try simp only [Act.put, List.setIfInBounds_toArray, List.set_cons_zero, List.set_cons_succ]
                refine heldI_take 8 74 ?vv48 rfl (by kernel_rfl) (by kernel_rfl) (by kernel_rfl) rfl (fun _ _ _ h => h) (by rfl) ?hy48 (by assumption) ?rest48
                case hy48 => (intro w hSw; (try dsimp only at hSw); go_simp; try with_reducible rfl)
                try simp only [Act.put, List.setIfInBounds_toArray, List.set_cons_zero, List.set_cons_succ]
                refine heldI_take 11 77 ?vv49 rfl (by kernel_rfl) (by kernel_rfl) (by kernel_rfl) rfl (fun _ _ _ h => h) (by rfl) ?hy49 (by assumption) ?rest49
                case hy49 => (intro w hSw; (try dsimp only at hSw); go_simp; try with_reducible rfl)
                try simp only [Act.put, List.setIfInBounds_toArray, List.set_cons_zero, List.set_cons_succ]
                refine heldI_take 12 78 ?vv50 rfl (by kernel_rfl) (by kernel_rfl) (by kernel_rfl) rfl (fun _ _ _ h => h) (by rfl) ?hy50 (by assumption) ?rest50
                case hy50 => (intro w hSw; (try dsimp only at hSw); go_simp; try with_reducible rfl)
                try simp only [Act.put, List.setIfInBounds_toArray, List.set_cons_zero, List.set_cons_succ]
                refine heldI_take 13 79 (.slice (some (behindJ g j cap 4)) (k - j) (cap - j)) rfl (by kernel_rfl) (by kernel_rfl) (by kernel_rfl) rfl (fun _ _ _ h => h) (by rfl) ?hy51 (by assumption) ?rest51
                case hy51 => (intro w hSw; (try dsimp only at hSw); go_simp; first | done | (with_reducible rfl) | (unfold behindJ; by_cases hcc : cap = j <;> simp [hcc]))
                try simp only [Act.put, List.setIfInBounds_toArray, List.set_cons_zero, List.set_cons_succ]
                refine wpAnyH_ready (rs := [0, 9]) (by kernel_rfl) (by simp) ?_
                refine AllReadyH.cons rfl (fun K hK => ?_) (AllReadyH.cons rfl (fun K hK => ?_) AllReadyH.nil)
                · go_simp
                  have own0 : ((World.alloc W (.cells #[] 48)).drew).ownsRow W.heap.size 48 4 (.slice (some ⟨W.heap.size, 0, none⟩) 0 0) 0 [] := World.ownsRow_made W.drew #[] 0 (Nat.le_refl _) (by simp [maxLen]) rfl
                  have q1 : Below W.heap.size W ((World.alloc W (.cells #[] 48)).drew) := (Below.drew (Below.refl W.heap.size W)).alloc (Nat.le_refl _) _
                  have gE : W.heap.size < ((World.alloc W (.cells #[] 48)).drew).heap.size := by simp
                  generalize (World.alloc W (.cells #[] 48)).drew = u1 at own0 q1 gE ⊢
                  refine hK.out _ _ ⟨(q1.cell (p := ⟨b, off + k * 4, none⟩) hbW).trans cR0, (q1.cell (p := ⟨b, off + k * 4 + 1, none⟩) hbW).trans cR1, (q1.cell (p := ⟨b, off + k * 4 + 2, none⟩) hbW).trans cR2, (q1.cell (p := ⟨b, off + k * 4 + 3, none⟩) hbW).trans cR3, q1⟩ (fun hHeld1 => ?_)
                  clear hK K
                  try simp only [Act.put, List.setIfInBounds_toArray, List.set_cons_zero, List.set_cons_succ]
                  refine wpAnyH_ready (rs := [4, 9]) (by kernel_rfl) (by simp) ?_
                  refine AllReadyH.cons rfl (fun K hK => ?_) (AllReadyH.cons rfl (fun K hK => ?_) AllReadyH.nil)
                  · refine step_append_ownJ (by rfl) _ _ _ (by rfl) W.heap.size 48 i0 _ 4 32 Try.underlying26 hi hz0 hz1 hz2 rfl (by omega) _ 0 [] (by rfl) own0 ⟨g, 0, none⟩ j cap ((ord.take j).flatMap encPg) (by rfl) (by rw [flat_len encPg_len, List.length_take, HON.out, Nat.min_eq_left hjN]) (rd_flat encPg_len ((rd_at0 HRO.out q1).takeJ j)) (encJ_one encPg_one _) (by unfold maxLen; omega) (by omega) q1.size ?_
                    intro v3 w3 hown3 hgrow3
                    have q3 : Below W.heap.size W w3 := bl_grown q1 own0 (Nat.le_refl _) hgrow3
                    have ho3 : w3.ownsRow W.heap.size 48 4 v3 j ((ord.take j).flatMap encPg) := by first | exact hown3 | (rw [Nat.zero_add, List.nil_append] at hown3; exact hown3)
                    clear hown3
                    refine hK.out _ _ ⟨(q3.cell (p := ⟨b, off + k * 4, none⟩) hbW).trans cR0, (q3.cell (p := ⟨b, off + k * 4 + 1, none⟩) hbW).trans cR1, (q3.cell (p := ⟨b, off + k * 4 + 2, none⟩) hbW).trans cR2, (q3.cell (p := ⟨b, off + k * 4 + 3, none⟩) hbW).trans cR3, q3⟩ (fun hHeld2 => ?_)
                    clear hK K
                    try simp only [Act.put, List.setIfInBounds_toArray, List.set_cons_zero, List.set_cons_succ]
                    refine wpAnyH_ready (rs := [9]) (by kernel_rfl) (by simp) ?_
                    refine AllReadyH.cons rfl (fun K hK => ?_) AllReadyH.nil
                    go_simp
                    have hX : Blk (World.alloc w3 (.cells #[.int .i64 x.n, .int .i64 x.r, .int .i64 x.c, .int .i64 x.l] 48)) w3.heap.size 48 #[.int .i64 x.n, .int .i64 x.r, .int .i64 x.c, .int .i64 x.l] := Blk.new w3 _ _
                    have q2 : Below W.heap.size W (World.alloc w3 (.cells #[.int .i64 x.n, .int .i64 x.r, .int .i64 x.c, .int .i64 x.l] 48)) := q3.alloc q3.size _
                    have gX : w3.heap.size < (World.alloc w3 (.cells #[.int .i64 x.n, .int .i64 x.r, .int .i64 x.c, .int .i64 x.l] 48)).heap.size := by simp
                    have ho3 := ho3.alloc (.cells #[.int .i64 x.n, .int .i64 x.r, .int .i64 x.c, .int .i64 x.l] 48)
                    generalize World.alloc w3 (.cells #[.int .i64 x.n, .int .i64 x.r, .int .i64 x.c, .int .i64 x.l] 48) = u2 at ho3 hX q2 gX ⊢
                    refine hK.out _ _ ⟨(q2.cell (p := ⟨b, off + k * 4, none⟩) hbW).trans cR0, (q2.cell (p := ⟨b, off + k * 4 + 1, none⟩) hbW).trans cR1, (q2.cell (p := ⟨b, off + k * 4 + 2, none⟩) hbW).trans cR2, (q2.cell (p := ⟨b, off + k * 4 + 3, none⟩) hbW).trans cR3, q2⟩ (fun hHeld3 => ?_)
                    clear hK K
                    try simp only [Act.put, List.setIfInBounds_toArray, List.set_cons_zero, List.set_cons_succ]
                    refine wpAnyH_ready (rs := [10]) (by kernel_rfl) (by simp) ?_
                    refine AllReadyH.cons rfl (fun K hK => ?_) AllReadyH.nil
                    refine step_append_ownJ (by rfl) _ _ _ (by rfl) W.heap.size 48 i0 _ 4 32 Try.underlying26 hi hz0 hz1 hz2 rfl (by omega) _ j _ (by rfl) ho3 ⟨w3.heap.size, 0, none⟩ 1 1 ([.int .i64 x.n, .int .i64 x.r, .int .i64 x.c, .int .i64 x.l]) (by rfl) (by rfl) (World.news_of_block (cs := #[.int .i64 x.n, .int .i64 x.r, .int .i64 x.c, .int .i64 x.l]) (t := 48) (fr := (0, 0)) hX) (by simp [Value.oneCell']) (by unfold maxLen; omega) (by omega) q2.size ?_
                    intro v4 w4 hown4 hgrow4
                    have q4 : Below W.heap.size W w4 := bl_grown q2 ho3 (Nat.le_refl _) hgrow4
                    refine hK.out _ _ ⟨(q4.cell (p := ⟨b, off + k * 4, none⟩) hbW).trans cR0, (q4.cell (p := ⟨b, off + k * 4 + 1, none⟩) hbW).trans cR1, (q4.cell (p := ⟨b, off + k * 4 + 2, none⟩) hbW).trans cR2, (q4.cell (p := ⟨b, off + k * 4 + 3, none⟩) hbW).trans cR3, q4⟩ (fun hHeld4 => ?_)
                    clear hK K
                    try simp only [Act.put, List.setIfInBounds_toArray, List.set_cons_zero, List.set_cons_succ]
                    clear hgrow4
                    refine wpAnyH_ready (rs := [14]) (by kernel_rfl) (by simp) ?_
                    refine AllReadyH.cons rfl (fun K hK => ?_) AllReadyH.nil
                    refine step_append_ownJ (by rfl) _ _ _ (by rfl) W.heap.size 48 i0 _ 4 32 Try.underlying26 hi hz0 hz1 hz2 rfl (by omega) _ (j + 1) _ (by rfl) hown4 (behindJ g j cap 4) (k - j) (cap - j) ((ord.drop j).flatMap encPg) (by rfl) (by rw [flat_len encPg_len, List.length_drop, HON.out]) (rd_flat encPg_len (Rd.behindJ HON.out hNc (rd_at0 HRO.out q4))) (encJ_one encPg_one _) (by unfold maxLen; omega) (by omega) q4.size ?_
                    intro v5 w5 hown5 hgrow5
                    have q5 : Below W.heap.size W w5 := bl_grown q4 hown4 (Nat.le_refl _) hgrow5
                    refine hK.out _ _ ⟨(q5.cell (p := ⟨b, off + k * 4, none⟩) hbW).trans cR0, (q5.cell (p := ⟨b, off + k * 4 + 1, none⟩) hbW).trans cR1, (q5.cell (p := ⟨b, off + k * 4 + 2, none⟩) hbW).trans cR2, (q5.cell (p := ⟨b, off + k * 4 + 3, none⟩) hbW).trans cR3, q5⟩ (fun hHeld5 => ?_)
                    clear hK K
                    try simp only [Act.put, List.setIfInBounds_toArray, List.set_cons_zero, List.set_cons_succ]
                    try simp only [List.getElem_toArray, List.getElem_cons_succ, List.getElem_cons_zero]
                    try simp only [Act.put, List.setIfInBounds_toArray, List.set_cons_zero, List.set_cons_succ]
                    refine heldI_take 15 4 ?vv52 rfl (by kernel_rfl) (by kernel_rfl) (by kernel_rfl) rfl (fun _ _ _ h => h) (by rfl) ?hy52 (by assumption) ?rest52
                    case hy52 => (intro w hSw; (try dsimp only at hSw); go_simp; try with_reducible rfl)
                    try simp only [Act.put, List.setIfInBounds_toArray, List.set_cons_zero, List.set_cons_succ]
                    refine wpAnyH_done (by kernel_rfl) ?_ _
                    have ho5 : w5.ownsRow W.heap.size 48 4 v5 (k + 1) ((rowE ord x [] j).flatMap encPg) := by
                      have e1 : j + 1 + (k - j) = k + 1 := by omega
                      have h9 := hown5
                      rw [e1] at h9
                      have e2 : (rowE ord x [] j).flatMap encPg = (ord.take j).flatMap encPg ++ [.int .i64 x.n, .int .i64 x.r, .int .i64 x.c, .int .i64 x.l] ++ (ord.drop j).flatMap encPg := by unfold rowE; simp [encPg]
                      rw [e2]; exact h9
                    have HO5 := hide ho5
                    have HB5 := hide q5
                    clear ho5 hown5 hgrow5 q5 hown4 q4 ho3
                    try clear q3
                    try clear q2
                    try clear q1
                    try clear own0
                    try clear hX
                    try clear gX
                    try clear gE
                    try clear hgrow3
                    clear hi hz0 hz1 hz2
                    have hlen : (rowE ord x [] j).length = k + 1 := by rw [rowE_len, HON.out]; rfl
                    rcases own_form encPg_len HO5.out hlen with ⟨_, h0, _⟩ | ⟨g', cap', cs, rfl, hg', hB', hs', hnc', hm', ht'⟩
                    · omega
                    have HO6 : Hid (rowE ord x [] j = sortE kyP (zs.take (k + 1))) := hide (by rw [HNX.out, HREF.out])
                    clear hB' hs' ht' hg' hlen
                    go_wp2
                    go_roundg (n - (k + 1))
                    case measure => omega
                    case rel =>
                      refine ⟨k + 1, g', cap', by omega, by omega, by go_num, rfl, hnc', hm', ?_, (HBr.out.trans (HB5.out.mono HBr.out.size) : Below w.heap.size w _)⟩
                      rw [← HO6.out]; exact own_baseH HO5.out HBr.out.size
                  · go_simp
                    have hX : Blk (World.alloc u1 (.cells #[.int .i64 x.n, .int .i64 x.r, .int .i64 x.c, .int .i64 x.l] 48)) u1.heap.size 48 #[.int .i64 x.n, .int .i64 x.r, .int .i64 x.c, .int .i64 x.l] := Blk.new u1 _ _
                    have q2 : Below W.heap.size W (World.alloc u1 (.cells #[.int .i64 x.n, .int .i64 x.r, .int .i64 x.c, .int .i64 x.l] 48)) := q1.alloc q1.size _
                    have gX : u1.heap.size < (World.alloc u1 (.cells #[.int .i64 x.n, .int .i64 x.r, .int .i64 x.c, .int .i64 x.l] 48)).heap.size := by simp
                    have own0 := own0.alloc (.cells #[.int .i64 x.n, .int .i64 x.r, .int .i64 x.c, .int .i64 x.l] 48)
                    generalize World.alloc u1 (.cells #[.int .i64 x.n, .int .i64 x.r, .int .i64 x.c, .int .i64 x.l] 48) = u2 at own0 hX q2 gX ⊢
                    refine hK.out _ _ ⟨(q2.cell (p := ⟨b, off + k * 4, none⟩) hbW).trans cR0, (q2.cell (p := ⟨b, off + k * 4 + 1, none⟩) hbW).trans cR1, (q2.cell (p := ⟨b, off + k * 4 + 2, none⟩) hbW).trans cR2, (q2.cell (p := ⟨b, off + k * 4 + 3, none⟩) hbW).trans cR3, q2⟩ (fun hHeld6 => ?_)
                    clear hK K
                    try simp only [Act.put, List.setIfInBounds_toArray, List.set_cons_zero, List.set_cons_succ]
                    refine wpAnyH_ready (rs := [4]) (by kernel_rfl) (by simp) ?_
                    refine AllReadyH.cons rfl (fun K hK => ?_) AllReadyH.nil
                    refine step_append_ownJ (by rfl) _ _ _ (by rfl) W.heap.size 48 i0 _ 4 32 Try.underlying26 hi hz0 hz1 hz2 rfl (by omega) _ 0 [] (by rfl) own0 ⟨g, 0, none⟩ j cap ((ord.take j).flatMap encPg) (by rfl) (by rw [flat_len encPg_len, List.length_take, HON.out, Nat.min_eq_left hjN]) (rd_flat encPg_len ((rd_at0 HRO.out q2).takeJ j)) (encJ_one encPg_one _) (by unfold maxLen; omega) (by omega) q2.size ?_
                    intro v3 w3 hown3 hgrow3
                    have q3 : Below W.heap.size W w3 := bl_grown q2 own0 (Nat.le_refl _) hgrow3
                    have ho3 : w3.ownsRow W.heap.size 48 4 v3 j ((ord.take j).flatMap encPg) := by first | exact hown3 | (rw [Nat.zero_add, List.nil_append] at hown3; exact hown3)
                    clear hown3
                    have hX := hX.grown hgrow3 (by simp [Value.ownBlock]; omega)
                    refine hK.out _ _ ⟨(q3.cell (p := ⟨b, off + k * 4, none⟩) hbW).trans cR0, (q3.cell (p := ⟨b, off + k * 4 + 1, none⟩) hbW).trans cR1, (q3.cell (p := ⟨b, off + k * 4 + 2, none⟩) hbW).trans cR2, (q3.cell (p := ⟨b, off + k * 4 + 3, none⟩) hbW).trans cR3, q3⟩ (fun hHeld7 => ?_)
                    clear hK K
                    try simp only [Act.put, List.setIfInBounds_toArray, List.set_cons_zero, List.set_cons_succ]
                    refine wpAnyH_ready (rs := [10]) (by kernel_rfl) (by simp) ?_
                    refine AllReadyH.cons rfl (fun K hK => ?_) AllReadyH.nil
                    refine step_append_ownJ (by rfl) _ _ _ (by rfl) W.heap.size 48 i0 _ 4 32 Try.underlying26 hi hz0 hz1 hz2 rfl (by omega) _ j _ (by rfl) ho3 ⟨u1.heap.size, 0, none⟩ 1 1 ([.int .i64 x.n, .int .i64 x.r, .int .i64 x.c, .int .i64 x.l]) (by rfl) (by rfl) (World.news_of_block (cs := #[.int .i64 x.n, .int .i64 x.r, .int .i64 x.c, .int .i64 x.l]) (t := 48) (fr := (0, 0)) hX) (by simp [Value.oneCell']) (by unfold maxLen; omega) (by omega) q3.size ?_
                    intro v4 w4 hown4 hgrow4
                    have q4 : Below W.heap.size W w4 := bl_grown q3 ho3 (Nat.le_refl _) hgrow4
                    refine hK.out _ _ ⟨(q4.cell (p := ⟨b, off + k * 4, none⟩) hbW).trans cR0, (q4.cell (p := ⟨b, off + k * 4 + 1, none⟩) hbW).trans cR1, (q4.cell (p := ⟨b, off + k * 4 + 2, none⟩) hbW).trans cR2, (q4.cell (p := ⟨b, off + k * 4 + 3, none⟩) hbW).trans cR3, q4⟩ (fun hHeld8 => ?_)
                    clear hK K
                    try simp only [Act.put, List.setIfInBounds_toArray, List.set_cons_zero, List.set_cons_succ]
                    clear hgrow4
                    refine wpAnyH_ready (rs := [14]) (by kernel_rfl) (by simp) ?_
                    refine AllReadyH.cons rfl (fun K hK => ?_) AllReadyH.nil
                    refine step_append_ownJ (by rfl) _ _ _ (by rfl) W.heap.size 48 i0 _ 4 32 Try.underlying26 hi hz0 hz1 hz2 rfl (by omega) _ (j + 1) _ (by rfl) hown4 (behindJ g j cap 4) (k - j) (cap - j) ((ord.drop j).flatMap encPg) (by rfl) (by rw [flat_len encPg_len, List.length_drop, HON.out]) (rd_flat encPg_len (Rd.behindJ HON.out hNc (rd_at0 HRO.out q4))) (encJ_one encPg_one _) (by unfold maxLen; omega) (by omega) q4.size ?_
                    intro v5 w5 hown5 hgrow5
                    have q5 : Below W.heap.size W w5 := bl_grown q4 hown4 (Nat.le_refl _) hgrow5
                    refine hK.out _ _ ⟨(q5.cell (p := ⟨b, off + k * 4, none⟩) hbW).trans cR0, (q5.cell (p := ⟨b, off + k * 4 + 1, none⟩) hbW).trans cR1, (q5.cell (p := ⟨b, off + k * 4 + 2, none⟩) hbW).trans cR2, (q5.cell (p := ⟨b, off + k * 4 + 3, none⟩) hbW).trans cR3, q5⟩ (fun hHeld9 => ?_)
                    clear hK K
                    try simp only [Act.put, List.setIfInBounds_toArray, List.set_cons_zero, List.set_cons_succ]
                    try simp only [List.getElem_toArray, List.getElem_cons_succ, List.getElem_cons_zero]
                    try simp only [Act.put, List.setIfInBounds_toArray, List.set_cons_zero, List.set_cons_succ]
                    refine heldI_take 15 4 ?vv53 rfl (by kernel_rfl) (by kernel_rfl) (by kernel_rfl) rfl (fun _ _ _ h => h) (by rfl) ?hy53 (by assumption) ?rest53
                    case hy53 => (intro w hSw; (try dsimp only at hSw); go_simp; try with_reducible rfl)
                    try simp only [Act.put, List.setIfInBounds_toArray, List.set_cons_zero, List.set_cons_succ]
                    refine wpAnyH_done (by kernel_rfl) ?_ _
                    have ho5 : w5.ownsRow W.heap.size 48 4 v5 (k + 1) ((rowE ord x [] j).flatMap encPg) := by
                      have e1 : j + 1 + (k - j) = k + 1 := by omega
                      have h9 := hown5
                      rw [e1] at h9
                      have e2 : (rowE ord x [] j).flatMap encPg = (ord.take j).flatMap encPg ++ [.int .i64 x.n, .int .i64 x.r, .int .i64 x.c, .int .i64 x.l] ++ (ord.drop j).flatMap encPg := by unfold rowE; simp [encPg]
                      rw [e2]; exact h9
                    have HO5 := hide ho5
                    have HB5 := hide q5
                    clear ho5 hown5 hgrow5 q5 hown4 q4 ho3
                    try clear q3
                    try clear q2
                    try clear q1
                    try clear own0
                    try clear hX
                    try clear gX
                    try clear gE
                    try clear hgrow3
                    clear hi hz0 hz1 hz2
                    have hlen : (rowE ord x [] j).length = k + 1 := by rw [rowE_len, HON.out]; rfl
                    rcases own_form encPg_len HO5.out hlen with ⟨_, h0, _⟩ | ⟨g', cap', cs, rfl, hg', hB', hs', hnc', hm', ht'⟩
                    · omega
                    have HO6 : Hid (rowE ord x [] j = sortE kyP (zs.take (k + 1))) := hide (by rw [HNX.out, HREF.out])
                    clear hB' hs' ht' hg' hlen
                    go_wp2
                    go_roundg (n - (k + 1))
                    case measure => omega
                    case rel =>
                      refine ⟨k + 1, g', cap', by omega, by omega, by go_num, rfl, hnc', hm', ?_, (HBr.out.trans (HB5.out.mono HBr.out.size) : Below w.heap.size w _)⟩
                      rw [← HO6.out]; exact own_baseH HO5.out HBr.out.size
                · go_simp
                  have hX : Blk ((World.alloc W (.cells #[.int .i64 x.n, .int .i64 x.r, .int .i64 x.c, .int .i64 x.l] 48)).drew) W.heap.size 48 #[.int .i64 x.n, .int .i64 x.r, .int .i64 x.c, .int .i64 x.l] := Blk.new W.drew _ _
                  have q1 : Below W.heap.size W ((World.alloc W (.cells #[.int .i64 x.n, .int .i64 x.r, .int .i64 x.c, .int .i64 x.l] 48)).drew) := (Below.drew (Below.refl W.heap.size W)).alloc (Nat.le_refl _) _
                  have gX : W.heap.size < ((World.alloc W (.cells #[.int .i64 x.n, .int .i64 x.r, .int .i64 x.c, .int .i64 x.l] 48)).drew).heap.size := by simp
                  generalize (World.alloc W (.cells #[.int .i64 x.n, .int .i64 x.r, .int .i64 x.c, .int .i64 x.l] 48)).drew = u1 at hX q1 gX ⊢
                  refine hK.out _ _ ⟨(q1.cell (p := ⟨b, off + k * 4, none⟩) hbW).trans cR0, (q1.cell (p := ⟨b, off + k * 4 + 1, none⟩) hbW).trans cR1, (q1.cell (p := ⟨b, off + k * 4 + 2, none⟩) hbW).trans cR2, (q1.cell (p := ⟨b, off + k * 4 + 3, none⟩) hbW).trans cR3, q1⟩ (fun hHeld10 => ?_)
                  clear hK K
                  try simp only [Act.put, List.setIfInBounds_toArray, List.set_cons_zero, List.set_cons_succ]
                  refine wpAnyH_ready (rs := [0]) (by kernel_rfl) (by simp) ?_
                  refine AllReadyH.cons rfl (fun K hK => ?_) AllReadyH.nil
                  go_simp
                  have own0 : (World.alloc u1 (.cells #[] 48)).ownsRow W.heap.size 48 4 (.slice (some ⟨u1.heap.size, 0, none⟩) 0 0) 0 [] := World.ownsRow_made u1 #[] 0 q1.size (by simp [maxLen]) rfl
                  have q2 : Below W.heap.size W (World.alloc u1 (.cells #[] 48)) := q1.alloc q1.size _
                  have gE : u1.heap.size < (World.alloc u1 (.cells #[] 48)).heap.size := by simp
                  have hX := hX.alloc (.cells #[] 48)
                  generalize World.alloc u1 (.cells #[] 48) = u2 at own0 hX q2 gE ⊢
                  refine hK.out _ _ ⟨(q2.cell (p := ⟨b, off + k * 4, none⟩) hbW).trans cR0, (q2.cell (p := ⟨b, off + k * 4 + 1, none⟩) hbW).trans cR1, (q2.cell (p := ⟨b, off + k * 4 + 2, none⟩) hbW).trans cR2, (q2.cell (p := ⟨b, off + k * 4 + 3, none⟩) hbW).trans cR3, q2⟩ (fun hHeld11 => ?_)
                  clear hK K
                  try simp only [Act.put, List.setIfInBounds_toArray, List.set_cons_zero, List.set_cons_succ]
                  refine wpAnyH_ready (rs := [4]) (by kernel_rfl) (by simp) ?_
                  refine AllReadyH.cons rfl (fun K hK => ?_) AllReadyH.nil
                  refine step_append_ownJ (by rfl) _ _ _ (by rfl) W.heap.size 48 i0 _ 4 32 Try.underlying26 hi hz0 hz1 hz2 rfl (by omega) _ 0 [] (by rfl) own0 ⟨g, 0, none⟩ j cap ((ord.take j).flatMap encPg) (by rfl) (by rw [flat_len encPg_len, List.length_take, HON.out, Nat.min_eq_left hjN]) (rd_flat encPg_len ((rd_at0 HRO.out q2).takeJ j)) (encJ_one encPg_one _) (by unfold maxLen; omega) (by omega) q2.size ?_
                  intro v3 w3 hown3 hgrow3
                  have q3 : Below W.heap.size W w3 := bl_grown q2 own0 (Nat.le_refl _) hgrow3
                  have ho3 : w3.ownsRow W.heap.size 48 4 v3 j ((ord.take j).flatMap encPg) := by first | exact hown3 | (rw [Nat.zero_add, List.nil_append] at hown3; exact hown3)
                  clear hown3
                  have hX := hX.grown hgrow3 (by simp [Value.ownBlock]; omega)
                  refine hK.out _ _ ⟨(q3.cell (p := ⟨b, off + k * 4, none⟩) hbW).trans cR0, (q3.cell (p := ⟨b, off + k * 4 + 1, none⟩) hbW).trans cR1, (q3.cell (p := ⟨b, off + k * 4 + 2, none⟩) hbW).trans cR2, (q3.cell (p := ⟨b, off + k * 4 + 3, none⟩) hbW).trans cR3, q3⟩ (fun hHeld12 => ?_)
                  clear hK K
                  try simp only [Act.put, List.setIfInBounds_toArray, List.set_cons_zero, List.set_cons_succ]
                  refine wpAnyH_ready (rs := [10]) (by kernel_rfl) (by simp) ?_
                  refine AllReadyH.cons rfl (fun K hK => ?_) AllReadyH.nil
                  refine step_append_ownJ (by rfl) _ _ _ (by rfl) W.heap.size 48 i0 _ 4 32 Try.underlying26 hi hz0 hz1 hz2 rfl (by omega) _ j _ (by rfl) ho3 ⟨W.heap.size, 0, none⟩ 1 1 ([.int .i64 x.n, .int .i64 x.r, .int .i64 x.c, .int .i64 x.l]) (by rfl) (by rfl) (World.news_of_block (cs := #[.int .i64 x.n, .int .i64 x.r, .int .i64 x.c, .int .i64 x.l]) (t := 48) (fr := (0, 0)) hX) (by simp [Value.oneCell']) (by unfold maxLen; omega) (by omega) q3.size ?_
                  intro v4 w4 hown4 hgrow4
                  have q4 : Below W.heap.size W w4 := bl_grown q3 ho3 (Nat.le_refl _) hgrow4
                  refine hK.out _ _ ⟨(q4.cell (p := ⟨b, off + k * 4, none⟩) hbW).trans cR0, (q4.cell (p := ⟨b, off + k * 4 + 1, none⟩) hbW).trans cR1, (q4.cell (p := ⟨b, off + k * 4 + 2, none⟩) hbW).trans cR2, (q4.cell (p := ⟨b, off + k * 4 + 3, none⟩) hbW).trans cR3, q4⟩ (fun hHeld13 => ?_)
                  clear hK K
                  try simp only [Act.put, List.setIfInBounds_toArray, List.set_cons_zero, List.set_cons_succ]
                  clear hgrow4
                  refine wpAnyH_ready (rs := [14]) (by kernel_rfl) (by simp) ?_
                  refine AllReadyH.cons rfl (fun K hK => ?_) AllReadyH.nil
                  refine step_append_ownJ (by rfl) _ _ _ (by rfl) W.heap.size 48 i0 _ 4 32 Try.underlying26 hi hz0 hz1 hz2 rfl (by omega) _ (j + 1) _ (by rfl) hown4 (behindJ g j cap 4) (k - j) (cap - j) ((ord.drop j).flatMap encPg) (by rfl) (by rw [flat_len encPg_len, List.length_drop, HON.out]) (rd_flat encPg_len (Rd.behindJ HON.out hNc (rd_at0 HRO.out q4))) (encJ_one encPg_one _) (by unfold maxLen; omega) (by omega) q4.size ?_
                  intro v5 w5 hown5 hgrow5
                  have q5 : Below W.heap.size W w5 := bl_grown q4 hown4 (Nat.le_refl _) hgrow5
                  refine hK.out _ _ ⟨(q5.cell (p := ⟨b, off + k * 4, none⟩) hbW).trans cR0, (q5.cell (p := ⟨b, off + k * 4 + 1, none⟩) hbW).trans cR1, (q5.cell (p := ⟨b, off + k * 4 + 2, none⟩) hbW).trans cR2, (q5.cell (p := ⟨b, off + k * 4 + 3, none⟩) hbW).trans cR3, q5⟩ (fun hHeld14 => ?_)
                  clear hK K
                  try simp only [Act.put, List.setIfInBounds_toArray, List.set_cons_zero, List.set_cons_succ]
                  try simp only [List.getElem_toArray, List.getElem_cons_succ, List.getElem_cons_zero]
                  try simp only [Act.put, List.setIfInBounds_toArray, List.set_cons_zero, List.set_cons_succ]
                  refine heldI_take 15 4 ?vv54 rfl (by kernel_rfl) (by kernel_rfl) (by kernel_rfl) rfl (fun _ _ _ h => h) (by rfl) ?hy54 (by assumption) ?rest54
                  case hy54 => (intro w hSw; (try dsimp only at hSw); go_simp; try with_reducible rfl)
                  try simp only [Act.put, List.setIfInBounds_toArray, List.set_cons_zero, List.set_cons_succ]
                  refine wpAnyH_done (by kernel_rfl) ?_ _
                  have ho5 : w5.ownsRow W.heap.size 48 4 v5 (k + 1) ((rowE ord x [] j).flatMap encPg) := by
                    have e1 : j + 1 + (k - j) = k + 1 := by omega
                    have h9 := hown5
                    rw [e1] at h9
                    have e2 : (rowE ord x [] j).flatMap encPg = (ord.take j).flatMap encPg ++ [.int .i64 x.n, .int .i64 x.r, .int .i64 x.c, .int .i64 x.l] ++ (ord.drop j).flatMap encPg := by unfold rowE; simp [encPg]
                    rw [e2]; exact h9
                  have HO5 := hide ho5
                  have HB5 := hide q5
                  clear ho5 hown5 hgrow5 q5 hown4 q4 ho3
                  try clear q3
                  try clear q2
                  try clear q1
                  try clear own0
                  try clear hX
                  try clear gX
                  try clear gE
                  try clear hgrow3
                  clear hi hz0 hz1 hz2
                  have hlen : (rowE ord x [] j).length = k + 1 := by rw [rowE_len, HON.out]; rfl
                  rcases own_form encPg_len HO5.out hlen with ⟨_, h0, _⟩ | ⟨g', cap', cs, rfl, hg', hB', hs', hnc', hm', ht'⟩
                  · omega
                  have HO6 : Hid (rowE ord x [] j = sortE kyP (zs.take (k + 1))) := hide (by rw [HNX.out, HREF.out])
                  clear hB' hs' ht' hg' hlen
                  go_wp2
                  go_roundg (n - (k + 1))
                  case measure => omega
                  case rel =>
                    refine ⟨k + 1, g', cap', by omega, by omega, by go_num, rfl, hnc', hm', ?_, (HBr.out.trans (HB5.out.mono HBr.out.size) : Below w.heap.size w _)⟩
                    rw [← HO6.out]; exact own_baseH HO5.out HBr.out.size
              · obtain ⟨yn, yr, yc, yl⟩ := y
                dsimp only at h1 h2 y1 y2
                subst h1
                have h2' : decide (x.c < yc) = false := decide_eq_false h2
                have h2'' : decide (yc > x.c) = false := decide_eq_false h2
                obtain ⟨W, hW⟩ : ∃ W, W = wr := ⟨_, rfl⟩
                subst hW
                go_wp2_with fail
                refine wp_region_held_drew (S := fun w' => w'.cell? ⟨g, jp * 4 + 1, none⟩ = some (.int .i64 x.r) ∧ w'.cell? ⟨g, jp * 4 + 2, none⟩ = some (.int .i64 yc) ∧ w'.cell? ⟨b, off + k * 4 + 1, none⟩ = some (.int .i64 x.r) ∧ w'.cell? ⟨b, off + k * 4 + 2, none⟩ = some (.int .i64 x.c) ∧ Below W.heap.size W w') (by kernel_rfl) ⟨y1, y2, x1, x2, (Below.refl _ _).drew⟩ (fun hHeld => ?_)
                first
                  | (refine heldI_skip 0 20 rfl (by kernel_rfl) (by kernel_rfl) (by kernel_rfl) rfl (fun _ _ _ h => h) (by rfl) (by assumption) ?_)
                  | (refine heldI_take 0 20 ?vv245 rfl (by kernel_rfl) (by kernel_rfl) (by kernel_rfl) rfl (fun _ _ _ h => h) (by rfl) ?hy245 (by assumption) ?rest245
                     case hy245 => (intro w hSw; (try dsimp only at hSw); go_simp; try with_reducible rfl))
                try simp only [Act.put, List.setIfInBounds_toArray, List.set_cons_zero, List.set_cons_succ]
                first
                  | (refine heldI_skip 1 21 rfl (by kernel_rfl) (by kernel_rfl) (by kernel_rfl) rfl (fun _ _ _ h => h) (by rfl) (by assumption) ?_)
                  | (refine heldI_take 1 21 ?vv246 rfl (by kernel_rfl) (by kernel_rfl) (by kernel_rfl) rfl (fun _ _ _ h => h) (by rfl) ?hy246 (by assumption) ?rest246
                     case hy246 => (intro w hSw; (try dsimp only at hSw); go_simp; try with_reducible rfl))
                try simp only [Act.put, List.setIfInBounds_toArray, List.set_cons_zero, List.set_cons_succ]
                first
                  | (refine heldI_skip 2 22 rfl (by kernel_rfl) (by kernel_rfl) (by kernel_rfl) rfl (fun _ _ _ h => h) (by rfl) (by assumption) ?_)
                  | (refine heldI_take 2 22 ?vv247 rfl (by kernel_rfl) (by kernel_rfl) (by kernel_rfl) rfl (fun _ _ _ h => h) (by rfl) ?hy247 (by assumption) ?rest247
                     case hy247 => (intro w hSw; (try dsimp only at hSw); go_simp; try with_reducible rfl))
                try simp only [Act.put, List.setIfInBounds_toArray, List.set_cons_zero, List.set_cons_succ]
                first
                  | (refine heldI_skip 3 23 rfl (by kernel_rfl) (by kernel_rfl) (by kernel_rfl) rfl (fun _ _ _ h => h) (by rfl) (by assumption) ?_)
                  | (refine heldI_take 3 23 ?vv248 rfl (by kernel_rfl) (by kernel_rfl) (by kernel_rfl) rfl (fun _ _ _ h => h) (by rfl) ?hy248 (by assumption) ?rest248
                     case hy248 => (intro w hSw; (try dsimp only at hSw); go_simp; try with_reducible rfl))
                try simp only [Act.put, List.setIfInBounds_toArray, List.set_cons_zero, List.set_cons_succ]
                first
                  | (refine heldI_skip 4 24 rfl (by kernel_rfl) (by kernel_rfl) (by kernel_rfl) rfl (fun _ _ _ h => h) (by rfl) (by assumption) ?_)
                  | (refine heldI_take 4 24 ?vv249 rfl (by kernel_rfl) (by kernel_rfl) (by kernel_rfl) rfl (fun _ _ _ h => h) (by rfl) ?hy249 (by assumption) ?rest249
                     case hy249 => (intro w hSw; (try dsimp only at hSw); go_simp; try with_reducible rfl))
                try simp only [Act.put, List.setIfInBounds_toArray, List.set_cons_zero, List.set_cons_succ]
                first
                  | (refine heldI_skip 5 25 rfl (by kernel_rfl) (by kernel_rfl) (by kernel_rfl) rfl (fun _ _ _ h => h) (by rfl) (by assumption) ?_)
                  | (refine heldI_take 5 25 ?vv250 rfl (by kernel_rfl) (by kernel_rfl) (by kernel_rfl) rfl (fun _ _ _ h => h) (by rfl) ?hy250 (by assumption) ?rest250
                     case hy250 => (intro w hSw; (try dsimp only at hSw); go_simp; try with_reducible rfl))
                try simp only [Act.put, List.setIfInBounds_toArray, List.set_cons_zero, List.set_cons_succ]
                first
                  | (refine heldI_skip 6 26 rfl (by kernel_rfl) (by kernel_rfl) (by kernel_rfl) rfl (fun _ _ _ h => h) (by rfl) (by assumption) ?_)
                  | (refine heldI_take 6 26 ?vv251 rfl (by kernel_rfl) (by kernel_rfl) (by kernel_rfl) rfl (fun _ _ _ h => h) (by rfl) ?hy251 (by assumption) ?rest251
                     case hy251 => (intro w hSw; (try dsimp only at hSw); go_simp; try with_reducible rfl))
                try simp only [Act.put, List.setIfInBounds_toArray, List.set_cons_zero, List.set_cons_succ]
                first
                  | (refine heldI_skip 7 27 rfl (by kernel_rfl) (by kernel_rfl) (by kernel_rfl) rfl (fun _ _ _ h => h) (by rfl) (by assumption) ?_)
                  | (refine heldI_take 7 27 ?vv252 rfl (by kernel_rfl) (by kernel_rfl) (by kernel_rfl) rfl (fun _ _ _ h => h) (by rfl) ?hy252 (by assumption) ?rest252
                     case hy252 => (intro w hSw; (try dsimp only at hSw); go_simp; try with_reducible rfl))
                try simp only [Act.put, List.setIfInBounds_toArray, List.set_cons_zero, List.set_cons_succ]
                first
                  | (refine heldI_skip 8 28 rfl (by kernel_rfl) (by kernel_rfl) (by kernel_rfl) rfl (fun _ _ _ h => h) (by rfl) (by assumption) ?_)
                  | (refine heldI_take 8 28 ?vv253 rfl (by kernel_rfl) (by kernel_rfl) (by kernel_rfl) rfl (fun _ _ _ h => h) (by rfl) ?hy253 (by assumption) ?rest253
                     case hy253 => (intro w hSw; (try dsimp only at hSw); go_simp; try with_reducible rfl))
                try simp only [Act.put, List.setIfInBounds_toArray, List.set_cons_zero, List.set_cons_succ]
                first
                  | (refine heldI_skip 9 29 rfl (by kernel_rfl) (by kernel_rfl) (by kernel_rfl) rfl (fun _ _ _ h => h) (by rfl) (by assumption) ?_)
                  | (refine heldI_take 9 29 ?vv254 rfl (by kernel_rfl) (by kernel_rfl) (by kernel_rfl) rfl (fun _ _ _ h => h) (by rfl) ?hy254 (by assumption) ?rest254
                     case hy254 => (intro w hSw; (try dsimp only at hSw); go_simp; try with_reducible rfl))
                try simp only [Act.put, List.setIfInBounds_toArray, List.set_cons_zero, List.set_cons_succ]
                first
                  | (refine heldI_skip 10 30 rfl (by kernel_rfl) (by kernel_rfl) (by kernel_rfl) rfl (fun _ _ _ h => h) (by rfl) (by assumption) ?_)
                  | (refine heldI_take 10 30 ?vv255 rfl (by kernel_rfl) (by kernel_rfl) (by kernel_rfl) rfl (fun _ _ _ h => h) (by rfl) ?hy255 (by assumption) ?rest255
                     case hy255 => (intro w hSw; (try dsimp only at hSw); go_simp; try with_reducible rfl))
                try simp only [Act.put, List.setIfInBounds_toArray, List.set_cons_zero, List.set_cons_succ]
                first
                  | (refine heldI_skip 11 31 rfl (by kernel_rfl) (by kernel_rfl) (by kernel_rfl) rfl (fun _ _ _ h => h) (by rfl) (by assumption) ?_)
                  | (refine heldI_take 11 31 ?vv256 rfl (by kernel_rfl) (by kernel_rfl) (by kernel_rfl) rfl (fun _ _ _ h => h) (by rfl) ?hy256 (by assumption) ?rest256
                     case hy256 => (intro w hSw; (try dsimp only at hSw); go_simp; try with_reducible rfl))
                try simp only [Act.put, List.setIfInBounds_toArray, List.set_cons_zero, List.set_cons_succ]
                first
                  | (refine heldI_skip 12 32 rfl (by kernel_rfl) (by kernel_rfl) (by kernel_rfl) rfl (fun _ _ _ h => h) (by rfl) (by assumption) ?_)
                  | (refine heldI_take 12 32 ?vv257 rfl (by kernel_rfl) (by kernel_rfl) (by kernel_rfl) rfl (fun _ _ _ h => h) (by rfl) ?hy257 (by assumption) ?rest257
                     case hy257 => (intro w hSw; (try dsimp only at hSw); go_simp; try with_reducible rfl))
                try simp only [Act.put, List.setIfInBounds_toArray, List.set_cons_zero, List.set_cons_succ]
                first
                  | (refine heldI_skip 13 33 rfl (by kernel_rfl) (by kernel_rfl) (by kernel_rfl) rfl (fun _ _ _ h => h) (by rfl) (by assumption) ?_)
                  | (refine heldI_take 13 33 ?vv258 rfl (by kernel_rfl) (by kernel_rfl) (by kernel_rfl) rfl (fun _ _ _ h => h) (by rfl) ?hy258 (by assumption) ?rest258
                     case hy258 => (intro w hSw; (try dsimp only at hSw); go_simp; try with_reducible rfl))
                try simp only [Act.put, List.setIfInBounds_toArray, List.set_cons_zero, List.set_cons_succ]
                first
                  | (refine heldI_skip 14 34 rfl (by kernel_rfl) (by kernel_rfl) (by kernel_rfl) rfl (fun _ _ _ h => h) (by rfl) (by assumption) ?_)
                  | (refine heldI_take 14 34 ?vv259 rfl (by kernel_rfl) (by kernel_rfl) (by kernel_rfl) rfl (fun _ _ _ h => h) (by rfl) ?hy259 (by assumption) ?rest259
                     case hy259 => (intro w hSw; (try dsimp only at hSw); go_simp; try with_reducible rfl))
                try simp only [Act.put, List.setIfInBounds_toArray, List.set_cons_zero, List.set_cons_succ]
                first
                  | (refine heldI_skip 15 35 rfl (by kernel_rfl) (by kernel_rfl) (by kernel_rfl) rfl (fun _ _ _ h => h) (by rfl) (by assumption) ?_)
                  | (refine heldI_take 15 35 ?vv260 rfl (by kernel_rfl) (by kernel_rfl) (by kernel_rfl) rfl (fun _ _ _ h => h) (by rfl) ?hy260 (by assumption) ?rest260
                     case hy260 => (intro w hSw; (try dsimp only at hSw); go_simp; try with_reducible rfl))
                try simp only [Act.put, List.setIfInBounds_toArray, List.set_cons_zero, List.set_cons_succ]
                first
                  | (refine heldI_skip 16 36 rfl (by kernel_rfl) (by kernel_rfl) (by kernel_rfl) rfl (fun _ _ _ h => h) (by rfl) (by assumption) ?_)
                  | (refine heldI_take 16 36 ?vv261 rfl (by kernel_rfl) (by kernel_rfl) (by kernel_rfl) rfl (fun _ _ _ h => h) (by rfl) ?hy261 (by assumption) ?rest261
                     case hy261 => (intro w hSw; (try dsimp only at hSw); go_simp; try with_reducible rfl))
                try simp only [Act.put, List.setIfInBounds_toArray, List.set_cons_zero, List.set_cons_succ]
                first
                  | (refine heldI_skip 17 37 rfl (by kernel_rfl) (by kernel_rfl) (by kernel_rfl) rfl (fun _ _ _ h => h) (by rfl) (by assumption) ?_)
                  | (refine heldI_take 17 37 ?vv262 rfl (by kernel_rfl) (by kernel_rfl) (by kernel_rfl) rfl (fun _ _ _ h => h) (by rfl) ?hy262 (by assumption) ?rest262
                     case hy262 => (intro w hSw; (try dsimp only at hSw); go_simp; try with_reducible rfl))
                try simp only [Act.put, List.setIfInBounds_toArray, List.set_cons_zero, List.set_cons_succ]
                first
                  | (refine heldI_skip 18 38 rfl (by kernel_rfl) (by kernel_rfl) (by kernel_rfl) rfl (fun _ _ _ h => h) (by rfl) (by assumption) ?_)
                  | (refine heldI_take 18 38 ?vv263 rfl (by kernel_rfl) (by kernel_rfl) (by kernel_rfl) rfl (fun _ _ _ h => h) (by rfl) ?hy263 (by assumption) ?rest263
                     case hy263 => (intro w hSw; (try dsimp only at hSw); go_simp; try with_reducible rfl))
                try simp only [Act.put, List.setIfInBounds_toArray, List.set_cons_zero, List.set_cons_succ]
                first
                  | (refine heldI_skip 19 39 rfl (by kernel_rfl) (by kernel_rfl) (by kernel_rfl) rfl (fun _ _ _ h => h) (by rfl) (by assumption) ?_)
                  | (refine heldI_take 19 39 ?vv264 rfl (by kernel_rfl) (by kernel_rfl) (by kernel_rfl) rfl (fun _ _ _ h => h) (by rfl) ?hy264 (by assumption) ?rest264
                     case hy264 => (intro w hSw; (try dsimp only at hSw); go_simp; try with_reducible rfl))
                try simp only [Act.put, List.setIfInBounds_toArray, List.set_cons_zero, List.set_cons_succ]
                first
                  | (refine heldI_skip 20 40 rfl (by kernel_rfl) (by kernel_rfl) (by kernel_rfl) rfl (fun _ _ _ h => h) (by rfl) (by assumption) ?_)
                  | (refine heldI_take 20 40 ?vv265 rfl (by kernel_rfl) (by kernel_rfl) (by kernel_rfl) rfl (fun _ _ _ h => h) (by rfl) ?hy265 (by assumption) ?rest265
                     case hy265 => (intro w hSw; (try dsimp only at hSw); go_simp; try with_reducible rfl))
                try simp only [Act.put, List.setIfInBounds_toArray, List.set_cons_zero, List.set_cons_succ]
                first
                  | (refine heldI_skip 21 41 rfl (by kernel_rfl) (by kernel_rfl) (by kernel_rfl) rfl (fun _ _ _ h => h) (by rfl) (by assumption) ?_)
                  | (refine heldI_take 21 41 ?vv266 rfl (by kernel_rfl) (by kernel_rfl) (by kernel_rfl) rfl (fun _ _ _ h => h) (by rfl) ?hy266 (by assumption) ?rest266
                     case hy266 => (intro w hSw; (try dsimp only at hSw); go_simp; try with_reducible rfl))
                try simp only [Act.put, List.setIfInBounds_toArray, List.set_cons_zero, List.set_cons_succ]
                first
                  | (refine heldI_skip 22 42 rfl (by kernel_rfl) (by kernel_rfl) (by kernel_rfl) rfl (fun _ _ _ h => h) (by rfl) (by assumption) ?_)
                  | (refine heldI_take 22 42 ?vv267 rfl (by kernel_rfl) (by kernel_rfl) (by kernel_rfl) rfl (fun _ _ _ h => h) (by rfl) ?hy267 (by assumption) ?rest267
                     case hy267 => (intro w hSw; (try dsimp only at hSw); go_simp; try with_reducible rfl))
                try simp only [Act.put, List.setIfInBounds_toArray, List.set_cons_zero, List.set_cons_succ]
                first
                  | (refine heldI_skip 23 43 rfl (by kernel_rfl) (by kernel_rfl) (by kernel_rfl) rfl (fun _ _ _ h => h) (by rfl) (by assumption) ?_)
                  | (refine heldI_take 23 43 ?vv268 rfl (by kernel_rfl) (by kernel_rfl) (by kernel_rfl) rfl (fun _ _ _ h => h) (by rfl) ?hy268 (by assumption) ?rest268
                     case hy268 => (intro w hSw; (try dsimp only at hSw); go_simp; try with_reducible rfl))
                try simp only [Act.put, List.setIfInBounds_toArray, List.set_cons_zero, List.set_cons_succ]
                first
                  | (refine heldI_skip 24 44 rfl (by kernel_rfl) (by kernel_rfl) (by kernel_rfl) rfl (fun _ _ _ h => h) (by rfl) (by assumption) ?_)
                  | (refine heldI_take 24 44 ?vv269 rfl (by kernel_rfl) (by kernel_rfl) (by kernel_rfl) rfl (fun _ _ _ h => h) (by rfl) ?hy269 (by assumption) ?rest269
                     case hy269 => (intro w hSw; (try dsimp only at hSw); go_simp; try with_reducible rfl))
                try simp only [Act.put, List.setIfInBounds_toArray, List.set_cons_zero, List.set_cons_succ]
                first
                  | (refine heldI_skip 25 45 rfl (by kernel_rfl) (by kernel_rfl) (by kernel_rfl) rfl (fun _ _ _ h => h) (by rfl) (by assumption) ?_)
                  | (refine heldI_take 25 45 ?vv270 rfl (by kernel_rfl) (by kernel_rfl) (by kernel_rfl) rfl (fun _ _ _ h => h) (by rfl) ?hy270 (by assumption) ?rest270
                     case hy270 => (intro w hSw; (try dsimp only at hSw); go_simp; try with_reducible rfl))
                try simp only [Act.put, List.setIfInBounds_toArray, List.set_cons_zero, List.set_cons_succ]
                first
                  | (refine heldI_skip 26 46 rfl (by kernel_rfl) (by kernel_rfl) (by kernel_rfl) rfl (fun _ _ _ h => h) (by rfl) (by assumption) ?_)
                  | (refine heldI_take 26 46 ?vv271 rfl (by kernel_rfl) (by kernel_rfl) (by kernel_rfl) rfl (fun _ _ _ h => h) (by rfl) ?hy271 (by assumption) ?rest271
                     case hy271 => (intro w hSw; (try dsimp only at hSw); go_simp; try with_reducible rfl))
                try simp only [Act.put, List.setIfInBounds_toArray, List.set_cons_zero, List.set_cons_succ]
                first
                  | (refine heldI_skip 27 47 rfl (by kernel_rfl) (by kernel_rfl) (by kernel_rfl) rfl (fun _ _ _ h => h) (by rfl) (by assumption) ?_)
                  | (refine heldI_take 27 47 ?vv272 rfl (by kernel_rfl) (by kernel_rfl) (by kernel_rfl) rfl (fun _ _ _ h => h) (by rfl) ?hy272 (by assumption) ?rest272
                     case hy272 => (intro w hSw; (try dsimp only at hSw); go_simp; try with_reducible rfl))
                try simp only [Act.put, List.setIfInBounds_toArray, List.set_cons_zero, List.set_cons_succ]
                first
                  | (refine heldI_skip 28 48 rfl (by kernel_rfl) (by kernel_rfl) (by kernel_rfl) rfl (fun _ _ _ h => h) (by rfl) (by assumption) ?_)
                  | (refine heldI_take 28 48 ?vv273 rfl (by kernel_rfl) (by kernel_rfl) (by kernel_rfl) rfl (fun _ _ _ h => h) (by rfl) ?hy273 (by assumption) ?rest273
                     case hy273 => (intro w hSw; (try dsimp only at hSw); go_simp; try with_reducible rfl))
                try simp only [Act.put, List.setIfInBounds_toArray, List.set_cons_zero, List.set_cons_succ]
                first
                  | (refine heldI_skip 29 49 rfl (by kernel_rfl) (by kernel_rfl) (by kernel_rfl) rfl (fun _ _ _ h => h) (by rfl) (by assumption) ?_)
                  | (refine heldI_take 29 49 ?vv274 rfl (by kernel_rfl) (by kernel_rfl) (by kernel_rfl) rfl (fun _ _ _ h => h) (by rfl) ?hy274 (by assumption) ?rest274
                     case hy274 => (intro w hSw; (try dsimp only at hSw); go_simp; try with_reducible rfl))
                try simp only [Act.put, List.setIfInBounds_toArray, List.set_cons_zero, List.set_cons_succ]
                first
                  | (refine heldI_skip 30 50 rfl (by kernel_rfl) (by kernel_rfl) (by kernel_rfl) rfl (fun _ _ _ h => h) (by rfl) (by assumption) ?_)
                  | (refine heldI_take 30 50 ?vv275 rfl (by kernel_rfl) (by kernel_rfl) (by kernel_rfl) rfl (fun _ _ _ h => h) (by rfl) ?hy275 (by assumption) ?rest275
                     case hy275 => (intro w hSw; (try dsimp only at hSw); go_simp; try with_reducible rfl))
                try simp only [Act.put, List.setIfInBounds_toArray, List.set_cons_zero, List.set_cons_succ]
                first
                  | (refine heldI_skip 31 51 rfl (by kernel_rfl) (by kernel_rfl) (by kernel_rfl) rfl (fun _ _ _ h => h) (by rfl) (by assumption) ?_)
                  | (refine heldI_take 31 51 ?vv276 rfl (by kernel_rfl) (by kernel_rfl) (by kernel_rfl) rfl (fun _ _ _ h => h) (by rfl) ?hy276 (by assumption) ?rest276
                     case hy276 => (intro w hSw; (try dsimp only at hSw); go_simp; try with_reducible rfl))
                try simp only [Act.put, List.setIfInBounds_toArray, List.set_cons_zero, List.set_cons_succ]
                first
                  | (refine heldI_skip 32 52 rfl (by kernel_rfl) (by kernel_rfl) (by kernel_rfl) rfl (fun _ _ _ h => h) (by rfl) (by assumption) ?_)
                  | (refine heldI_take 32 52 ?vv277 rfl (by kernel_rfl) (by kernel_rfl) (by kernel_rfl) rfl (fun _ _ _ h => h) (by rfl) ?hy277 (by assumption) ?rest277
                     case hy277 => (intro w hSw; (try dsimp only at hSw); go_simp; try with_reducible rfl))
                try simp only [Act.put, List.setIfInBounds_toArray, List.set_cons_zero, List.set_cons_succ]
                first
                  | (refine heldI_skip 33 53 rfl (by kernel_rfl) (by kernel_rfl) (by kernel_rfl) rfl (fun _ _ _ h => h) (by rfl) (by assumption) ?_)
                  | (refine heldI_take 33 53 ?vv278 rfl (by kernel_rfl) (by kernel_rfl) (by kernel_rfl) rfl (fun _ _ _ h => h) (by rfl) ?hy278 (by assumption) ?rest278
                     case hy278 => (intro w hSw; (try dsimp only at hSw); go_simp; try with_reducible rfl))
                try simp only [Act.put, List.setIfInBounds_toArray, List.set_cons_zero, List.set_cons_succ]
                first
                  | (refine heldI_skip 34 54 rfl (by kernel_rfl) (by kernel_rfl) (by kernel_rfl) rfl (fun _ _ _ h => h) (by rfl) (by assumption) ?_)
                  | (refine heldI_take 34 54 ?vv279 rfl (by kernel_rfl) (by kernel_rfl) (by kernel_rfl) rfl (fun _ _ _ h => h) (by rfl) ?hy279 (by assumption) ?rest279
                     case hy279 => (intro w hSw; (try dsimp only at hSw); go_simp; try with_reducible rfl))
                try simp only [Act.put, List.setIfInBounds_toArray, List.set_cons_zero, List.set_cons_succ]
                first
                  | (refine heldI_skip 35 55 rfl (by kernel_rfl) (by kernel_rfl) (by kernel_rfl) rfl (fun _ _ _ h => h) (by rfl) (by assumption) ?_)
                  | (refine heldI_take 35 55 ?vv280 rfl (by kernel_rfl) (by kernel_rfl) (by kernel_rfl) rfl (fun _ _ _ h => h) (by rfl) ?hy280 (by assumption) ?rest280
                     case hy280 => (intro w hSw; (try dsimp only at hSw); go_simp; try with_reducible rfl))
                try simp only [Act.put, List.setIfInBounds_toArray, List.set_cons_zero, List.set_cons_succ]
                first
                  | (refine heldI_skip 36 56 rfl (by kernel_rfl) (by kernel_rfl) (by kernel_rfl) rfl (fun _ _ _ h => h) (by rfl) (by assumption) ?_)
                  | (refine heldI_take 36 56 ?vv281 rfl (by kernel_rfl) (by kernel_rfl) (by kernel_rfl) rfl (fun _ _ _ h => h) (by rfl) ?hy281 (by assumption) ?rest281
                     case hy281 => (intro w hSw; (try dsimp only at hSw); go_simp; try with_reducible rfl))
                try simp only [Act.put, List.setIfInBounds_toArray, List.set_cons_zero, List.set_cons_succ]
                first
                  | (refine heldI_skip 37 57 rfl (by kernel_rfl) (by kernel_rfl) (by kernel_rfl) rfl (fun _ _ _ h => h) (by rfl) (by assumption) ?_)
                  | (refine heldI_take 37 57 ?vv282 rfl (by kernel_rfl) (by kernel_rfl) (by kernel_rfl) rfl (fun _ _ _ h => h) (by rfl) ?hy282 (by assumption) ?rest282
                     case hy282 => (intro w hSw; (try dsimp only at hSw); go_simp; try with_reducible rfl))
                try simp only [Act.put, List.setIfInBounds_toArray, List.set_cons_zero, List.set_cons_succ]
                first
                  | (refine heldI_skip 38 58 rfl (by kernel_rfl) (by kernel_rfl) (by kernel_rfl) rfl (fun _ _ _ h => h) (by rfl) (by assumption) ?_)
                  | (refine heldI_take 38 58 ?vv283 rfl (by kernel_rfl) (by kernel_rfl) (by kernel_rfl) rfl (fun _ _ _ h => h) (by rfl) ?hy283 (by assumption) ?rest283
                     case hy283 => (intro w hSw; (try dsimp only at hSw); go_simp; try with_reducible rfl))
                try simp only [Act.put, List.setIfInBounds_toArray, List.set_cons_zero, List.set_cons_succ]
                first
                  | (refine heldI_skip 39 59 rfl (by kernel_rfl) (by kernel_rfl) (by kernel_rfl) rfl (fun _ _ _ h => h) (by rfl) (by assumption) ?_)
                  | (refine heldI_take 39 59 ?vv284 rfl (by kernel_rfl) (by kernel_rfl) (by kernel_rfl) rfl (fun _ _ _ h => h) (by rfl) ?hy284 (by assumption) ?rest284
                     case hy284 => (intro w hSw; (try dsimp only at hSw); go_simp; try with_reducible rfl))
                try simp only [Act.put, List.setIfInBounds_toArray, List.set_cons_zero, List.set_cons_succ]
                first
                  | (refine heldI_skip 40 60 rfl (by kernel_rfl) (by kernel_rfl) (by kernel_rfl) rfl (fun _ _ _ h => h) (by rfl) (by assumption) ?_)
                  | (refine heldI_take 40 60 ?vv285 rfl (by kernel_rfl) (by kernel_rfl) (by kernel_rfl) rfl (fun _ _ _ h => h) (by rfl) ?hy285 (by assumption) ?rest285
                     case hy285 => (intro w hSw; (try dsimp only at hSw); go_simp; try with_reducible rfl))
                try simp only [Act.put, List.setIfInBounds_toArray, List.set_cons_zero, List.set_cons_succ]
                first
                  | (refine heldI_skip 41 61 rfl (by kernel_rfl) (by kernel_rfl) (by kernel_rfl) rfl (fun _ _ _ h => h) (by rfl) (by assumption) ?_)
                  | (refine heldI_take 41 61 ?vv286 rfl (by kernel_rfl) (by kernel_rfl) (by kernel_rfl) rfl (fun _ _ _ h => h) (by rfl) ?hy286 (by assumption) ?rest286
                     case hy286 => (intro w hSw; (try dsimp only at hSw); go_simp; try with_reducible rfl))
                try simp only [Act.put, List.setIfInBounds_toArray, List.set_cons_zero, List.set_cons_succ]
                first
                  | (refine heldI_skip 42 62 rfl (by kernel_rfl) (by kernel_rfl) (by kernel_rfl) rfl (fun _ _ _ h => h) (by rfl) (by assumption) ?_)
                  | (refine heldI_take 42 62 ?vv287 rfl (by kernel_rfl) (by kernel_rfl) (by kernel_rfl) rfl (fun _ _ _ h => h) (by rfl) ?hy287 (by assumption) ?rest287
                     case hy287 => (intro w hSw; (try dsimp only at hSw); go_simp; try with_reducible rfl))
                try simp only [Act.put, List.setIfInBounds_toArray, List.set_cons_zero, List.set_cons_succ]
                first
                  | (refine heldI_skip 43 63 rfl (by kernel_rfl) (by kernel_rfl) (by kernel_rfl) rfl (fun _ _ _ h => h) (by rfl) (by assumption) ?_)
                  | (refine heldI_take 43 63 ?vv288 rfl (by kernel_rfl) (by kernel_rfl) (by kernel_rfl) rfl (fun _ _ _ h => h) (by rfl) ?hy288 (by assumption) ?rest288
                     case hy288 => (intro w hSw; (try dsimp only at hSw); go_simp; try with_reducible rfl))
                try simp only [Act.put, List.setIfInBounds_toArray, List.set_cons_zero, List.set_cons_succ]
                refine wpAnyH_done (by kernel_rfl) ?_ _
                clear hHeld
                have BJ : Aside (Below w.heap.size w W.drew) := Below.drew BJ.out
                have OJ : Aside (W.drew.ownsRow w.heap.size 48 4 (.slice (some ⟨g, 0, none⟩) k cap) k (ord.flatMap encPg)) := OJ.out.drew
                generalize W.drew = V at BJ OJ ⊢
                obtain ⟨j, hj⟩ : ∃ j, j = jp + 1 := ⟨_, rfl⟩
                have hjz : ((jp : Int) + 1) = (j : Int) := by omega
                have HREF : Hid (refk kyP ord (kyP x) k = j) := hide (by rw [HREF0.out, hj])
                rw [← hj] at hjk
                simp only [hjz] at *
                clear hj hjz k2 k3 k4 k5 k7 k8 HYY hjl h2 h2' h2'' y1 y2 HREF0 gg HK
                obtain ⟨W, hW⟩ : ∃ W, W = V := ⟨_, rfl⟩
                subst hW
                have HBr := hide BJ.out
                obtain ⟨hbW, cR0, cR1, cR2, cR3⟩ := HXC.out W BJ.out
                have HRO := hide (own_rd' encPg_len OJ.out HON.out)
                have hjN : j ≤ k := by omega
                have N1 : k ≤ 1000000 := by omega
                have kq1 : (j : Int) ≤ (cap : Int) := by omega
                have kq2 : (0 : Int) ≤ (j : Int) := by omega
                have kq3 : (j : Int) ≤ (k : Int) := by omega
                have kq4 : ((j : Int)).toNat = j := by omega
                have kq5 : IntKind.i64.wrap (j : Int) = (j : Int) := IntWalk.i64_in _ (by omega)
                have kq6 : (0 : Int) ≤ (k : Int) := by omega
                clear BJ OJ
                obtain ⟨hi, hz0, hz1, hz2⟩ := HI.out
                go_wp2_with fail
                refine wp_region_held_drew (S := fun w' => w'.cell? ⟨b, off + k * 4, none⟩ = some (.int .i64 x.n) ∧ w'.cell? ⟨b, off + k * 4 + 1, none⟩ = some (.int .i64 x.r) ∧ w'.cell? ⟨b, off + k * 4 + 2, none⟩ = some (.int .i64 x.c) ∧ w'.cell? ⟨b, off + k * 4 + 3, none⟩ = some (.int .i64 x.l) ∧ Below W.heap.size W w') (by kernel_rfl) ⟨((show Below W.heap.size W W.drew from (Below.refl _ _).drew).cell (p := ⟨b, off + k * 4, none⟩) hbW).trans cR0, ((show Below W.heap.size W W.drew from (Below.refl _ _).drew).cell (p := ⟨b, off + k * 4 + 1, none⟩) hbW).trans cR1, ((show Below W.heap.size W W.drew from (Below.refl _ _).drew).cell (p := ⟨b, off + k * 4 + 2, none⟩) hbW).trans cR2, ((show Below W.heap.size W W.drew from (Below.refl _ _).drew).cell (p := ⟨b, off + k * 4 + 3, none⟩) hbW).trans cR3, (show Below W.heap.size W W.drew from (Below.refl _ _).drew)⟩ (fun hHeld => ?_)
                refine heldI_take 1 67 ?vv55 rfl (by kernel_rfl) (by kernel_rfl) (by kernel_rfl) rfl (fun _ _ _ h => h) (by rfl) ?hy55 (by assumption) ?rest55
                case hy55 => (intro w hSw; (try dsimp only at hSw); go_simp; try with_reducible rfl)
                try simp only [Act.put, List.setIfInBounds_toArray, List.set_cons_zero, List.set_cons_succ]
                refine heldI_take 2 68 ?vv56 rfl (by kernel_rfl) (by kernel_rfl) (by kernel_rfl) rfl (fun _ _ _ h => h) (by rfl) ?hy56 (by assumption) ?rest56
                case hy56 => (intro w hSw; (try dsimp only at hSw); go_simp; try with_reducible rfl)
                try simp only [Act.put, List.setIfInBounds_toArray, List.set_cons_zero, List.set_cons_succ]
                refine heldI_take 3 69 (.slice (some ⟨g, 0, none⟩) j cap) rfl (by kernel_rfl) (by kernel_rfl) (by kernel_rfl) rfl (fun _ _ _ h => h) (by rfl) ?hy57 (by assumption) ?rest57
                case hy57 => (intro w hSw; (try dsimp only at hSw); go_simp; first | done | (with_reducible rfl) | (unfold behindJ; by_cases hcc : cap = j <;> simp [hcc]))
                try simp only [Act.put, List.setIfInBounds_toArray, List.set_cons_zero, List.set_cons_succ]
                refine heldI_take 5 71 ?vv58 rfl (by kernel_rfl) (by kernel_rfl) (by kernel_rfl) rfl (fun _ _ _ h => h) (by rfl) ?hy58 (by assumption) ?rest58
                case hy58 => (intro w hSw; (try dsimp only at hSw); go_simp; try with_reducible rfl)
                try simp only [Act.put, List.setIfInBounds_toArray, List.set_cons_zero, List.set_cons_succ]
                refine heldI_take 6 72 ?vv59 rfl (by kernel_rfl) (by kernel_rfl) (by kernel_rfl) rfl (fun _ _ _ h => h) (by rfl) ?hy59 (by assumption) ?rest59
                case hy59 => (intro w hSw; (try dsimp only at hSw); go_simp; try with_reducible rfl)
                try simp only [Act.put, List.setIfInBounds_toArray, List.set_cons_zero, List.set_cons_succ]
                refine heldI_take 7 73 ?vv60 rfl (by kernel_rfl) (by kernel_rfl) (by kernel_rfl) rfl (fun _ _ _ h => h) (by rfl) ?hy60 (by assumption) ?rest60
                case hy60 => (intro w hSw; (try dsimp only at hSw); go_simp; try with_reducible rfl)
                try simp only [Act.put, List.setIfInBounds_toArray, List.set_cons_zero, List.set_cons_succ]
                refine heldI_take 8 74 ?vv61 rfl (by kernel_rfl) (by kernel_rfl) (by kernel_rfl) rfl (fun _ _ _ h => h) (by rfl) ?hy61 (by assumption) ?rest61
                case hy61 => (intro w hSw; (try dsimp only at hSw); go_simp; try with_reducible rfl)
                try simp only [Act.put, List.setIfInBounds_toArray, List.set_cons_zero, List.set_cons_succ]
                refine heldI_take 11 77 ?vv62 rfl (by kernel_rfl) (by kernel_rfl) (by kernel_rfl) rfl (fun _ _ _ h => h) (by rfl) ?hy62 (by assumption) ?rest62
                case hy62 => (intro w hSw; (try dsimp only at hSw); go_simp; try with_reducible rfl)
                try simp only [Act.put, List.setIfInBounds_toArray, List.set_cons_zero, List.set_cons_succ]
                refine heldI_take 12 78 ?vv63 rfl (by kernel_rfl) (by kernel_rfl) (by kernel_rfl) rfl (fun _ _ _ h => h) (by rfl) ?hy63 (by assumption) ?rest63
                case hy63 => (intro w hSw; (try dsimp only at hSw); go_simp; try with_reducible rfl)
                try simp only [Act.put, List.setIfInBounds_toArray, List.set_cons_zero, List.set_cons_succ]
                refine heldI_take 13 79 (.slice (some (behindJ g j cap 4)) (k - j) (cap - j)) rfl (by kernel_rfl) (by kernel_rfl) (by kernel_rfl) rfl (fun _ _ _ h => h) (by rfl) ?hy64 (by assumption) ?rest64
                case hy64 => (intro w hSw; (try dsimp only at hSw); go_simp; first | done | (with_reducible rfl) | (unfold behindJ; by_cases hcc : cap = j <;> simp [hcc]))
                try simp only [Act.put, List.setIfInBounds_toArray, List.set_cons_zero, List.set_cons_succ]
                refine wpAnyH_ready (rs := [0, 9]) (by kernel_rfl) (by simp) ?_
                refine AllReadyH.cons rfl (fun K hK => ?_) (AllReadyH.cons rfl (fun K hK => ?_) AllReadyH.nil)
                · go_simp
                  have own0 : ((World.alloc W (.cells #[] 48)).drew).ownsRow W.heap.size 48 4 (.slice (some ⟨W.heap.size, 0, none⟩) 0 0) 0 [] := World.ownsRow_made W.drew #[] 0 (Nat.le_refl _) (by simp [maxLen]) rfl
                  have q1 : Below W.heap.size W ((World.alloc W (.cells #[] 48)).drew) := (Below.drew (Below.refl W.heap.size W)).alloc (Nat.le_refl _) _
                  have gE : W.heap.size < ((World.alloc W (.cells #[] 48)).drew).heap.size := by simp
                  generalize (World.alloc W (.cells #[] 48)).drew = u1 at own0 q1 gE ⊢
                  refine hK.out _ _ ⟨(q1.cell (p := ⟨b, off + k * 4, none⟩) hbW).trans cR0, (q1.cell (p := ⟨b, off + k * 4 + 1, none⟩) hbW).trans cR1, (q1.cell (p := ⟨b, off + k * 4 + 2, none⟩) hbW).trans cR2, (q1.cell (p := ⟨b, off + k * 4 + 3, none⟩) hbW).trans cR3, q1⟩ (fun hHeld1 => ?_)
                  clear hK K
                  try simp only [Act.put, List.setIfInBounds_toArray, List.set_cons_zero, List.set_cons_succ]
                  refine wpAnyH_ready (rs := [4, 9]) (by kernel_rfl) (by simp) ?_
                  refine AllReadyH.cons rfl (fun K hK => ?_) (AllReadyH.cons rfl (fun K hK => ?_) AllReadyH.nil)
                  · refine step_append_ownJ (by rfl) _ _ _ (by rfl) W.heap.size 48 i0 _ 4 32 Try.underlying26 hi hz0 hz1 hz2 rfl (by omega) _ 0 [] (by rfl) own0 ⟨g, 0, none⟩ j cap ((ord.take j).flatMap encPg) (by rfl) (by rw [flat_len encPg_len, List.length_take, HON.out, Nat.min_eq_left hjN]) (rd_flat encPg_len ((rd_at0 HRO.out q1).takeJ j)) (encJ_one encPg_one _) (by unfold maxLen; omega) (by omega) q1.size ?_
                    intro v3 w3 hown3 hgrow3
                    have q3 : Below W.heap.size W w3 := bl_grown q1 own0 (Nat.le_refl _) hgrow3
                    have ho3 : w3.ownsRow W.heap.size 48 4 v3 j ((ord.take j).flatMap encPg) := by first | exact hown3 | (rw [Nat.zero_add, List.nil_append] at hown3; exact hown3)
                    clear hown3
                    refine hK.out _ _ ⟨(q3.cell (p := ⟨b, off + k * 4, none⟩) hbW).trans cR0, (q3.cell (p := ⟨b, off + k * 4 + 1, none⟩) hbW).trans cR1, (q3.cell (p := ⟨b, off + k * 4 + 2, none⟩) hbW).trans cR2, (q3.cell (p := ⟨b, off + k * 4 + 3, none⟩) hbW).trans cR3, q3⟩ (fun hHeld2 => ?_)
                    clear hK K
                    try simp only [Act.put, List.setIfInBounds_toArray, List.set_cons_zero, List.set_cons_succ]
                    refine wpAnyH_ready (rs := [9]) (by kernel_rfl) (by simp) ?_
                    refine AllReadyH.cons rfl (fun K hK => ?_) AllReadyH.nil
                    go_simp
                    have hX : Blk (World.alloc w3 (.cells #[.int .i64 x.n, .int .i64 x.r, .int .i64 x.c, .int .i64 x.l] 48)) w3.heap.size 48 #[.int .i64 x.n, .int .i64 x.r, .int .i64 x.c, .int .i64 x.l] := Blk.new w3 _ _
                    have q2 : Below W.heap.size W (World.alloc w3 (.cells #[.int .i64 x.n, .int .i64 x.r, .int .i64 x.c, .int .i64 x.l] 48)) := q3.alloc q3.size _
                    have gX : w3.heap.size < (World.alloc w3 (.cells #[.int .i64 x.n, .int .i64 x.r, .int .i64 x.c, .int .i64 x.l] 48)).heap.size := by simp
                    have ho3 := ho3.alloc (.cells #[.int .i64 x.n, .int .i64 x.r, .int .i64 x.c, .int .i64 x.l] 48)
                    generalize World.alloc w3 (.cells #[.int .i64 x.n, .int .i64 x.r, .int .i64 x.c, .int .i64 x.l] 48) = u2 at ho3 hX q2 gX ⊢
                    refine hK.out _ _ ⟨(q2.cell (p := ⟨b, off + k * 4, none⟩) hbW).trans cR0, (q2.cell (p := ⟨b, off + k * 4 + 1, none⟩) hbW).trans cR1, (q2.cell (p := ⟨b, off + k * 4 + 2, none⟩) hbW).trans cR2, (q2.cell (p := ⟨b, off + k * 4 + 3, none⟩) hbW).trans cR3, q2⟩ (fun hHeld3 => ?_)
                    clear hK K
                    try simp only [Act.put, List.setIfInBounds_toArray, List.set_cons_zero, List.set_cons_succ]
                    refine wpAnyH_ready (rs := [10]) (by kernel_rfl) (by simp) ?_
                    refine AllReadyH.cons rfl (fun K hK => ?_) AllReadyH.nil
                    refine step_append_ownJ (by rfl) _ _ _ (by rfl) W.heap.size 48 i0 _ 4 32 Try.underlying26 hi hz0 hz1 hz2 rfl (by omega) _ j _ (by rfl) ho3 ⟨w3.heap.size, 0, none⟩ 1 1 ([.int .i64 x.n, .int .i64 x.r, .int .i64 x.c, .int .i64 x.l]) (by rfl) (by rfl) (World.news_of_block (cs := #[.int .i64 x.n, .int .i64 x.r, .int .i64 x.c, .int .i64 x.l]) (t := 48) (fr := (0, 0)) hX) (by simp [Value.oneCell']) (by unfold maxLen; omega) (by omega) q2.size ?_
                    intro v4 w4 hown4 hgrow4
                    have q4 : Below W.heap.size W w4 := bl_grown q2 ho3 (Nat.le_refl _) hgrow4
                    refine hK.out _ _ ⟨(q4.cell (p := ⟨b, off + k * 4, none⟩) hbW).trans cR0, (q4.cell (p := ⟨b, off + k * 4 + 1, none⟩) hbW).trans cR1, (q4.cell (p := ⟨b, off + k * 4 + 2, none⟩) hbW).trans cR2, (q4.cell (p := ⟨b, off + k * 4 + 3, none⟩) hbW).trans cR3, q4⟩ (fun hHeld4 => ?_)
                    clear hK K
                    try simp only [Act.put, List.setIfInBounds_toArray, List.set_cons_zero, List.set_cons_succ]
                    clear hgrow4
                    refine wpAnyH_ready (rs := [14]) (by kernel_rfl) (by simp) ?_
                    refine AllReadyH.cons rfl (fun K hK => ?_) AllReadyH.nil
                    refine step_append_ownJ (by rfl) _ _ _ (by rfl) W.heap.size 48 i0 _ 4 32 Try.underlying26 hi hz0 hz1 hz2 rfl (by omega) _ (j + 1) _ (by rfl) hown4 (behindJ g j cap 4) (k - j) (cap - j) ((ord.drop j).flatMap encPg) (by rfl) (by rw [flat_len encPg_len, List.length_drop, HON.out]) (rd_flat encPg_len (Rd.behindJ HON.out hNc (rd_at0 HRO.out q4))) (encJ_one encPg_one _) (by unfold maxLen; omega) (by omega) q4.size ?_
                    intro v5 w5 hown5 hgrow5
                    have q5 : Below W.heap.size W w5 := bl_grown q4 hown4 (Nat.le_refl _) hgrow5
                    refine hK.out _ _ ⟨(q5.cell (p := ⟨b, off + k * 4, none⟩) hbW).trans cR0, (q5.cell (p := ⟨b, off + k * 4 + 1, none⟩) hbW).trans cR1, (q5.cell (p := ⟨b, off + k * 4 + 2, none⟩) hbW).trans cR2, (q5.cell (p := ⟨b, off + k * 4 + 3, none⟩) hbW).trans cR3, q5⟩ (fun hHeld5 => ?_)
                    clear hK K
                    try simp only [Act.put, List.setIfInBounds_toArray, List.set_cons_zero, List.set_cons_succ]
                    try simp only [List.getElem_toArray, List.getElem_cons_succ, List.getElem_cons_zero]
                    try simp only [Act.put, List.setIfInBounds_toArray, List.set_cons_zero, List.set_cons_succ]
                    refine heldI_take 15 4 ?vv65 rfl (by kernel_rfl) (by kernel_rfl) (by kernel_rfl) rfl (fun _ _ _ h => h) (by rfl) ?hy65 (by assumption) ?rest65
                    case hy65 => (intro w hSw; (try dsimp only at hSw); go_simp; try with_reducible rfl)
                    try simp only [Act.put, List.setIfInBounds_toArray, List.set_cons_zero, List.set_cons_succ]
                    refine wpAnyH_done (by kernel_rfl) ?_ _
                    have ho5 : w5.ownsRow W.heap.size 48 4 v5 (k + 1) ((rowE ord x [] j).flatMap encPg) := by
                      have e1 : j + 1 + (k - j) = k + 1 := by omega
                      have h9 := hown5
                      rw [e1] at h9
                      have e2 : (rowE ord x [] j).flatMap encPg = (ord.take j).flatMap encPg ++ [.int .i64 x.n, .int .i64 x.r, .int .i64 x.c, .int .i64 x.l] ++ (ord.drop j).flatMap encPg := by unfold rowE; simp [encPg]
                      rw [e2]; exact h9
                    have HO5 := hide ho5
                    have HB5 := hide q5
                    clear ho5 hown5 hgrow5 q5 hown4 q4 ho3
                    try clear q3
                    try clear q2
                    try clear q1
                    try clear own0
                    try clear hX
                    try clear gX
                    try clear gE
                    try clear hgrow3
                    clear hi hz0 hz1 hz2
                    have hlen : (rowE ord x [] j).length = k + 1 := by rw [rowE_len, HON.out]; rfl
                    rcases own_form encPg_len HO5.out hlen with ⟨_, h0, _⟩ | ⟨g', cap', cs, rfl, hg', hB', hs', hnc', hm', ht'⟩
                    · omega
                    have HO6 : Hid (rowE ord x [] j = sortE kyP (zs.take (k + 1))) := hide (by rw [HNX.out, HREF.out])
                    clear hB' hs' ht' hg' hlen
                    go_wp2
                    go_roundg (n - (k + 1))
                    case measure => omega
                    case rel =>
                      refine ⟨k + 1, g', cap', by omega, by omega, by go_num, rfl, hnc', hm', ?_, (HBr.out.trans (HB5.out.mono HBr.out.size) : Below w.heap.size w _)⟩
                      rw [← HO6.out]; exact own_baseH HO5.out HBr.out.size
                  · go_simp
                    have hX : Blk (World.alloc u1 (.cells #[.int .i64 x.n, .int .i64 x.r, .int .i64 x.c, .int .i64 x.l] 48)) u1.heap.size 48 #[.int .i64 x.n, .int .i64 x.r, .int .i64 x.c, .int .i64 x.l] := Blk.new u1 _ _
                    have q2 : Below W.heap.size W (World.alloc u1 (.cells #[.int .i64 x.n, .int .i64 x.r, .int .i64 x.c, .int .i64 x.l] 48)) := q1.alloc q1.size _
                    have gX : u1.heap.size < (World.alloc u1 (.cells #[.int .i64 x.n, .int .i64 x.r, .int .i64 x.c, .int .i64 x.l] 48)).heap.size := by simp
                    have own0 := own0.alloc (.cells #[.int .i64 x.n, .int .i64 x.r, .int .i64 x.c, .int .i64 x.l] 48)
                    generalize World.alloc u1 (.cells #[.int .i64 x.n, .int .i64 x.r, .int .i64 x.c, .int .i64 x.l] 48) = u2 at own0 hX q2 gX ⊢
                    refine hK.out _ _ ⟨(q2.cell (p := ⟨b, off + k * 4, none⟩) hbW).trans cR0, (q2.cell (p := ⟨b, off + k * 4 + 1, none⟩) hbW).trans cR1, (q2.cell (p := ⟨b, off + k * 4 + 2, none⟩) hbW).trans cR2, (q2.cell (p := ⟨b, off + k * 4 + 3, none⟩) hbW).trans cR3, q2⟩ (fun hHeld6 => ?_)
                    clear hK K
                    try simp only [Act.put, List.setIfInBounds_toArray, List.set_cons_zero, List.set_cons_succ]
                    refine wpAnyH_ready (rs := [4]) (by kernel_rfl) (by simp) ?_
                    refine AllReadyH.cons rfl (fun K hK => ?_) AllReadyH.nil
                    refine step_append_ownJ (by rfl) _ _ _ (by rfl) W.heap.size 48 i0 _ 4 32 Try.underlying26 hi hz0 hz1 hz2 rfl (by omega) _ 0 [] (by rfl) own0 ⟨g, 0, none⟩ j cap ((ord.take j).flatMap encPg) (by rfl) (by rw [flat_len encPg_len, List.length_take, HON.out, Nat.min_eq_left hjN]) (rd_flat encPg_len ((rd_at0 HRO.out q2).takeJ j)) (encJ_one encPg_one _) (by unfold maxLen; omega) (by omega) q2.size ?_
                    intro v3 w3 hown3 hgrow3
                    have q3 : Below W.heap.size W w3 := bl_grown q2 own0 (Nat.le_refl _) hgrow3
                    have ho3 : w3.ownsRow W.heap.size 48 4 v3 j ((ord.take j).flatMap encPg) := by first | exact hown3 | (rw [Nat.zero_add, List.nil_append] at hown3; exact hown3)
                    clear hown3
                    have hX := hX.grown hgrow3 (by simp [Value.ownBlock]; omega)
                    refine hK.out _ _ ⟨(q3.cell (p := ⟨b, off + k * 4, none⟩) hbW).trans cR0, (q3.cell (p := ⟨b, off + k * 4 + 1, none⟩) hbW).trans cR1, (q3.cell (p := ⟨b, off + k * 4 + 2, none⟩) hbW).trans cR2, (q3.cell (p := ⟨b, off + k * 4 + 3, none⟩) hbW).trans cR3, q3⟩ (fun hHeld7 => ?_)
                    clear hK K
                    try simp only [Act.put, List.setIfInBounds_toArray, List.set_cons_zero, List.set_cons_succ]
                    refine wpAnyH_ready (rs := [10]) (by kernel_rfl) (by simp) ?_
                    refine AllReadyH.cons rfl (fun K hK => ?_) AllReadyH.nil
                    refine step_append_ownJ (by rfl) _ _ _ (by rfl) W.heap.size 48 i0 _ 4 32 Try.underlying26 hi hz0 hz1 hz2 rfl (by omega) _ j _ (by rfl) ho3 ⟨u1.heap.size, 0, none⟩ 1 1 ([.int .i64 x.n, .int .i64 x.r, .int .i64 x.c, .int .i64 x.l]) (by rfl) (by rfl) (World.news_of_block (cs := #[.int .i64 x.n, .int .i64 x.r, .int .i64 x.c, .int .i64 x.l]) (t := 48) (fr := (0, 0)) hX) (by simp [Value.oneCell']) (by unfold maxLen; omega) (by omega) q3.size ?_
                    intro v4 w4 hown4 hgrow4
                    have q4 : Below W.heap.size W w4 := bl_grown q3 ho3 (Nat.le_refl _) hgrow4
                    refine hK.out _ _ ⟨(q4.cell (p := ⟨b, off + k * 4, none⟩) hbW).trans cR0, (q4.cell (p := ⟨b, off + k * 4 + 1, none⟩) hbW).trans cR1, (q4.cell (p := ⟨b, off + k * 4 + 2, none⟩) hbW).trans cR2, (q4.cell (p := ⟨b, off + k * 4 + 3, none⟩) hbW).trans cR3, q4⟩ (fun hHeld8 => ?_)
                    clear hK K
                    try simp only [Act.put, List.setIfInBounds_toArray, List.set_cons_zero, List.set_cons_succ]
                    clear hgrow4
                    refine wpAnyH_ready (rs := [14]) (by kernel_rfl) (by simp) ?_
                    refine AllReadyH.cons rfl (fun K hK => ?_) AllReadyH.nil
                    refine step_append_ownJ (by rfl) _ _ _ (by rfl) W.heap.size 48 i0 _ 4 32 Try.underlying26 hi hz0 hz1 hz2 rfl (by omega) _ (j + 1) _ (by rfl) hown4 (behindJ g j cap 4) (k - j) (cap - j) ((ord.drop j).flatMap encPg) (by rfl) (by rw [flat_len encPg_len, List.length_drop, HON.out]) (rd_flat encPg_len (Rd.behindJ HON.out hNc (rd_at0 HRO.out q4))) (encJ_one encPg_one _) (by unfold maxLen; omega) (by omega) q4.size ?_
                    intro v5 w5 hown5 hgrow5
                    have q5 : Below W.heap.size W w5 := bl_grown q4 hown4 (Nat.le_refl _) hgrow5
                    refine hK.out _ _ ⟨(q5.cell (p := ⟨b, off + k * 4, none⟩) hbW).trans cR0, (q5.cell (p := ⟨b, off + k * 4 + 1, none⟩) hbW).trans cR1, (q5.cell (p := ⟨b, off + k * 4 + 2, none⟩) hbW).trans cR2, (q5.cell (p := ⟨b, off + k * 4 + 3, none⟩) hbW).trans cR3, q5⟩ (fun hHeld9 => ?_)
                    clear hK K
                    try simp only [Act.put, List.setIfInBounds_toArray, List.set_cons_zero, List.set_cons_succ]
                    try simp only [List.getElem_toArray, List.getElem_cons_succ, List.getElem_cons_zero]
                    try simp only [Act.put, List.setIfInBounds_toArray, List.set_cons_zero, List.set_cons_succ]
                    refine heldI_take 15 4 ?vv66 rfl (by kernel_rfl) (by kernel_rfl) (by kernel_rfl) rfl (fun _ _ _ h => h) (by rfl) ?hy66 (by assumption) ?rest66
                    case hy66 => (intro w hSw; (try dsimp only at hSw); go_simp; try with_reducible rfl)
                    try simp only [Act.put, List.setIfInBounds_toArray, List.set_cons_zero, List.set_cons_succ]
                    refine wpAnyH_done (by kernel_rfl) ?_ _
                    have ho5 : w5.ownsRow W.heap.size 48 4 v5 (k + 1) ((rowE ord x [] j).flatMap encPg) := by
                      have e1 : j + 1 + (k - j) = k + 1 := by omega
                      have h9 := hown5
                      rw [e1] at h9
                      have e2 : (rowE ord x [] j).flatMap encPg = (ord.take j).flatMap encPg ++ [.int .i64 x.n, .int .i64 x.r, .int .i64 x.c, .int .i64 x.l] ++ (ord.drop j).flatMap encPg := by unfold rowE; simp [encPg]
                      rw [e2]; exact h9
                    have HO5 := hide ho5
                    have HB5 := hide q5
                    clear ho5 hown5 hgrow5 q5 hown4 q4 ho3
                    try clear q3
                    try clear q2
                    try clear q1
                    try clear own0
                    try clear hX
                    try clear gX
                    try clear gE
                    try clear hgrow3
                    clear hi hz0 hz1 hz2
                    have hlen : (rowE ord x [] j).length = k + 1 := by rw [rowE_len, HON.out]; rfl
                    rcases own_form encPg_len HO5.out hlen with ⟨_, h0, _⟩ | ⟨g', cap', cs, rfl, hg', hB', hs', hnc', hm', ht'⟩
                    · omega
                    have HO6 : Hid (rowE ord x [] j = sortE kyP (zs.take (k + 1))) := hide (by rw [HNX.out, HREF.out])
                    clear hB' hs' ht' hg' hlen
                    go_wp2
                    go_roundg (n - (k + 1))
                    case measure => omega
                    case rel =>
                      refine ⟨k + 1, g', cap', by omega, by omega, by go_num, rfl, hnc', hm', ?_, (HBr.out.trans (HB5.out.mono HBr.out.size) : Below w.heap.size w _)⟩
                      rw [← HO6.out]; exact own_baseH HO5.out HBr.out.size
                · go_simp
                  have hX : Blk ((World.alloc W (.cells #[.int .i64 x.n, .int .i64 x.r, .int .i64 x.c, .int .i64 x.l] 48)).drew) W.heap.size 48 #[.int .i64 x.n, .int .i64 x.r, .int .i64 x.c, .int .i64 x.l] := Blk.new W.drew _ _
                  have q1 : Below W.heap.size W ((World.alloc W (.cells #[.int .i64 x.n, .int .i64 x.r, .int .i64 x.c, .int .i64 x.l] 48)).drew) := (Below.drew (Below.refl W.heap.size W)).alloc (Nat.le_refl _) _
                  have gX : W.heap.size < ((World.alloc W (.cells #[.int .i64 x.n, .int .i64 x.r, .int .i64 x.c, .int .i64 x.l] 48)).drew).heap.size := by simp
                  generalize (World.alloc W (.cells #[.int .i64 x.n, .int .i64 x.r, .int .i64 x.c, .int .i64 x.l] 48)).drew = u1 at hX q1 gX ⊢
                  refine hK.out _ _ ⟨(q1.cell (p := ⟨b, off + k * 4, none⟩) hbW).trans cR0, (q1.cell (p := ⟨b, off + k * 4 + 1, none⟩) hbW).trans cR1, (q1.cell (p := ⟨b, off + k * 4 + 2, none⟩) hbW).trans cR2, (q1.cell (p := ⟨b, off + k * 4 + 3, none⟩) hbW).trans cR3, q1⟩ (fun hHeld10 => ?_)
                  clear hK K
                  try simp only [Act.put, List.setIfInBounds_toArray, List.set_cons_zero, List.set_cons_succ]
                  refine wpAnyH_ready (rs := [0]) (by kernel_rfl) (by simp) ?_
                  refine AllReadyH.cons rfl (fun K hK => ?_) AllReadyH.nil
                  go_simp
                  have own0 : (World.alloc u1 (.cells #[] 48)).ownsRow W.heap.size 48 4 (.slice (some ⟨u1.heap.size, 0, none⟩) 0 0) 0 [] := World.ownsRow_made u1 #[] 0 q1.size (by simp [maxLen]) rfl
                  have q2 : Below W.heap.size W (World.alloc u1 (.cells #[] 48)) := q1.alloc q1.size _
                  have gE : u1.heap.size < (World.alloc u1 (.cells #[] 48)).heap.size := by simp
                  have hX := hX.alloc (.cells #[] 48)
                  generalize World.alloc u1 (.cells #[] 48) = u2 at own0 hX q2 gE ⊢
                  refine hK.out _ _ ⟨(q2.cell (p := ⟨b, off + k * 4, none⟩) hbW).trans cR0, (q2.cell (p := ⟨b, off + k * 4 + 1, none⟩) hbW).trans cR1, (q2.cell (p := ⟨b, off + k * 4 + 2, none⟩) hbW).trans cR2, (q2.cell (p := ⟨b, off + k * 4 + 3, none⟩) hbW).trans cR3, q2⟩ (fun hHeld11 => ?_)
                  clear hK K
                  try simp only [Act.put, List.setIfInBounds_toArray, List.set_cons_zero, List.set_cons_succ]
                  refine wpAnyH_ready (rs := [4]) (by kernel_rfl) (by simp) ?_
                  refine AllReadyH.cons rfl (fun K hK => ?_) AllReadyH.nil
                  refine step_append_ownJ (by rfl) _ _ _ (by rfl) W.heap.size 48 i0 _ 4 32 Try.underlying26 hi hz0 hz1 hz2 rfl (by omega) _ 0 [] (by rfl) own0 ⟨g, 0, none⟩ j cap ((ord.take j).flatMap encPg) (by rfl) (by rw [flat_len encPg_len, List.length_take, HON.out, Nat.min_eq_left hjN]) (rd_flat encPg_len ((rd_at0 HRO.out q2).takeJ j)) (encJ_one encPg_one _) (by unfold maxLen; omega) (by omega) q2.size ?_
                  intro v3 w3 hown3 hgrow3
                  have q3 : Below W.heap.size W w3 := bl_grown q2 own0 (Nat.le_refl _) hgrow3
                  have ho3 : w3.ownsRow W.heap.size 48 4 v3 j ((ord.take j).flatMap encPg) := by first | exact hown3 | (rw [Nat.zero_add, List.nil_append] at hown3; exact hown3)
                  clear hown3
                  have hX := hX.grown hgrow3 (by simp [Value.ownBlock]; omega)
                  refine hK.out _ _ ⟨(q3.cell (p := ⟨b, off + k * 4, none⟩) hbW).trans cR0, (q3.cell (p := ⟨b, off + k * 4 + 1, none⟩) hbW).trans cR1, (q3.cell (p := ⟨b, off + k * 4 + 2, none⟩) hbW).trans cR2, (q3.cell (p := ⟨b, off + k * 4 + 3, none⟩) hbW).trans cR3, q3⟩ (fun hHeld12 => ?_)
                  clear hK K
                  try simp only [Act.put, List.setIfInBounds_toArray, List.set_cons_zero, List.set_cons_succ]
                  refine wpAnyH_ready (rs := [10]) (by kernel_rfl) (by simp) ?_
                  refine AllReadyH.cons rfl (fun K hK => ?_) AllReadyH.nil
                  refine step_append_ownJ (by rfl) _ _ _ (by rfl) W.heap.size 48 i0 _ 4 32 Try.underlying26 hi hz0 hz1 hz2 rfl (by omega) _ j _ (by rfl) ho3 ⟨W.heap.size, 0, none⟩ 1 1 ([.int .i64 x.n, .int .i64 x.r, .int .i64 x.c, .int .i64 x.l]) (by rfl) (by rfl) (World.news_of_block (cs := #[.int .i64 x.n, .int .i64 x.r, .int .i64 x.c, .int .i64 x.l]) (t := 48) (fr := (0, 0)) hX) (by simp [Value.oneCell']) (by unfold maxLen; omega) (by omega) q3.size ?_
                  intro v4 w4 hown4 hgrow4
                  have q4 : Below W.heap.size W w4 := bl_grown q3 ho3 (Nat.le_refl _) hgrow4
                  refine hK.out _ _ ⟨(q4.cell (p := ⟨b, off + k * 4, none⟩) hbW).trans cR0, (q4.cell (p := ⟨b, off + k * 4 + 1, none⟩) hbW).trans cR1, (q4.cell (p := ⟨b, off + k * 4 + 2, none⟩) hbW).trans cR2, (q4.cell (p := ⟨b, off + k * 4 + 3, none⟩) hbW).trans cR3, q4⟩ (fun hHeld13 => ?_)
                  clear hK K
                  try simp only [Act.put, List.setIfInBounds_toArray, List.set_cons_zero, List.set_cons_succ]
                  clear hgrow4
                  refine wpAnyH_ready (rs := [14]) (by kernel_rfl) (by simp) ?_
                  refine AllReadyH.cons rfl (fun K hK => ?_) AllReadyH.nil
                  refine step_append_ownJ (by rfl) _ _ _ (by rfl) W.heap.size 48 i0 _ 4 32 Try.underlying26 hi hz0 hz1 hz2 rfl (by omega) _ (j + 1) _ (by rfl) hown4 (behindJ g j cap 4) (k - j) (cap - j) ((ord.drop j).flatMap encPg) (by rfl) (by rw [flat_len encPg_len, List.length_drop, HON.out]) (rd_flat encPg_len (Rd.behindJ HON.out hNc (rd_at0 HRO.out q4))) (encJ_one encPg_one _) (by unfold maxLen; omega) (by omega) q4.size ?_
                  intro v5 w5 hown5 hgrow5
                  have q5 : Below W.heap.size W w5 := bl_grown q4 hown4 (Nat.le_refl _) hgrow5
                  refine hK.out _ _ ⟨(q5.cell (p := ⟨b, off + k * 4, none⟩) hbW).trans cR0, (q5.cell (p := ⟨b, off + k * 4 + 1, none⟩) hbW).trans cR1, (q5.cell (p := ⟨b, off + k * 4 + 2, none⟩) hbW).trans cR2, (q5.cell (p := ⟨b, off + k * 4 + 3, none⟩) hbW).trans cR3, q5⟩ (fun hHeld14 => ?_)
                  clear hK K
                  try simp only [Act.put, List.setIfInBounds_toArray, List.set_cons_zero, List.set_cons_succ]
                  try simp only [List.getElem_toArray, List.getElem_cons_succ, List.getElem_cons_zero]
                  try simp only [Act.put, List.setIfInBounds_toArray, List.set_cons_zero, List.set_cons_succ]
                  refine heldI_take 15 4 ?vv67 rfl (by kernel_rfl) (by kernel_rfl) (by kernel_rfl) rfl (fun _ _ _ h => h) (by rfl) ?hy67 (by assumption) ?rest67
                  case hy67 => (intro w hSw; (try dsimp only at hSw); go_simp; try with_reducible rfl)
                  try simp only [Act.put, List.setIfInBounds_toArray, List.set_cons_zero, List.set_cons_succ]
                  refine wpAnyH_done (by kernel_rfl) ?_ _
                  have ho5 : w5.ownsRow W.heap.size 48 4 v5 (k + 1) ((rowE ord x [] j).flatMap encPg) := by
                    have e1 : j + 1 + (k - j) = k + 1 := by omega
                    have h9 := hown5
                    rw [e1] at h9
                    have e2 : (rowE ord x [] j).flatMap encPg = (ord.take j).flatMap encPg ++ [.int .i64 x.n, .int .i64 x.r, .int .i64 x.c, .int .i64 x.l] ++ (ord.drop j).flatMap encPg := by unfold rowE; simp [encPg]
                    rw [e2]; exact h9
                  have HO5 := hide ho5
                  have HB5 := hide q5
                  clear ho5 hown5 hgrow5 q5 hown4 q4 ho3
                  try clear q3
                  try clear q2
                  try clear q1
                  try clear own0
                  try clear hX
                  try clear gX
                  try clear gE
                  try clear hgrow3
                  clear hi hz0 hz1 hz2
                  have hlen : (rowE ord x [] j).length = k + 1 := by rw [rowE_len, HON.out]; rfl
                  rcases own_form encPg_len HO5.out hlen with ⟨_, h0, _⟩ | ⟨g', cap', cs, rfl, hg', hB', hs', hnc', hm', ht'⟩
                  · omega
                  have HO6 : Hid (rowE ord x [] j = sortE kyP (zs.take (k + 1))) := hide (by rw [HNX.out, HREF.out])
                  clear hB' hs' ht' hg' hlen
                  go_wp2
                  go_roundg (n - (k + 1))
                  case measure => omega
                  case rel =>
                    refine ⟨k + 1, g', cap', by omega, by omega, by go_num, rfl, hnc', hm', ?_, (HBr.out.trans (HB5.out.mono HBr.out.size) : Below w.heap.size w _)⟩
                    rw [← HO6.out]; exact own_baseH HO5.out HBr.out.size
      · have hltz : ¬ (k : Int) < (n : Int) := by omega
        obtain rfl : k = n := by omega
        have HOB : Hid (wr.ownsRow w.heap.size 48 4 (.slice (some ⟨g, 0, none⟩) k cap) k ((sortE kyP zs).flatMap encPg)) := hide (by
          have h9 := OW.out
          rw [List.take_of_length_le (by rw [HZ.out]; exact Nat.le_refl _)] at h9; exact h9)
        have HLB : Hid ((sortE kyP zs).length = k) := hide (by rw [sortE_len, HZ.out])
        have HRB := hide (own_rd' encPg_len HOB.out HLB.out)
        have HBr := hide BW.out
        clear OW
        go_wp2_with fail
        refine (l13Numbered_any _ k cap (sortE kyP zs) _ HLB.out (by omega) HRB.out).mono ?_
        rintro e w3 ⟨v, rfl, ho, hb⟩
        have HO3 := hide (own_baseH ho HBr.out.size)
        have HB3 := hide (bl_step HBr.out hb)
        have HL3 : Hid ((numL (sortE kyP zs)).length = k) := hide (by rw [num_len, HLB.out])
        clear ho hb
        go_wp2
        go_ret2
        exact ⟨_, rfl, by rw [HC.out, HL3.out]; exact HO3.out, HB3.out⟩
theorem sOrderedAtlas_any (ao : Option Addr) (n : Nat) (zs : List Pg) (w : World) (hz : zs.length = n) (hn : n ≤ 1048576) (hr : Rd encPg 4 w.heap.size w ao zs) :
    Calls Try.prog 22 #[.slice ao n n] w fun e w' => ∃ v, e = .returned (.tuple #[v, .bool (atlasB zs)]) ∧ w'.ownsRow w.heap.size 48 4 v (oaV zs).length ((oaV zs).flatMap encPg) ∧ Below w.heap.size w w' := sOrderedAtlasC_any ao n n zs (Nat.le_refl n) w hz hn hr

end Go.Proofs.Ytdgalehipgdhiaa
