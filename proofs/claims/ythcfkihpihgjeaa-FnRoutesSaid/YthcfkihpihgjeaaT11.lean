/- PlainRoute: the reference. -/
import Derived.Test.YthcfkihpihgjeaaT9
import Derived.Deep.RegionWith
import Derived.StillTailTactics
import Derived.Deep.AppendLies
namespace Go.Proofs.Ythcfkihpihgjeaa
open Go.RowKit
set_option linter.unusedVariables false
set_option linter.unusedSimpArgs false

theorem heldQ_skip {P : Program} {md : Region.Mode} {ops : Array Oper} {Q : Exit → Act → World → Prop} {S : World → Prop} (i : Nat) (d : Tmp) {oi : Oper} {fuel : Nat} {listed : Array Bool} {a : Act} {w : World} (hi : ops[i]? = some oi)
    (hs : Region.noSelect ops = true) (hf : Region.free md ops listed i = true) (hr : (Region.ready md ops listed).contains i = true) (hd : oi.dst = some d) (hQ : ∀ c a w, Q (.panic c) (a.put (some d) undef) w → Q (.panic c) a w)
    (hw : Region.wanted oi (yielded ops a.tmps) = false) (hS : S w) (h : wpAnyH P md ops Q S fuel (listed.setIfInBounds i true) (a.put (some d) undef) w) : wpAnyH P md ops Q S (fuel + 1) listed a w :=
  wpAnyH_take hi hs hf hr (by rw [hd]; exact hQ) (Or.inr ⟨hw, rfl⟩) hS (by rw [hd]; exact h)
theorem heldQ_take {P : Program} {md : Region.Mode} {ops : Array Oper} {Q : Exit → Act → World → Prop} {S : World → Prop} (i : Nat) (d : Tmp) {oi : Oper} (v : Value) {fuel : Nat} {listed : Array Bool} {a : Act} {w : World} (hi : ops[i]? = some oi)
    (hs : Region.noSelect ops = true) (hf : Region.free md ops listed i = true) (hr : (Region.ready md ops listed).contains i = true) (hd : oi.dst = some d) (hQ : ∀ c a w, Q (.panic c) (a.put (some d) v) w → Q (.panic c) a w)
    (hw : Region.wanted oi (yielded ops a.tmps) = true) (hy : ∀ w, S w → (execOp a.eval oi).run P w = .ok (.value v) w) (hS : S w) (h : wpAnyH P md ops Q S fuel (listed.setIfInBounds i true) (a.put (some d) v) w) : wpAnyH P md ops Q S (fuel + 1) listed a w :=
  wpAnyH_take hi hs hf hr (by rw [hd]; exact hQ) (Or.inl ⟨hw, hy⟩) hS (by rw [hd]; exact h)

set_option maxRecDepth 100000 in
set_option maxHeartbeats 2000000 in
theorem sPlainRoute_any (ao : Option Addr) (n c : Nat) (zs : List Lg) (w : World) (hz : zs.length = n) (hn : n ≤ 1048576) (hr : Rd encLg 3 w.heap.size w ao zs) :
    Calls Try.prog 36 #[.slice ao n c] w fun e w' => ∃ v, e = .returned (.tuple #[v, .bool (okPl zs)]) ∧ w'.ownsRow w.heap.size 65 3 v (plV zs).length ((plV zs).flatMap encLg) ∧ Below w.heap.size w w' := by
  obtain ⟨W, hW⟩ : ∃ W, W = w.alloc (.cells #[] 65) := ⟨_, rfl⟩
  have HBW : Hid (Below w.heap.size w W) := hide (by rw [hW]; exact (Below.refl _ _).alloc (Nat.le_refl _) _)
  have HE : Hid (W.ownsRow w.heap.size 65 3 (.slice (some ⟨w.heap.size, 0, none⟩) 0 0) 0 []) := hide (by rw [hW]; exact World.ownsRow_made w #[] 0 (Nat.le_refl _) (by simp [maxLen]) rfl)
  have HW := hide hW
  clear hW
  have HZ := hide hz
  have HR := hide hr
  have HA := hide (l15Good_any ao n c zs W hz hn (rd_step hr HBW.out))
  have HN : Hid (okPl zs = false → plV zs = []) := hide (fun h => by unfold plV; rw [h]; rfl)
  have hinf := infoLg
  obtain ⟨i0, hi, hz0, hz1, hz2⟩ := info_parts hinf
  clear hinf
  have HI := hide (And.intro hi (And.intro hz0 (And.intro hz1 hz2)))
  clear hi hz0 hz1 hz2
  clear hz hr
  cases h1 : routeB zs with
  | false =>
    have HO : Hid (okPl zs = false) := hide (by simp [okPl, h1])
    have HC := hide (HN.out HO.out)
    go_enter Try.func36, Try.ntmps36
    go_wp2_with fail
    rw [← HW.out]
    refine HA.out.mono ?_
    rintro e w1 ⟨rfl, hb⟩
    rw [h1]
    have HB := hide (bl_step HBW.out hb)
    have HOW := hide (own_step HE.out hb)
    clear hb
    go_wp2
    go_ret2
    exact ⟨_, ret_vb HO.out.symm, by rw [HC.out]; exact HOW.out, HB.out⟩
  | true =>
    have HH1 := hide h1
    have h12 := route_12 h1
    rw [HZ.out] at h12
    clear h1
    go_enter Try.func36, Try.ntmps36
    go_wp2_with fail
    rw [← HW.out]
    refine HA.out.mono ?_
    rintro e w1 ⟨rfl, hb⟩
    rw [HH1.out]
    have HB := hide (bl_step HBW.out hb)
    have HOW := hide (own_step HE.out hb)
    clear hb HA
    go_wp2
    go_loopg [4, 5] n (fun gk v i wr => ∃ k : Nat, k ≤ n ∧ n - k ≤ gk ∧ i = .int .i64 k ∧ Aside (wr.ownsRow w.heap.size 65 3 v (plL (zs.take k)).length ((plL (zs.take k)).flatMap encLg)) ∧ Aside (Below w.heap.size w wr))
    case atStart => exact ⟨0, Nat.zero_le _, by omega, rfl, HOW.out, HB.out⟩
    case round =>
      obtain ⟨k, hk, hg, rfl, OW, BW⟩ := hrel
      by_cases hlt : k < n
      · have hltz : (k : Int) < (n : Int) := by omega
        obtain ⟨b', off, rfl, hb1, hat⟩ := rdLg HR.out (by rw [HZ.out]; omega)
        obtain ⟨x, hx, hxc⟩ := hat k (by rw [HZ.out]; exact hlt)
        have HX := hide hx
        obtain ⟨hbr, c0, c1, c2⟩ := hxc wr BW.out
        clear hx hxc hat
        have hpl := pl_len zs k
        generalize hl : (plL (zs.take k)).length = L at OW hpl
        have HL := hide hl
        obtain ⟨ao2, cap, rfl, hnc, hcm, hrd⟩ := own_rd encLg_len OW.out hl
        have HRD := hide hrd
        clear hl hrd
        obtain ⟨v, hv⟩ : ∃ v, v = Value.slice ao2 L cap := ⟨_, rfl⟩
        have OW : Hid (wr.ownsRow w.heap.size 65 3 v L ((plL (zs.take k)).flatMap encLg)) := hide (by rw [hv]; exact OW.out)
        obtain ⟨W, hW⟩ : ∃ W, W = wr.alloc (.cells #[.int .i64 x.w, .int .i64 x.u, .int .i64 x.c] 65) := ⟨_, rfl⟩
        have h1 : Below wr.heap.size wr W := by rw [hW]; exact (Below.refl _ _).alloc (Nat.le_refl _) _
        have HBW : Hid (Below w.heap.size w W) := hide (bl_step BW.out h1)
        have HOW : Hid (W.ownsRow w.heap.size 65 3 v L ((plL (zs.take k)).flatMap encLg)) := hide (own_step OW.out h1)
        have g0 : wr.heap.size < W.heap.size := by rw [hW]; simp
        obtain ⟨X0, hX0⟩ : ∃ X0, X0 = wr.heap.size := ⟨_, rfl⟩
        have e0 : W.cell? ⟨wr.heap.size, 0, none⟩ = some (.int .i64 x.w) := by rw [hW]; simp
        have e1 : W.cell? ⟨wr.heap.size, 1, none⟩ = some (.int .i64 x.u) := by rw [hW]; simp
        have e2 : W.cell? ⟨wr.heap.size, 2, none⟩ = some (.int .i64 x.c) := by rw [hW]; simp
        rw [← hX0] at g0 e0 e1 e2
        have hX : X0 < W.heap.size := g0
        have HW := hide hW
        have HX0 := hide hX0
        clear h1 hW hX0
        have hsw := BW.out.size
        have hsW := HBW.out.size
        rw [hv] at HOW
        clear hv OW
        obtain ⟨hi, hz0, hz1, hz2⟩ := HI.out
        rcases Nat.eq_zero_or_pos L with hL0 | hLp
        · have HPS := hide (plS_nil (by rw [HL.out, hL0]) x)
          have k1 : IntKind.i64.wrap ((L : Int) - 1) = -1 := by rw [hL0]; rfl
          have k2 : decide (0 < L) = false := by simp [hL0]
          clear hL0
          go_wp2_with fail
          rw [← HX0.out, ← HW.out]
          refine wp_region_held_drew (S := fun w' => w'.cell? ⟨X0, 0, none⟩ = some (.int .i64 x.w) ∧ Below W.heap.size W w') (by kernel_rfl) ⟨e0, (Below.refl _ _).drew⟩ (fun hHeld => ?_)
          first
            | (refine heldQ_skip 0 25 rfl (by kernel_rfl) (by kernel_rfl) (by kernel_rfl) rfl (fun _ _ _ h => h) (by rfl) (by assumption) ?_)
            | (refine heldQ_take 0 25 ?vv105 rfl (by kernel_rfl) (by kernel_rfl) (by kernel_rfl) rfl (fun _ _ _ h => h) (by rfl) ?hy105 (by assumption) ?rest105
               case hy105 => (intro w hSw; (try dsimp only at hSw); go_simp; try with_reducible rfl))
          try simp only [Act.put, List.setIfInBounds_toArray, List.set_cons_zero, List.set_cons_succ]
          first
            | (refine heldQ_skip 1 26 rfl (by kernel_rfl) (by kernel_rfl) (by kernel_rfl) rfl (fun _ _ _ h => h) (by rfl) (by assumption) ?_)
            | (refine heldQ_take 1 26 ?vv106 rfl (by kernel_rfl) (by kernel_rfl) (by kernel_rfl) rfl (fun _ _ _ h => h) (by rfl) ?hy106 (by assumption) ?rest106
               case hy106 => (intro w hSw; (try dsimp only at hSw); go_simp; try with_reducible rfl))
          try simp only [Act.put, List.setIfInBounds_toArray, List.set_cons_zero, List.set_cons_succ]
          first
            | (refine heldQ_skip 2 27 rfl (by kernel_rfl) (by kernel_rfl) (by kernel_rfl) rfl (fun _ _ _ h => h) (by rfl) (by assumption) ?_)
            | (refine heldQ_take 2 27 ?vv107 rfl (by kernel_rfl) (by kernel_rfl) (by kernel_rfl) rfl (fun _ _ _ h => h) (by rfl) ?hy107 (by assumption) ?rest107
               case hy107 => (intro w hSw; (try dsimp only at hSw); go_simp; try with_reducible rfl))
          try simp only [Act.put, List.setIfInBounds_toArray, List.set_cons_zero, List.set_cons_succ]
          first
            | (refine heldQ_skip 3 28 rfl (by kernel_rfl) (by kernel_rfl) (by kernel_rfl) rfl (fun _ _ _ h => h) (by rfl) (by assumption) ?_)
            | (refine heldQ_take 3 28 ?vv108 rfl (by kernel_rfl) (by kernel_rfl) (by kernel_rfl) rfl (fun _ _ _ h => h) (by rfl) ?hy108 (by assumption) ?rest108
               case hy108 => (intro w hSw; (try dsimp only at hSw); go_simp; try with_reducible rfl))
          try simp only [Act.put, List.setIfInBounds_toArray, List.set_cons_zero, List.set_cons_succ]
          first
            | (refine heldQ_skip 4 29 rfl (by kernel_rfl) (by kernel_rfl) (by kernel_rfl) rfl (fun _ _ _ h => h) (by rfl) (by assumption) ?_)
            | (refine heldQ_take 4 29 ?vv109 rfl (by kernel_rfl) (by kernel_rfl) (by kernel_rfl) rfl (fun _ _ _ h => h) (by rfl) ?hy109 (by assumption) ?rest109
               case hy109 => (intro w hSw; (try dsimp only at hSw); go_simp; try with_reducible rfl))
          try simp only [Act.put, List.setIfInBounds_toArray, List.set_cons_zero, List.set_cons_succ]
          first
            | (refine heldQ_skip 5 30 rfl (by kernel_rfl) (by kernel_rfl) (by kernel_rfl) rfl (fun _ _ _ h => h) (by rfl) (by assumption) ?_)
            | (refine heldQ_take 5 30 ?vv110 rfl (by kernel_rfl) (by kernel_rfl) (by kernel_rfl) rfl (fun _ _ _ h => h) (by rfl) ?hy110 (by assumption) ?rest110
               case hy110 => (intro w hSw; (try dsimp only at hSw); go_simp; try with_reducible rfl))
          try simp only [Act.put, List.setIfInBounds_toArray, List.set_cons_zero, List.set_cons_succ]
          first
            | (refine heldQ_skip 6 31 rfl (by kernel_rfl) (by kernel_rfl) (by kernel_rfl) rfl (fun _ _ _ h => h) (by rfl) (by assumption) ?_)
            | (refine heldQ_take 6 31 ?vv111 rfl (by kernel_rfl) (by kernel_rfl) (by kernel_rfl) rfl (fun _ _ _ h => h) (by rfl) ?hy111 (by assumption) ?rest111
               case hy111 => (intro w hSw; (try dsimp only at hSw); go_simp; try with_reducible rfl))
          try simp only [Act.put, List.setIfInBounds_toArray, List.set_cons_zero, List.set_cons_succ]
          first
            | (refine heldQ_skip 7 32 rfl (by kernel_rfl) (by kernel_rfl) (by kernel_rfl) rfl (fun _ _ _ h => h) (by rfl) (by assumption) ?_)
            | (refine heldQ_take 7 32 ?vv112 rfl (by kernel_rfl) (by kernel_rfl) (by kernel_rfl) rfl (fun _ _ _ h => h) (by rfl) ?hy112 (by assumption) ?rest112
               case hy112 => (intro w hSw; (try dsimp only at hSw); go_simp; try with_reducible rfl))
          try simp only [Act.put, List.setIfInBounds_toArray, List.set_cons_zero, List.set_cons_succ]
          first
            | (refine heldQ_skip 8 33 rfl (by kernel_rfl) (by kernel_rfl) (by kernel_rfl) rfl (fun _ _ _ h => h) (by rfl) (by assumption) ?_)
            | (refine heldQ_take 8 33 ?vv113 rfl (by kernel_rfl) (by kernel_rfl) (by kernel_rfl) rfl (fun _ _ _ h => h) (by rfl) ?hy113 (by assumption) ?rest113
               case hy113 => (intro w hSw; (try dsimp only at hSw); go_simp; try with_reducible rfl))
          try simp only [Act.put, List.setIfInBounds_toArray, List.set_cons_zero, List.set_cons_succ]
          first
            | (refine heldQ_skip 9 34 rfl (by kernel_rfl) (by kernel_rfl) (by kernel_rfl) rfl (fun _ _ _ h => h) (by rfl) (by assumption) ?_)
            | (refine heldQ_take 9 34 ?vv114 rfl (by kernel_rfl) (by kernel_rfl) (by kernel_rfl) rfl (fun _ _ _ h => h) (by rfl) ?hy114 (by assumption) ?rest114
               case hy114 => (intro w hSw; (try dsimp only at hSw); go_simp; try with_reducible rfl))
          try simp only [Act.put, List.setIfInBounds_toArray, List.set_cons_zero, List.set_cons_succ]
          first
            | (refine heldQ_skip 10 35 rfl (by kernel_rfl) (by kernel_rfl) (by kernel_rfl) rfl (fun _ _ _ h => h) (by rfl) (by assumption) ?_)
            | (refine heldQ_take 10 35 ?vv115 rfl (by kernel_rfl) (by kernel_rfl) (by kernel_rfl) rfl (fun _ _ _ h => h) (by rfl) ?hy115 (by assumption) ?rest115
               case hy115 => (intro w hSw; (try dsimp only at hSw); go_simp; try with_reducible rfl))
          try simp only [Act.put, List.setIfInBounds_toArray, List.set_cons_zero, List.set_cons_succ]
          first
            | (refine heldQ_skip 11 36 rfl (by kernel_rfl) (by kernel_rfl) (by kernel_rfl) rfl (fun _ _ _ h => h) (by rfl) (by assumption) ?_)
            | (refine heldQ_take 11 36 ?vv116 rfl (by kernel_rfl) (by kernel_rfl) (by kernel_rfl) rfl (fun _ _ _ h => h) (by rfl) ?hy116 (by assumption) ?rest116
               case hy116 => (intro w hSw; (try dsimp only at hSw); go_simp; try with_reducible rfl))
          try simp only [Act.put, List.setIfInBounds_toArray, List.set_cons_zero, List.set_cons_succ]
          first
            | (refine heldQ_skip 12 37 rfl (by kernel_rfl) (by kernel_rfl) (by kernel_rfl) rfl (fun _ _ _ h => h) (by rfl) (by assumption) ?_)
            | (refine heldQ_take 12 37 ?vv117 rfl (by kernel_rfl) (by kernel_rfl) (by kernel_rfl) rfl (fun _ _ _ h => h) (by rfl) ?hy117 (by assumption) ?rest117
               case hy117 => (intro w hSw; (try dsimp only at hSw); go_simp; try with_reducible rfl))
          try simp only [Act.put, List.setIfInBounds_toArray, List.set_cons_zero, List.set_cons_succ]
          refine wpAnyH_done (by kernel_rfl) ?_ _
          clear hHeld
          go_wp2_with (at_builtin; refine wpList_append_own _ rfl _ _ 22 rfl w.heap.size 65 i0 (.agg #[.int .i64 0, .int .i64 0, .int .i64 0]) 3 24 Try.underlying22 hi hz0 hz1 hz2 rfl (by decide) _ L _ rfl ((HOW.out.alloc _).drew) ⟨W.heap.size, 0, none⟩ 1 1 [.int .i64 x.w, .int .i64 x.u, .int .i64 x.c] rfl rfl ?c1 ?c2 ?c3 ?c4 ?c5 ?_)
          case c1 => exact World.news_of_block (cs := #[.int .i64 x.w, .int .i64 x.u, .int .i64 x.c]) (t := 65) (fr := (0, 0)) (heap_alloc_new W _)
          case c2 => intro u hu; simp at hu; rcases hu with rfl | rfl | rfl <;> rfl
          case c3 => unfold maxLen; omega
          case c4 => omega
          case c5 => simp; omega
          intro v' w3 hown' hgrow _
          have HB3 := hide (bl_grown (Below.drew (HBW.out.alloc HBW.out.size _)) ((HOW.out.alloc _).drew) (Nat.le_refl _) hgrow)
          have HO3 : Hid (w3.ownsRow w.heap.size 65 3 v' (plL (zs.take (k + 1))).length ((plL (zs.take (k + 1))).flatMap encLg)) := hide (by rw [pl_succ HX.out, HPS.out, List.length_append, HL.out, flat_snoc]; exact hown')
          clear hown' hgrow hi hz0 hz1 hz2
          go_wp2
          go_roundg (n - (k + 1))
          case measure => omega
          case rel => exact ⟨k + 1, by omega, by omega, by go_num, HO3.out, HB3.out⟩
        · obtain ⟨i, hi1⟩ : ∃ i, L = i + 1 := ⟨L - 1, by omega⟩
          rcases own_form encLg_len HOW.out HL.out with ⟨_, hn0, _⟩ | ⟨g, cap2, cs, hv2, hg, hBk, hcs, hnc2, hcm2, ht⟩
          · omega
          injection hv2 with hv3 hv4 hv5
          subst hv3 hv5
          have hiL : i < (plL (zs.take k)).length := by rw [HL.out]; omega
          have hiL2 : i < L := by omega
          obtain ⟨b2, off2, he, hb2, hat⟩ := rdLg HRD.out (by rw [HL.out]; omega)
          cases he
          obtain ⟨y, hy, hyc⟩ := hat i hiL
          obtain ⟨hgw, d0, d1, d2⟩ := hyc wr (Below.refl _ _)
          simp only [Nat.zero_add] at d0 d1 d2
          have hbb : Below wr.heap.size wr W := by rw [HW.out]; exact (Below.refl _ _).alloc (Nat.le_refl _) _
          have d0 := (hbb.cell (p := ⟨g, _, none⟩) hgw).trans d0
          have d1 := (hbb.cell (p := ⟨g, _, none⟩) hgw).trans d1
          have d2 := (hbb.cell (p := ⟨g, _, none⟩) hgw).trans d2
          have hgW : g < W.heap.size := hBk.lt
          have hne : X0 ≠ g := by rw [HX0.out]; omega
          have HYI := hide hy
          have HG := hide hg
          have HBK := hide hBk
          have HCS := hide hcs
          have HT := hide ht
          have f0 : W.frozen? ⟨g, i * 3, none⟩ = false := hBk.frozen _
          have f1 : W.frozen? ⟨g, i * 3 + 1, none⟩ = false := hBk.frozen _
          have f2 : W.frozen? ⟨g, i * 3 + 2, none⟩ = false := hBk.frozen _
          clear hy hyc hat hg hBk hcs ht hbb hv4
          have k1 : IntKind.i64.wrap ((L : Int) - 1) = (i : Int) := by rw [show (L : Int) - 1 = (i : Int) by omega]; exact IntWalk.i64_in _ (by omega)
          have k2 : decide (0 < L) = true := by simp [hLp]
          have k3 : (0 : Int) < (L : Int) := by omega
          have k4 : (i : Int) < (L : Int) := by omega
          have k5 : (0 : Int) ≤ (i : Int) := by omega
          have HI1 := hide hi1
          clear hi1
          cases hq : (y.w == x.w) with
          | false =>
            have HPS := hide (plS_no (by rw [HL.out]; exact HI1.out) HYI.out hq)
            have q1 : decide (y.w = x.w) = false := by simpa using hq
            clear f0 f1 f2 d1 d2
            go_wp2_with fail
            rw [← HX0.out, ← HW.out]
            refine wp_region_held_drew (S := fun w' => w'.cell? ⟨X0, 0, none⟩ = some (.int .i64 x.w) ∧ w'.cell? ⟨g, i * 3, none⟩ = some (.int .i64 y.w) ∧ Below W.heap.size W w') (by kernel_rfl) ⟨e0, d0, (Below.refl _ _).drew⟩ (fun hHeld => ?_)
            first
              | (refine heldQ_skip 0 25 rfl (by kernel_rfl) (by kernel_rfl) (by kernel_rfl) rfl (fun _ _ _ h => h) (by rfl) (by assumption) ?_)
              | (refine heldQ_take 0 25 ?vv118 rfl (by kernel_rfl) (by kernel_rfl) (by kernel_rfl) rfl (fun _ _ _ h => h) (by rfl) ?hy118 (by assumption) ?rest118
                 case hy118 => (intro w hSw; (try dsimp only at hSw); go_simp; try with_reducible rfl))
            try simp only [Act.put, List.setIfInBounds_toArray, List.set_cons_zero, List.set_cons_succ]
            first
              | (refine heldQ_skip 1 26 rfl (by kernel_rfl) (by kernel_rfl) (by kernel_rfl) rfl (fun _ _ _ h => h) (by rfl) (by assumption) ?_)
              | (refine heldQ_take 1 26 ?vv119 rfl (by kernel_rfl) (by kernel_rfl) (by kernel_rfl) rfl (fun _ _ _ h => h) (by rfl) ?hy119 (by assumption) ?rest119
                 case hy119 => (intro w hSw; (try dsimp only at hSw); go_simp; try with_reducible rfl))
            try simp only [Act.put, List.setIfInBounds_toArray, List.set_cons_zero, List.set_cons_succ]
            first
              | (refine heldQ_skip 2 27 rfl (by kernel_rfl) (by kernel_rfl) (by kernel_rfl) rfl (fun _ _ _ h => h) (by rfl) (by assumption) ?_)
              | (refine heldQ_take 2 27 ?vv120 rfl (by kernel_rfl) (by kernel_rfl) (by kernel_rfl) rfl (fun _ _ _ h => h) (by rfl) ?hy120 (by assumption) ?rest120
                 case hy120 => (intro w hSw; (try dsimp only at hSw); go_simp; try with_reducible rfl))
            try simp only [Act.put, List.setIfInBounds_toArray, List.set_cons_zero, List.set_cons_succ]
            first
              | (refine heldQ_skip 3 28 rfl (by kernel_rfl) (by kernel_rfl) (by kernel_rfl) rfl (fun _ _ _ h => h) (by rfl) (by assumption) ?_)
              | (refine heldQ_take 3 28 ?vv121 rfl (by kernel_rfl) (by kernel_rfl) (by kernel_rfl) rfl (fun _ _ _ h => h) (by rfl) ?hy121 (by assumption) ?rest121
                 case hy121 => (intro w hSw; (try dsimp only at hSw); go_simp; try with_reducible rfl))
            try simp only [Act.put, List.setIfInBounds_toArray, List.set_cons_zero, List.set_cons_succ]
            first
              | (refine heldQ_skip 4 29 rfl (by kernel_rfl) (by kernel_rfl) (by kernel_rfl) rfl (fun _ _ _ h => h) (by rfl) (by assumption) ?_)
              | (refine heldQ_take 4 29 ?vv122 rfl (by kernel_rfl) (by kernel_rfl) (by kernel_rfl) rfl (fun _ _ _ h => h) (by rfl) ?hy122 (by assumption) ?rest122
                 case hy122 => (intro w hSw; (try dsimp only at hSw); go_simp; try with_reducible rfl))
            try simp only [Act.put, List.setIfInBounds_toArray, List.set_cons_zero, List.set_cons_succ]
            first
              | (refine heldQ_skip 5 30 rfl (by kernel_rfl) (by kernel_rfl) (by kernel_rfl) rfl (fun _ _ _ h => h) (by rfl) (by assumption) ?_)
              | (refine heldQ_take 5 30 ?vv123 rfl (by kernel_rfl) (by kernel_rfl) (by kernel_rfl) rfl (fun _ _ _ h => h) (by rfl) ?hy123 (by assumption) ?rest123
                 case hy123 => (intro w hSw; (try dsimp only at hSw); go_simp; try with_reducible rfl))
            try simp only [Act.put, List.setIfInBounds_toArray, List.set_cons_zero, List.set_cons_succ]
            first
              | (refine heldQ_skip 6 31 rfl (by kernel_rfl) (by kernel_rfl) (by kernel_rfl) rfl (fun _ _ _ h => h) (by rfl) (by assumption) ?_)
              | (refine heldQ_take 6 31 ?vv124 rfl (by kernel_rfl) (by kernel_rfl) (by kernel_rfl) rfl (fun _ _ _ h => h) (by rfl) ?hy124 (by assumption) ?rest124
                 case hy124 => (intro w hSw; (try dsimp only at hSw); go_simp; try with_reducible rfl))
            try simp only [Act.put, List.setIfInBounds_toArray, List.set_cons_zero, List.set_cons_succ]
            first
              | (refine heldQ_skip 7 32 rfl (by kernel_rfl) (by kernel_rfl) (by kernel_rfl) rfl (fun _ _ _ h => h) (by rfl) (by assumption) ?_)
              | (refine heldQ_take 7 32 ?vv125 rfl (by kernel_rfl) (by kernel_rfl) (by kernel_rfl) rfl (fun _ _ _ h => h) (by rfl) ?hy125 (by assumption) ?rest125
                 case hy125 => (intro w hSw; (try dsimp only at hSw); go_simp; try with_reducible rfl))
            try simp only [Act.put, List.setIfInBounds_toArray, List.set_cons_zero, List.set_cons_succ]
            first
              | (refine heldQ_skip 8 33 rfl (by kernel_rfl) (by kernel_rfl) (by kernel_rfl) rfl (fun _ _ _ h => h) (by rfl) (by assumption) ?_)
              | (refine heldQ_take 8 33 ?vv126 rfl (by kernel_rfl) (by kernel_rfl) (by kernel_rfl) rfl (fun _ _ _ h => h) (by rfl) ?hy126 (by assumption) ?rest126
                 case hy126 => (intro w hSw; (try dsimp only at hSw); go_simp; try with_reducible rfl))
            try simp only [Act.put, List.setIfInBounds_toArray, List.set_cons_zero, List.set_cons_succ]
            first
              | (refine heldQ_skip 9 34 rfl (by kernel_rfl) (by kernel_rfl) (by kernel_rfl) rfl (fun _ _ _ h => h) (by rfl) (by assumption) ?_)
              | (refine heldQ_take 9 34 ?vv127 rfl (by kernel_rfl) (by kernel_rfl) (by kernel_rfl) rfl (fun _ _ _ h => h) (by rfl) ?hy127 (by assumption) ?rest127
                 case hy127 => (intro w hSw; (try dsimp only at hSw); go_simp; try with_reducible rfl))
            try simp only [Act.put, List.setIfInBounds_toArray, List.set_cons_zero, List.set_cons_succ]
            first
              | (refine heldQ_skip 10 35 rfl (by kernel_rfl) (by kernel_rfl) (by kernel_rfl) rfl (fun _ _ _ h => h) (by rfl) (by assumption) ?_)
              | (refine heldQ_take 10 35 ?vv128 rfl (by kernel_rfl) (by kernel_rfl) (by kernel_rfl) rfl (fun _ _ _ h => h) (by rfl) ?hy128 (by assumption) ?rest128
                 case hy128 => (intro w hSw; (try dsimp only at hSw); go_simp; try with_reducible rfl))
            try simp only [Act.put, List.setIfInBounds_toArray, List.set_cons_zero, List.set_cons_succ]
            first
              | (refine heldQ_skip 11 36 rfl (by kernel_rfl) (by kernel_rfl) (by kernel_rfl) rfl (fun _ _ _ h => h) (by rfl) (by assumption) ?_)
              | (refine heldQ_take 11 36 ?vv129 rfl (by kernel_rfl) (by kernel_rfl) (by kernel_rfl) rfl (fun _ _ _ h => h) (by rfl) ?hy129 (by assumption) ?rest129
                 case hy129 => (intro w hSw; (try dsimp only at hSw); go_simp; try with_reducible rfl))
            try simp only [Act.put, List.setIfInBounds_toArray, List.set_cons_zero, List.set_cons_succ]
            first
              | (refine heldQ_skip 12 37 rfl (by kernel_rfl) (by kernel_rfl) (by kernel_rfl) rfl (fun _ _ _ h => h) (by rfl) (by assumption) ?_)
              | (refine heldQ_take 12 37 ?vv130 rfl (by kernel_rfl) (by kernel_rfl) (by kernel_rfl) rfl (fun _ _ _ h => h) (by rfl) ?hy130 (by assumption) ?rest130
                 case hy130 => (intro w hSw; (try dsimp only at hSw); go_simp; try with_reducible rfl))
            try simp only [Act.put, List.setIfInBounds_toArray, List.set_cons_zero, List.set_cons_succ]
            refine wpAnyH_done (by kernel_rfl) ?_ _
            clear hHeld
            go_wp2_with (at_builtin; refine wpList_append_own _ rfl _ _ 22 rfl w.heap.size 65 i0 (.agg #[.int .i64 0, .int .i64 0, .int .i64 0]) 3 24 Try.underlying22 hi hz0 hz1 hz2 rfl (by decide) _ L _ rfl ((HOW.out.alloc _).drew) ⟨W.heap.size, 0, none⟩ 1 1 [.int .i64 x.w, .int .i64 x.u, .int .i64 x.c] rfl rfl ?c1 ?c2 ?c3 ?c4 ?c5 ?_)
            case c1 => exact World.news_of_block (cs := #[.int .i64 x.w, .int .i64 x.u, .int .i64 x.c]) (t := 65) (fr := (0, 0)) (heap_alloc_new W _)
            case c2 => intro u hu; simp at hu; rcases hu with rfl | rfl | rfl <;> rfl
            case c3 => unfold maxLen; omega
            case c4 => omega
            case c5 => simp; omega
            intro v' w3 hown' hgrow _
            have HB3 := hide (bl_grown (Below.drew (HBW.out.alloc HBW.out.size _)) ((HOW.out.alloc _).drew) (Nat.le_refl _) hgrow)
            have HO3 : Hid (w3.ownsRow w.heap.size 65 3 v' (plL (zs.take (k + 1))).length ((plL (zs.take (k + 1))).flatMap encLg)) := hide (by rw [pl_succ HX.out, HPS.out, List.length_append, HL.out, flat_snoc]; exact hown')
            clear hown' hgrow hi hz0 hz1 hz2
            go_wp2
            go_roundg (n - (k + 1))
            case measure => omega
            case rel => exact ⟨k + 1, by omega, by omega, by go_num, HO3.out, HB3.out⟩
          | true =>
            have HPS := hide (plS_yes (by rw [HL.out]; exact HI1.out) HYI.out hq)
            have HEW : Hid (y.w = x.w) := hide (by simpa using hq)
            have q1 : decide (y.w = x.w) = true := by simpa using hq
            go_wp2_with fail
            rw [← HX0.out, ← HW.out]
            refine wp_region_held_drew (S := fun w' => w'.cell? ⟨X0, 0, none⟩ = some (.int .i64 x.w) ∧ w'.cell? ⟨g, i * 3, none⟩ = some (.int .i64 y.w) ∧ Below W.heap.size W w') (by kernel_rfl) ⟨e0, d0, (Below.refl _ _).drew⟩ (fun hHeld => ?_)
            first
              | (refine heldQ_skip 0 25 rfl (by kernel_rfl) (by kernel_rfl) (by kernel_rfl) rfl (fun _ _ _ h => h) (by rfl) (by assumption) ?_)
              | (refine heldQ_take 0 25 ?vv131 rfl (by kernel_rfl) (by kernel_rfl) (by kernel_rfl) rfl (fun _ _ _ h => h) (by rfl) ?hy131 (by assumption) ?rest131
                 case hy131 => (intro w hSw; (try dsimp only at hSw); go_simp; try with_reducible rfl))
            try simp only [Act.put, List.setIfInBounds_toArray, List.set_cons_zero, List.set_cons_succ]
            first
              | (refine heldQ_skip 1 26 rfl (by kernel_rfl) (by kernel_rfl) (by kernel_rfl) rfl (fun _ _ _ h => h) (by rfl) (by assumption) ?_)
              | (refine heldQ_take 1 26 ?vv132 rfl (by kernel_rfl) (by kernel_rfl) (by kernel_rfl) rfl (fun _ _ _ h => h) (by rfl) ?hy132 (by assumption) ?rest132
                 case hy132 => (intro w hSw; (try dsimp only at hSw); go_simp; try with_reducible rfl))
            try simp only [Act.put, List.setIfInBounds_toArray, List.set_cons_zero, List.set_cons_succ]
            first
              | (refine heldQ_skip 2 27 rfl (by kernel_rfl) (by kernel_rfl) (by kernel_rfl) rfl (fun _ _ _ h => h) (by rfl) (by assumption) ?_)
              | (refine heldQ_take 2 27 ?vv133 rfl (by kernel_rfl) (by kernel_rfl) (by kernel_rfl) rfl (fun _ _ _ h => h) (by rfl) ?hy133 (by assumption) ?rest133
                 case hy133 => (intro w hSw; (try dsimp only at hSw); go_simp; try with_reducible rfl))
            try simp only [Act.put, List.setIfInBounds_toArray, List.set_cons_zero, List.set_cons_succ]
            first
              | (refine heldQ_skip 3 28 rfl (by kernel_rfl) (by kernel_rfl) (by kernel_rfl) rfl (fun _ _ _ h => h) (by rfl) (by assumption) ?_)
              | (refine heldQ_take 3 28 ?vv134 rfl (by kernel_rfl) (by kernel_rfl) (by kernel_rfl) rfl (fun _ _ _ h => h) (by rfl) ?hy134 (by assumption) ?rest134
                 case hy134 => (intro w hSw; (try dsimp only at hSw); go_simp; try with_reducible rfl))
            try simp only [Act.put, List.setIfInBounds_toArray, List.set_cons_zero, List.set_cons_succ]
            first
              | (refine heldQ_skip 4 29 rfl (by kernel_rfl) (by kernel_rfl) (by kernel_rfl) rfl (fun _ _ _ h => h) (by rfl) (by assumption) ?_)
              | (refine heldQ_take 4 29 ?vv135 rfl (by kernel_rfl) (by kernel_rfl) (by kernel_rfl) rfl (fun _ _ _ h => h) (by rfl) ?hy135 (by assumption) ?rest135
                 case hy135 => (intro w hSw; (try dsimp only at hSw); go_simp; try with_reducible rfl))
            try simp only [Act.put, List.setIfInBounds_toArray, List.set_cons_zero, List.set_cons_succ]
            first
              | (refine heldQ_skip 5 30 rfl (by kernel_rfl) (by kernel_rfl) (by kernel_rfl) rfl (fun _ _ _ h => h) (by rfl) (by assumption) ?_)
              | (refine heldQ_take 5 30 ?vv136 rfl (by kernel_rfl) (by kernel_rfl) (by kernel_rfl) rfl (fun _ _ _ h => h) (by rfl) ?hy136 (by assumption) ?rest136
                 case hy136 => (intro w hSw; (try dsimp only at hSw); go_simp; try with_reducible rfl))
            try simp only [Act.put, List.setIfInBounds_toArray, List.set_cons_zero, List.set_cons_succ]
            first
              | (refine heldQ_skip 6 31 rfl (by kernel_rfl) (by kernel_rfl) (by kernel_rfl) rfl (fun _ _ _ h => h) (by rfl) (by assumption) ?_)
              | (refine heldQ_take 6 31 ?vv137 rfl (by kernel_rfl) (by kernel_rfl) (by kernel_rfl) rfl (fun _ _ _ h => h) (by rfl) ?hy137 (by assumption) ?rest137
                 case hy137 => (intro w hSw; (try dsimp only at hSw); go_simp; try with_reducible rfl))
            try simp only [Act.put, List.setIfInBounds_toArray, List.set_cons_zero, List.set_cons_succ]
            first
              | (refine heldQ_skip 7 32 rfl (by kernel_rfl) (by kernel_rfl) (by kernel_rfl) rfl (fun _ _ _ h => h) (by rfl) (by assumption) ?_)
              | (refine heldQ_take 7 32 ?vv138 rfl (by kernel_rfl) (by kernel_rfl) (by kernel_rfl) rfl (fun _ _ _ h => h) (by rfl) ?hy138 (by assumption) ?rest138
                 case hy138 => (intro w hSw; (try dsimp only at hSw); go_simp; try with_reducible rfl))
            try simp only [Act.put, List.setIfInBounds_toArray, List.set_cons_zero, List.set_cons_succ]
            first
              | (refine heldQ_skip 8 33 rfl (by kernel_rfl) (by kernel_rfl) (by kernel_rfl) rfl (fun _ _ _ h => h) (by rfl) (by assumption) ?_)
              | (refine heldQ_take 8 33 ?vv139 rfl (by kernel_rfl) (by kernel_rfl) (by kernel_rfl) rfl (fun _ _ _ h => h) (by rfl) ?hy139 (by assumption) ?rest139
                 case hy139 => (intro w hSw; (try dsimp only at hSw); go_simp; try with_reducible rfl))
            try simp only [Act.put, List.setIfInBounds_toArray, List.set_cons_zero, List.set_cons_succ]
            first
              | (refine heldQ_skip 9 34 rfl (by kernel_rfl) (by kernel_rfl) (by kernel_rfl) rfl (fun _ _ _ h => h) (by rfl) (by assumption) ?_)
              | (refine heldQ_take 9 34 ?vv140 rfl (by kernel_rfl) (by kernel_rfl) (by kernel_rfl) rfl (fun _ _ _ h => h) (by rfl) ?hy140 (by assumption) ?rest140
                 case hy140 => (intro w hSw; (try dsimp only at hSw); go_simp; try with_reducible rfl))
            try simp only [Act.put, List.setIfInBounds_toArray, List.set_cons_zero, List.set_cons_succ]
            first
              | (refine heldQ_skip 10 35 rfl (by kernel_rfl) (by kernel_rfl) (by kernel_rfl) rfl (fun _ _ _ h => h) (by rfl) (by assumption) ?_)
              | (refine heldQ_take 10 35 ?vv141 rfl (by kernel_rfl) (by kernel_rfl) (by kernel_rfl) rfl (fun _ _ _ h => h) (by rfl) ?hy141 (by assumption) ?rest141
                 case hy141 => (intro w hSw; (try dsimp only at hSw); go_simp; try with_reducible rfl))
            try simp only [Act.put, List.setIfInBounds_toArray, List.set_cons_zero, List.set_cons_succ]
            first
              | (refine heldQ_skip 11 36 rfl (by kernel_rfl) (by kernel_rfl) (by kernel_rfl) rfl (fun _ _ _ h => h) (by rfl) (by assumption) ?_)
              | (refine heldQ_take 11 36 ?vv142 rfl (by kernel_rfl) (by kernel_rfl) (by kernel_rfl) rfl (fun _ _ _ h => h) (by rfl) ?hy142 (by assumption) ?rest142
                 case hy142 => (intro w hSw; (try dsimp only at hSw); go_simp; try with_reducible rfl))
            try simp only [Act.put, List.setIfInBounds_toArray, List.set_cons_zero, List.set_cons_succ]
            first
              | (refine heldQ_skip 12 37 rfl (by kernel_rfl) (by kernel_rfl) (by kernel_rfl) rfl (fun _ _ _ h => h) (by rfl) (by assumption) ?_)
              | (refine heldQ_take 12 37 ?vv143 rfl (by kernel_rfl) (by kernel_rfl) (by kernel_rfl) rfl (fun _ _ _ h => h) (by rfl) ?hy143 (by assumption) ?rest143
                 case hy143 => (intro w hSw; (try dsimp only at hSw); go_simp; try with_reducible rfl))
            try simp only [Act.put, List.setIfInBounds_toArray, List.set_cons_zero, List.set_cons_succ]
            refine wpAnyH_done (by kernel_rfl) ?_ _
            clear hHeld hi hz0 hz1 hz2
            go_wp2_with fail
            obtain ⟨W1, hW1⟩ : ∃ W1, W1 = W.drew := ⟨_, rfl⟩
            have d1 : W1.cell? ⟨g, i * 3 + 1, none⟩ = some (.int .i64 y.u) := by rw [hW1]; exact d1
            have d2 : W1.cell? ⟨g, i * 3 + 2, none⟩ = some (.int .i64 y.c) := by rw [hW1]; exact d2
            have d0 : W1.cell? ⟨g, i * 3, none⟩ = some (.int .i64 y.w) := by rw [hW1]; exact d0
            have e0 : W1.cell? ⟨X0, 0, none⟩ = some (.int .i64 x.w) := by rw [hW1]; exact e0
            have e1 : W1.cell? ⟨X0, 1, none⟩ = some (.int .i64 x.u) := by rw [hW1]; exact e1
            have e2 : W1.cell? ⟨X0, 2, none⟩ = some (.int .i64 x.c) := by rw [hW1]; exact e2
            have f0 : W1.frozen? ⟨g, i * 3, none⟩ = false := by rw [hW1]; exact f0
            have f1 : W1.frozen? ⟨g, i * 3 + 1, none⟩ = false := by rw [hW1]; exact f1
            have f2 : W1.frozen? ⟨g, i * 3 + 2, none⟩ = false := by rw [hW1]; exact f2
            have HBW1 : Hid (Below w.heap.size w W1) := hide (by rw [hW1]; exact HBW.out.drew)
            have HBK1 : Hid (Blk W1 g 65 cs) := hide (by rw [hW1]; exact HBK.out.drew)
            rw [← hW1]
            clear hW1
            go_still_tail 25, (by kernel_rfl)
            change wpList _ _ _ _ _ W1.drew
            go_wp2_with fail
            have HO3 : Hid (((((W1.setCell ⟨g, i * 3, none⟩ (.int .i64 x.w)).setCell ⟨g, i * 3 + 1, none⟩ (.int .i64 (wrap64 (y.u + x.u)))).setCell ⟨g, i * 3 + 2, none⟩ (.int .i64 (wrap64 (y.c + x.c)))).drew).ownsRow w.heap.size 65 3 (.slice (some ⟨g, 0, none⟩) L cap) (plL (zs.take (k + 1))).length ((plL (zs.take (k + 1))).flatMap encLg)) := hide (by
              rw [pl_succ HX.out, HPS.out, List.length_set, HL.out]
              have hb : Blk ((((W1.setCell ⟨g, i * 3, none⟩ (.int .i64 x.w)).setCell ⟨g, i * 3 + 1, none⟩ (.int .i64 (wrap64 (y.u + x.u)))).setCell ⟨g, i * 3 + 2, none⟩ (.int .i64 (wrap64 (y.c + x.c)))).drew) g 65 (setL cs (i * 3) (encLg (mrg y x))) := (((HBK1.out.set_ _ _).set_ _ _).set_ _ _).drew
              have t2 := flat_setk encLg_len (plL (zs.take k)) i (mrg y x) (by rw [HL.out]; exact hiL2) cs (by rw [flat_len encLg_len, HL.out, HCS.out]; exact Nat.mul_le_mul_right _ hnc) (by rw [HL.out]; exact HT.out)
              rw [HL.out] at t2
              exact World.ownsRow_of_blk hb HG.out (by rw [setL_size]; exact HCS.out) hnc hcm (by rw [flat_len encLg_len, List.length_set, HL.out]) t2)
            have HB3 := hide (Below.drew (((HBW1.out.setCell HG.out (p := ⟨g, i * 3, none⟩) (.int .i64 x.w)).setCell HG.out (p := ⟨g, i * 3 + 1, none⟩) (.int .i64 (wrap64 (y.u + x.u)))).setCell HG.out (p := ⟨g, i * 3 + 2, none⟩) (.int .i64 (wrap64 (y.c + x.c)))))
            go_roundg (n - (k + 1))
            case measure => omega
            case rel => exact ⟨k + 1, by omega, by omega, by go_num, HO3.out, HB3.out⟩
      · have hltz : ¬ (k : Int) < (n : Int) := by omega
        obtain rfl : k = n := by omega
        have HT : Hid (plL (zs.take k) = plL zs) := hide (by rw [List.take_of_length_le (by rw [HZ.out]; exact Nat.le_refl _)])
        have hpl := pl_len zs k
        rw [HT.out] at OW hpl
        have HOK : Hid (okPl zs = routeB (plL zs)) := hide (by unfold okPl; rw [HH1.out, Bool.true_and])
        generalize hl : (plL zs).length = L at OW hpl
        have HL := hide hl
        obtain ⟨ao2, c2, rfl, hc1, hc2, hrd⟩ := own_rd encLg_len OW.out hl
        have HRD := hide hrd
        clear hrd hc1 hc2 hl
        go_wp2_with fail
        refine (l15Good_any ao2 L c2 (plL zs) _ HL.out (by omega) HRD.out).mono ?_
        rintro e w4 ⟨rfl, hbb⟩
        have HB4 := hide (bl_step BW.out hbb)
        have HO4 := hide (own_step OW.out hbb)
        clear hbb
        rw [← HOK.out]
        cases hq : okPl zs with
        | false =>
          have HC := hide (HN.out hq)
          go_wp2
          go_ret2
          exact ⟨_, ret_vb hq.symm, by rw [HC.out]; exact World.ownsRow_made _ #[] 0 HB4.out.size (by simp [maxLen]) rfl, HB4.out.alloc HB4.out.size _⟩
        | true =>
          have HC : Hid (plV zs = plL zs) := hide (by unfold plV; rw [hq]; rfl)
          go_wp2
          go_ret2
          exact ⟨_, ret_vb hq.symm, by rw [HC.out, HL.out]; exact HO4.out, HB4.out⟩

end Go.Proofs.Ythcfkihpihgjeaa
