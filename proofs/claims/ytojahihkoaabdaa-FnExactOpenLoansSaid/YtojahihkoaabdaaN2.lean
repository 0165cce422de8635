/- AreLoans: the program. -/
import Derived.Test.YtojahihkoaabdaaN1
import Derived.Deep.RegionWith
namespace Go.Proofs.Ytojahihkoaabdaa
open Go.RowKit
set_option linter.unusedVariables false
set_option linter.unusedSimpArgs false

theorem held_skip {P : Program} {md : Region.Mode} {ops : Array Oper} {Q : Exit → Act → World → Prop} {S : World → Prop} (i : Nat) (d : Tmp) {oi : Oper} {fuel : Nat} {listed : Array Bool} {a : Act} {w : World} (hi : ops[i]? = some oi)
    (hs : Region.noSelect ops = true) (hf : Region.free md ops listed i = true) (hr : (Region.ready md ops listed).contains i = true) (hd : oi.dst = some d) (hQ : ∀ c a w, Q (.panic c) (a.put (some d) undef) w → Q (.panic c) a w)
    (hw : Region.wanted oi (yielded ops a.tmps) = false) (hS : S w) (h : wpAnyH P md ops Q S fuel (listed.setIfInBounds i true) (a.put (some d) undef) w) : wpAnyH P md ops Q S (fuel + 1) listed a w :=
  wpAnyH_take hi hs hf hr (by rw [hd]; exact hQ) (Or.inr ⟨hw, rfl⟩) hS (by rw [hd]; exact h)
theorem held_take {P : Program} {md : Region.Mode} {ops : Array Oper} {Q : Exit → Act → World → Prop} {S : World → Prop} (i : Nat) (d : Tmp) {oi : Oper} (v : Value) {fuel : Nat} {listed : Array Bool} {a : Act} {w : World} (hi : ops[i]? = some oi)
    (hs : Region.noSelect ops = true) (hf : Region.free md ops listed i = true) (hr : (Region.ready md ops listed).contains i = true) (hd : oi.dst = some d) (hQ : ∀ c a w, Q (.panic c) (a.put (some d) v) w → Q (.panic c) a w)
    (hw : Region.wanted oi (yielded ops a.tmps) = true) (hy : ∀ w, S w → (execOp a.eval oi).run P w = .ok (.value v) w) (hS : S w) (h : wpAnyH P md ops Q S fuel (listed.setIfInBounds i true) (a.put (some d) v) w) : wpAnyH P md ops Q S (fuel + 1) listed a w :=
  wpAnyH_take hi hs hf hr (by rw [hd]; exact hQ) (Or.inl ⟨hw, hy⟩) hS (by rw [hd]; exact h)

set_option maxRecDepth 100000 in
set_option maxHeartbeats 8000000 in
theorem AreLoans_any (ao : Option Addr) (n c : Nat) (zs : List Ln) (hcap : n ≤ c) (w : World) (hz : zs.length = n) (hn : n ≤ 1048576) (hr : Rd encLn 5 w.heap.size w ao zs) :
    Calls Try.prog 18 #[.slice ao n c] w fun e w' => e = .returned (.bool (loansB zs)) ∧ Below w.heap.size w w' := by
  have HZ := hide hz
  have HR := hide hr
  clear hz hr
  go_enter Try.func18, Try.ntmps18
  go_wp2
  go_loopg [9] n (fun gk i wr => ∃ k : Nat, k ≤ n ∧ n - k ≤ gk ∧ i = .int .i64 k ∧ Aside (Below w.heap.size w wr) ∧ Aside (∀ j, j < k → stepLn zs j = true))
  case atStart => exact ⟨0, Nat.zero_le _, by omega, rfl, Below.refl _ _, fun j hj => absurd hj (Nat.not_lt_zero _)⟩
  case round =>
    obtain ⟨k, hk, hg, rfl, BW, A⟩ := hrel
    by_cases hlt : k < n
    · have hlti : (k : Int) < (n : Int) := by omega
      have hkc : (k : Int) ≤ (c : Int) := by omega
      have hkc2 : k ≤ c := by omega
      obtain ⟨b, off, rfl, hb1, hat⟩ := rdLn HR.out (by rw [HZ.out]; omega)
      obtain ⟨x, hx, hxc⟩ := hat k (by rw [HZ.out]; exact hlt)
      have HX := hide (getB hx)
      obtain ⟨hbr, c0, c1, c2, c3, c4⟩ := hxc wr BW.out
      have HAT := hide hat
      clear hx hxc hat
      go_wp2_with fail
      obtain ⟨W, hW⟩ : ∃ W, W = wr.alloc (.cells #[.int .i64 x.s, .int .i64 x.r, .int .i64 x.o, .int .i64 x.d, .int .i64 x.b] 39) := ⟨_, rfl⟩
      have HBW : Hid (Below w.heap.size w W) := hide (by rw [hW]; exact BW.out.alloc BW.out.size _)
      have g0 : wr.heap.size < W.heap.size := by rw [hW]; simp
      obtain ⟨X0, hX0⟩ : ∃ X0, X0 = wr.heap.size := ⟨_, rfl⟩
      have e0 : W.cell? ⟨wr.heap.size, 0, none⟩ = some (.int .i64 x.s) := by rw [hW]; simp
      have e1 : W.cell? ⟨wr.heap.size, 1, none⟩ = some (.int .i64 x.r) := by rw [hW]; simp
      have e2 : W.cell? ⟨wr.heap.size, 2, none⟩ = some (.int .i64 x.o) := by rw [hW]; simp
      have e3 : W.cell? ⟨wr.heap.size, 3, none⟩ = some (.int .i64 x.d) := by rw [hW]; simp
      have e4 : W.cell? ⟨wr.heap.size, 4, none⟩ = some (.int .i64 x.b) := by rw [hW]; simp
      rw [← hW]
      clear hW
      rw [← hX0] at g0 e0 e1 e2 e3 e4 ⊢
      clear hX0
      clear c0 c1 c2 c3 c4 hbr
      cases hq : okLn x with
      | false =>
        have HQ := hide hq
        have HF := hide (loans_false HZ.out hlt (stepLn_bad0 HX.out hq))
        clear hq
        refine wp_region_held_drew (S := fun w' => w'.cell? ⟨X0, 0, none⟩ = some (.int .i64 x.s) ∧ w'.cell? ⟨X0, 1, none⟩ = some (.int .i64 x.r) ∧ w'.cell? ⟨X0, 2, none⟩ = some (.int .i64 x.o) ∧ w'.cell? ⟨X0, 3, none⟩ = some (.int .i64 x.d) ∧ w'.cell? ⟨X0, 4, none⟩ = some (.int .i64 x.b) ∧ Below W.heap.size W w') (by kernel_rfl) ⟨e0, e1, e2, e3, e4, (Below.refl _ _).drew⟩ (fun hHeld => ?_)
        first
          | (refine held_skip 0 14 rfl (by kernel_rfl) (by kernel_rfl) (by kernel_rfl) rfl (fun _ _ _ h => h) (by rfl) (by assumption) ?_)
          | (refine held_take 0 14 ?vv69 rfl (by kernel_rfl) (by kernel_rfl) (by kernel_rfl) rfl (fun _ _ _ h => h) (by rfl) ?hy69 (by assumption) ?rest69
             case hy69 => (intro w hSw; (try dsimp only at hSw); go_simp; try with_reducible rfl))
        try simp only [Act.put, List.setIfInBounds_toArray, List.set_cons_zero, List.set_cons_succ]
        refine wpAnyH_ready (rs := [1]) (by kernel_rfl) (by simp) ?_
        refine AllReadyH.cons rfl (fun K hK => ?_) AllReadyH.nil
        go_simp
        refine (isLoan_any x _).mono ?_
        rintro e w2 ⟨rfl, hb⟩
        rw [HQ.out]
        go_wp2_with fail
        have hq := Below.trans hHeld.2.2.2.2.2 (Below.mono hb hHeld.2.2.2.2.2.size)
        refine hK.out _ _ ⟨(hq.cell (p := ⟨X0, 0, none⟩) g0).trans e0, (hq.cell (p := ⟨X0, 1, none⟩) g0).trans e1, (hq.cell (p := ⟨X0, 2, none⟩) g0).trans e2, (hq.cell (p := ⟨X0, 3, none⟩) g0).trans e3, (hq.cell (p := ⟨X0, 4, none⟩) g0).trans e4, hq⟩ (fun hHeld => ?_)
        clear hq hb hK K
        try simp only [Act.put, List.setIfInBounds_toArray, List.set_cons_zero, List.set_cons_succ]
        first
          | (refine held_skip 2 16 rfl (by kernel_rfl) (by kernel_rfl) (by kernel_rfl) rfl (fun _ _ _ h => h) (by rfl) (by assumption) ?_)
          | (refine held_take 2 16 ?vv70 rfl (by kernel_rfl) (by kernel_rfl) (by kernel_rfl) rfl (fun _ _ _ h => h) (by rfl) ?hy70 (by assumption) ?rest70
             case hy70 => (intro w hSw; (try dsimp only at hSw); go_simp; try with_reducible rfl))
        try simp only [Act.put, List.setIfInBounds_toArray, List.set_cons_zero, List.set_cons_succ]
        first
          | (refine held_skip 3 17 rfl (by kernel_rfl) (by kernel_rfl) (by kernel_rfl) rfl (fun _ _ _ h => h) (by rfl) (by assumption) ?_)
          | (refine held_take 3 17 ?vv71 rfl (by kernel_rfl) (by kernel_rfl) (by kernel_rfl) rfl (fun _ _ _ h => h) (by rfl) ?hy71 (by assumption) ?rest71
             case hy71 => (intro w hSw; (try dsimp only at hSw); go_simp; try with_reducible rfl))
        try simp only [Act.put, List.setIfInBounds_toArray, List.set_cons_zero, List.set_cons_succ]
        first
          | (refine held_skip 4 18 rfl (by kernel_rfl) (by kernel_rfl) (by kernel_rfl) rfl (fun _ _ _ h => h) (by rfl) (by assumption) ?_)
          | (refine held_take 4 18 ?vv72 rfl (by kernel_rfl) (by kernel_rfl) (by kernel_rfl) rfl (fun _ _ _ h => h) (by rfl) ?hy72 (by assumption) ?rest72
             case hy72 => (intro w hSw; (try dsimp only at hSw); go_simp; try with_reducible rfl))
        try simp only [Act.put, List.setIfInBounds_toArray, List.set_cons_zero, List.set_cons_succ]
        first
          | (refine held_skip 5 19 rfl (by kernel_rfl) (by kernel_rfl) (by kernel_rfl) rfl (fun _ _ _ h => h) (by rfl) (by assumption) ?_)
          | (refine held_take 5 19 ?vv73 rfl (by kernel_rfl) (by kernel_rfl) (by kernel_rfl) rfl (fun _ _ _ h => h) (by rfl) ?hy73 (by assumption) ?rest73
             case hy73 => (intro w hSw; (try dsimp only at hSw); go_simp; try with_reducible rfl))
        try simp only [Act.put, List.setIfInBounds_toArray, List.set_cons_zero, List.set_cons_succ]
        first
          | (refine held_skip 6 20 rfl (by kernel_rfl) (by kernel_rfl) (by kernel_rfl) rfl (fun _ _ _ h => h) (by rfl) (by assumption) ?_)
          | (refine held_take 6 20 ?vv74 rfl (by kernel_rfl) (by kernel_rfl) (by kernel_rfl) rfl (fun _ _ _ h => h) (by rfl) ?hy74 (by assumption) ?rest74
             case hy74 => (intro w hSw; (try dsimp only at hSw); go_simp; try with_reducible rfl))
        try simp only [Act.put, List.setIfInBounds_toArray, List.set_cons_zero, List.set_cons_succ]
        first
          | (refine held_skip 7 21 rfl (by kernel_rfl) (by kernel_rfl) (by kernel_rfl) rfl (fun _ _ _ h => h) (by rfl) (by assumption) ?_)
          | (refine held_take 7 21 ?vv75 rfl (by kernel_rfl) (by kernel_rfl) (by kernel_rfl) rfl (fun _ _ _ h => h) (by rfl) ?hy75 (by assumption) ?rest75
             case hy75 => (intro w hSw; (try dsimp only at hSw); go_simp; try with_reducible rfl))
        try simp only [Act.put, List.setIfInBounds_toArray, List.set_cons_zero, List.set_cons_succ]
        first
          | (refine held_skip 8 22 rfl (by kernel_rfl) (by kernel_rfl) (by kernel_rfl) rfl (fun _ _ _ h => h) (by rfl) (by assumption) ?_)
          | (refine held_take 8 22 ?vv76 rfl (by kernel_rfl) (by kernel_rfl) (by kernel_rfl) rfl (fun _ _ _ h => h) (by rfl) ?hy76 (by assumption) ?rest76
             case hy76 => (intro w hSw; (try dsimp only at hSw); go_simp; try with_reducible rfl))
        try simp only [Act.put, List.setIfInBounds_toArray, List.set_cons_zero, List.set_cons_succ]
        first
          | (refine held_skip 9 23 rfl (by kernel_rfl) (by kernel_rfl) (by kernel_rfl) rfl (fun _ _ _ h => h) (by rfl) (by assumption) ?_)
          | (refine held_take 9 23 ?vv77 rfl (by kernel_rfl) (by kernel_rfl) (by kernel_rfl) rfl (fun _ _ _ h => h) (by rfl) ?hy77 (by assumption) ?rest77
             case hy77 => (intro w hSw; (try dsimp only at hSw); go_simp; try with_reducible rfl))
        try simp only [Act.put, List.setIfInBounds_toArray, List.set_cons_zero, List.set_cons_succ]
        first
          | (refine held_skip 10 24 rfl (by kernel_rfl) (by kernel_rfl) (by kernel_rfl) rfl (fun _ _ _ h => h) (by rfl) (by assumption) ?_)
          | (refine held_take 10 24 ?vv78 rfl (by kernel_rfl) (by kernel_rfl) (by kernel_rfl) rfl (fun _ _ _ h => h) (by rfl) ?hy78 (by assumption) ?rest78
             case hy78 => (intro w hSw; (try dsimp only at hSw); go_simp; try with_reducible rfl))
        try simp only [Act.put, List.setIfInBounds_toArray, List.set_cons_zero, List.set_cons_succ]
        first
          | (refine held_skip 11 25 rfl (by kernel_rfl) (by kernel_rfl) (by kernel_rfl) rfl (fun _ _ _ h => h) (by rfl) (by assumption) ?_)
          | (refine held_take 11 25 ?vv79 rfl (by kernel_rfl) (by kernel_rfl) (by kernel_rfl) rfl (fun _ _ _ h => h) (by rfl) ?hy79 (by assumption) ?rest79
             case hy79 => (intro w hSw; (try dsimp only at hSw); go_simp; try with_reducible rfl))
        try simp only [Act.put, List.setIfInBounds_toArray, List.set_cons_zero, List.set_cons_succ]
        first
          | (refine held_skip 12 26 rfl (by kernel_rfl) (by kernel_rfl) (by kernel_rfl) rfl (fun _ _ _ h => h) (by rfl) (by assumption) ?_)
          | (refine held_take 12 26 ?vv80 rfl (by kernel_rfl) (by kernel_rfl) (by kernel_rfl) rfl (fun _ _ _ h => h) (by rfl) ?hy80 (by assumption) ?rest80
             case hy80 => (intro w hSw; (try dsimp only at hSw); go_simp; try with_reducible rfl))
        try simp only [Act.put, List.setIfInBounds_toArray, List.set_cons_zero, List.set_cons_succ]
        first
          | (refine held_skip 13 27 rfl (by kernel_rfl) (by kernel_rfl) (by kernel_rfl) rfl (fun _ _ _ h => h) (by rfl) (by assumption) ?_)
          | (refine held_take 13 27 ?vv81 rfl (by kernel_rfl) (by kernel_rfl) (by kernel_rfl) rfl (fun _ _ _ h => h) (by rfl) ?hy81 (by assumption) ?rest81
             case hy81 => (intro w hSw; (try dsimp only at hSw); go_simp; try with_reducible rfl))
        try simp only [Act.put, List.setIfInBounds_toArray, List.set_cons_zero, List.set_cons_succ]
        first
          | (refine held_skip 14 28 rfl (by kernel_rfl) (by kernel_rfl) (by kernel_rfl) rfl (fun _ _ _ h => h) (by rfl) (by assumption) ?_)
          | (refine held_take 14 28 ?vv82 rfl (by kernel_rfl) (by kernel_rfl) (by kernel_rfl) rfl (fun _ _ _ h => h) (by rfl) ?hy82 (by assumption) ?rest82
             case hy82 => (intro w hSw; (try dsimp only at hSw); go_simp; try with_reducible rfl))
        try simp only [Act.put, List.setIfInBounds_toArray, List.set_cons_zero, List.set_cons_succ]
        first
          | (refine held_skip 15 29 rfl (by kernel_rfl) (by kernel_rfl) (by kernel_rfl) rfl (fun _ _ _ h => h) (by rfl) (by assumption) ?_)
          | (refine held_take 15 29 ?vv83 rfl (by kernel_rfl) (by kernel_rfl) (by kernel_rfl) rfl (fun _ _ _ h => h) (by rfl) ?hy83 (by assumption) ?rest83
             case hy83 => (intro w hSw; (try dsimp only at hSw); go_simp; try with_reducible rfl))
        try simp only [Act.put, List.setIfInBounds_toArray, List.set_cons_zero, List.set_cons_succ]
        first
          | (refine held_skip 16 30 rfl (by kernel_rfl) (by kernel_rfl) (by kernel_rfl) rfl (fun _ _ _ h => h) (by rfl) (by assumption) ?_)
          | (refine held_take 16 30 ?vv84 rfl (by kernel_rfl) (by kernel_rfl) (by kernel_rfl) rfl (fun _ _ _ h => h) (by rfl) ?hy84 (by assumption) ?rest84
             case hy84 => (intro w hSw; (try dsimp only at hSw); go_simp; try with_reducible rfl))
        try simp only [Act.put, List.setIfInBounds_toArray, List.set_cons_zero, List.set_cons_succ]
        first
          | (refine held_skip 17 31 rfl (by kernel_rfl) (by kernel_rfl) (by kernel_rfl) rfl (fun _ _ _ h => h) (by rfl) (by assumption) ?_)
          | (refine held_take 17 31 ?vv85 rfl (by kernel_rfl) (by kernel_rfl) (by kernel_rfl) rfl (fun _ _ _ h => h) (by rfl) ?hy85 (by assumption) ?rest85
             case hy85 => (intro w hSw; (try dsimp only at hSw); go_simp; try with_reducible rfl))
        try simp only [Act.put, List.setIfInBounds_toArray, List.set_cons_zero, List.set_cons_succ]
        refine wpAnyH_done (by kernel_rfl) ?_ _
        have HB2 := hide hHeld.2.2.2.2.2
        clear hHeld
        go_wp2
        go_ret
        exact ⟨ret_bool HF.out.symm, HBW.out.trans (Below.mono HB2.out HBW.out.size)⟩
      | true =>
        have HQ := hide hq
        clear hq
        by_cases hk0 : k = 0
        · have k1 : decide (0 < k) = false := by simp [hk0]
          have HK := hide hk0
          obtain ⟨y, HY⟩ : ∃ y, Hid (zs[k - 1]! = y) := ⟨_, hide rfl⟩
          clear hk0
          refine wp_region_held_drew (S := fun w' => w'.cell? ⟨X0, 0, none⟩ = some (.int .i64 x.s) ∧ w'.cell? ⟨X0, 1, none⟩ = some (.int .i64 x.r) ∧ w'.cell? ⟨X0, 2, none⟩ = some (.int .i64 x.o) ∧ w'.cell? ⟨X0, 3, none⟩ = some (.int .i64 x.d) ∧ w'.cell? ⟨X0, 4, none⟩ = some (.int .i64 x.b) ∧ Below W.heap.size W w') (by kernel_rfl) ⟨e0, e1, e2, e3, e4, (Below.refl _ _).drew⟩ (fun hHeld => ?_)
          first
            | (refine held_skip 0 14 rfl (by kernel_rfl) (by kernel_rfl) (by kernel_rfl) rfl (fun _ _ _ h => h) (by rfl) (by assumption) ?_)
            | (refine held_take 0 14 ?vv86 rfl (by kernel_rfl) (by kernel_rfl) (by kernel_rfl) rfl (fun _ _ _ h => h) (by rfl) ?hy86 (by assumption) ?rest86
               case hy86 => (intro w hSw; (try dsimp only at hSw); go_simp; try with_reducible rfl))
          try simp only [Act.put, List.setIfInBounds_toArray, List.set_cons_zero, List.set_cons_succ]
          refine wpAnyH_ready (rs := [1]) (by kernel_rfl) (by simp) ?_
          refine AllReadyH.cons rfl (fun K hK => ?_) AllReadyH.nil
          go_simp
          refine (isLoan_any x _).mono ?_
          rintro e w2 ⟨rfl, hb⟩
          rw [HQ.out]
          go_wp2_with fail
          have hq := Below.trans hHeld.2.2.2.2.2 (Below.mono hb hHeld.2.2.2.2.2.size)
          refine hK.out _ _ ⟨(hq.cell (p := ⟨X0, 0, none⟩) g0).trans e0, (hq.cell (p := ⟨X0, 1, none⟩) g0).trans e1, (hq.cell (p := ⟨X0, 2, none⟩) g0).trans e2, (hq.cell (p := ⟨X0, 3, none⟩) g0).trans e3, (hq.cell (p := ⟨X0, 4, none⟩) g0).trans e4, hq⟩ (fun hHeld => ?_)
          clear hq hb hK K
          try simp only [Act.put, List.setIfInBounds_toArray, List.set_cons_zero, List.set_cons_succ]
          first
            | (refine held_skip 2 16 rfl (by kernel_rfl) (by kernel_rfl) (by kernel_rfl) rfl (fun _ _ _ h => h) (by rfl) (by assumption) ?_)
            | (refine held_take 2 16 ?vv87 rfl (by kernel_rfl) (by kernel_rfl) (by kernel_rfl) rfl (fun _ _ _ h => h) (by rfl) ?hy87 (by assumption) ?rest87
               case hy87 => (intro w hSw; (try dsimp only at hSw); go_simp; try with_reducible rfl))
          try simp only [Act.put, List.setIfInBounds_toArray, List.set_cons_zero, List.set_cons_succ]
          first
            | (refine held_skip 3 17 rfl (by kernel_rfl) (by kernel_rfl) (by kernel_rfl) rfl (fun _ _ _ h => h) (by rfl) (by assumption) ?_)
            | (refine held_take 3 17 ?vv88 rfl (by kernel_rfl) (by kernel_rfl) (by kernel_rfl) rfl (fun _ _ _ h => h) (by rfl) ?hy88 (by assumption) ?rest88
               case hy88 => (intro w hSw; (try dsimp only at hSw); go_simp; try with_reducible rfl))
          try simp only [Act.put, List.setIfInBounds_toArray, List.set_cons_zero, List.set_cons_succ]
          first
            | (refine held_skip 4 18 rfl (by kernel_rfl) (by kernel_rfl) (by kernel_rfl) rfl (fun _ _ _ h => h) (by rfl) (by assumption) ?_)
            | (refine held_take 4 18 ?vv89 rfl (by kernel_rfl) (by kernel_rfl) (by kernel_rfl) rfl (fun _ _ _ h => h) (by rfl) ?hy89 (by assumption) ?rest89
               case hy89 => (intro w hSw; (try dsimp only at hSw); go_simp; try with_reducible rfl))
          try simp only [Act.put, List.setIfInBounds_toArray, List.set_cons_zero, List.set_cons_succ]
          first
            | (refine held_skip 5 19 rfl (by kernel_rfl) (by kernel_rfl) (by kernel_rfl) rfl (fun _ _ _ h => h) (by rfl) (by assumption) ?_)
            | (refine held_take 5 19 ?vv90 rfl (by kernel_rfl) (by kernel_rfl) (by kernel_rfl) rfl (fun _ _ _ h => h) (by rfl) ?hy90 (by assumption) ?rest90
               case hy90 => (intro w hSw; (try dsimp only at hSw); go_simp; try with_reducible rfl))
          try simp only [Act.put, List.setIfInBounds_toArray, List.set_cons_zero, List.set_cons_succ]
          first
            | (refine held_skip 6 20 rfl (by kernel_rfl) (by kernel_rfl) (by kernel_rfl) rfl (fun _ _ _ h => h) (by rfl) (by assumption) ?_)
            | (refine held_take 6 20 ?vv91 rfl (by kernel_rfl) (by kernel_rfl) (by kernel_rfl) rfl (fun _ _ _ h => h) (by rfl) ?hy91 (by assumption) ?rest91
               case hy91 => (intro w hSw; (try dsimp only at hSw); go_simp; try with_reducible rfl))
          try simp only [Act.put, List.setIfInBounds_toArray, List.set_cons_zero, List.set_cons_succ]
          first
            | (refine held_skip 7 21 rfl (by kernel_rfl) (by kernel_rfl) (by kernel_rfl) rfl (fun _ _ _ h => h) (by rfl) (by assumption) ?_)
            | (refine held_take 7 21 ?vv92 rfl (by kernel_rfl) (by kernel_rfl) (by kernel_rfl) rfl (fun _ _ _ h => h) (by rfl) ?hy92 (by assumption) ?rest92
               case hy92 => (intro w hSw; (try dsimp only at hSw); go_simp; try with_reducible rfl))
          try simp only [Act.put, List.setIfInBounds_toArray, List.set_cons_zero, List.set_cons_succ]
          first
            | (refine held_skip 8 22 rfl (by kernel_rfl) (by kernel_rfl) (by kernel_rfl) rfl (fun _ _ _ h => h) (by rfl) (by assumption) ?_)
            | (refine held_take 8 22 ?vv93 rfl (by kernel_rfl) (by kernel_rfl) (by kernel_rfl) rfl (fun _ _ _ h => h) (by rfl) ?hy93 (by assumption) ?rest93
               case hy93 => (intro w hSw; (try dsimp only at hSw); go_simp; try with_reducible rfl))
          try simp only [Act.put, List.setIfInBounds_toArray, List.set_cons_zero, List.set_cons_succ]
          first
            | (refine held_skip 9 23 rfl (by kernel_rfl) (by kernel_rfl) (by kernel_rfl) rfl (fun _ _ _ h => h) (by rfl) (by assumption) ?_)
            | (refine held_take 9 23 ?vv94 rfl (by kernel_rfl) (by kernel_rfl) (by kernel_rfl) rfl (fun _ _ _ h => h) (by rfl) ?hy94 (by assumption) ?rest94
               case hy94 => (intro w hSw; (try dsimp only at hSw); go_simp; try with_reducible rfl))
          try simp only [Act.put, List.setIfInBounds_toArray, List.set_cons_zero, List.set_cons_succ]
          first
            | (refine held_skip 10 24 rfl (by kernel_rfl) (by kernel_rfl) (by kernel_rfl) rfl (fun _ _ _ h => h) (by rfl) (by assumption) ?_)
            | (refine held_take 10 24 ?vv95 rfl (by kernel_rfl) (by kernel_rfl) (by kernel_rfl) rfl (fun _ _ _ h => h) (by rfl) ?hy95 (by assumption) ?rest95
               case hy95 => (intro w hSw; (try dsimp only at hSw); go_simp; try with_reducible rfl))
          try simp only [Act.put, List.setIfInBounds_toArray, List.set_cons_zero, List.set_cons_succ]
          first
            | (refine held_skip 11 25 rfl (by kernel_rfl) (by kernel_rfl) (by kernel_rfl) rfl (fun _ _ _ h => h) (by rfl) (by assumption) ?_)
            | (refine held_take 11 25 ?vv96 rfl (by kernel_rfl) (by kernel_rfl) (by kernel_rfl) rfl (fun _ _ _ h => h) (by rfl) ?hy96 (by assumption) ?rest96
               case hy96 => (intro w hSw; (try dsimp only at hSw); go_simp; try with_reducible rfl))
          try simp only [Act.put, List.setIfInBounds_toArray, List.set_cons_zero, List.set_cons_succ]
          first
            | (refine held_skip 12 26 rfl (by kernel_rfl) (by kernel_rfl) (by kernel_rfl) rfl (fun _ _ _ h => h) (by rfl) (by assumption) ?_)
            | (refine held_take 12 26 ?vv97 rfl (by kernel_rfl) (by kernel_rfl) (by kernel_rfl) rfl (fun _ _ _ h => h) (by rfl) ?hy97 (by assumption) ?rest97
               case hy97 => (intro w hSw; (try dsimp only at hSw); go_simp; try with_reducible rfl))
          try simp only [Act.put, List.setIfInBounds_toArray, List.set_cons_zero, List.set_cons_succ]
          first
            | (refine held_skip 13 27 rfl (by kernel_rfl) (by kernel_rfl) (by kernel_rfl) rfl (fun _ _ _ h => h) (by rfl) (by assumption) ?_)
            | (refine held_take 13 27 ?vv98 rfl (by kernel_rfl) (by kernel_rfl) (by kernel_rfl) rfl (fun _ _ _ h => h) (by rfl) ?hy98 (by assumption) ?rest98
               case hy98 => (intro w hSw; (try dsimp only at hSw); go_simp; try with_reducible rfl))
          try simp only [Act.put, List.setIfInBounds_toArray, List.set_cons_zero, List.set_cons_succ]
          first
            | (refine held_skip 14 28 rfl (by kernel_rfl) (by kernel_rfl) (by kernel_rfl) rfl (fun _ _ _ h => h) (by rfl) (by assumption) ?_)
            | (refine held_take 14 28 ?vv99 rfl (by kernel_rfl) (by kernel_rfl) (by kernel_rfl) rfl (fun _ _ _ h => h) (by rfl) ?hy99 (by assumption) ?rest99
               case hy99 => (intro w hSw; (try dsimp only at hSw); go_simp; try with_reducible rfl))
          try simp only [Act.put, List.setIfInBounds_toArray, List.set_cons_zero, List.set_cons_succ]
          first
            | (refine held_skip 15 29 rfl (by kernel_rfl) (by kernel_rfl) (by kernel_rfl) rfl (fun _ _ _ h => h) (by rfl) (by assumption) ?_)
            | (refine held_take 15 29 ?vv100 rfl (by kernel_rfl) (by kernel_rfl) (by kernel_rfl) rfl (fun _ _ _ h => h) (by rfl) ?hy100 (by assumption) ?rest100
               case hy100 => (intro w hSw; (try dsimp only at hSw); go_simp; try with_reducible rfl))
          try simp only [Act.put, List.setIfInBounds_toArray, List.set_cons_zero, List.set_cons_succ]
          first
            | (refine held_skip 16 30 rfl (by kernel_rfl) (by kernel_rfl) (by kernel_rfl) rfl (fun _ _ _ h => h) (by rfl) (by assumption) ?_)
            | (refine held_take 16 30 ?vv101 rfl (by kernel_rfl) (by kernel_rfl) (by kernel_rfl) rfl (fun _ _ _ h => h) (by rfl) ?hy101 (by assumption) ?rest101
               case hy101 => (intro w hSw; (try dsimp only at hSw); go_simp; try with_reducible rfl))
          try simp only [Act.put, List.setIfInBounds_toArray, List.set_cons_zero, List.set_cons_succ]
          first
            | (refine held_skip 17 31 rfl (by kernel_rfl) (by kernel_rfl) (by kernel_rfl) rfl (fun _ _ _ h => h) (by rfl) (by assumption) ?_)
            | (refine held_take 17 31 ?vv102 rfl (by kernel_rfl) (by kernel_rfl) (by kernel_rfl) rfl (fun _ _ _ h => h) (by rfl) ?hy102 (by assumption) ?rest102
               case hy102 => (intro w hSw; (try dsimp only at hSw); go_simp; try with_reducible rfl))
          try simp only [Act.put, List.setIfInBounds_toArray, List.set_cons_zero, List.set_cons_succ]
          refine wpAnyH_done (by kernel_rfl) ?_ _
          have HB2 := hide hHeld.2.2.2.2.2
          clear hHeld
          have hU1 := HBW.out.trans (Below.mono HB2.out HBW.out.size)
          have hsz := HB2.out.size
          have e0 := (HB2.out.cell (p := ⟨X0, 0, none⟩) g0).trans e0
          have e1 := (HB2.out.cell (p := ⟨X0, 1, none⟩) g0).trans e1
          have e2 := (HB2.out.cell (p := ⟨X0, 2, none⟩) g0).trans e2
          have e3 := (HB2.out.cell (p := ⟨X0, 3, none⟩) g0).trans e3
          have e4 := (HB2.out.cell (p := ⟨X0, 4, none⟩) g0).trans e4
          have g0 : X0 < _ := Nat.lt_of_lt_of_le g0 hsz
          have HU1 := hide hU1
          clear HB2 hU1 hsz
          try clear hbW p0 p1 p2 p3 p4
          go_wp2_with fail
          obtain ⟨U, hU⟩ : ∃ U, U = w2 := ⟨_, rfl⟩
          rw [← hU] at e0 e1 e2 e3 e4 g0 HU1 ⊢
          clear hU
          go_loopg [36] k (fun gj i w2 => ∃ j : Nat, j ≤ k ∧ k - j ≤ gj ∧ i = .int .i64 j ∧ Aside (Below U.heap.size U w2) ∧ Aside (anyC zs j x = false))
          case atStart => exact ⟨0, Nat.zero_le _, by omega, rfl, Below.refl _ _, anyC_0 _ _⟩
          case round =>
            obtain ⟨j, hj, hgj, rfl, BV, A2⟩ := hrel
            by_cases hlj : j < k
            · have hlji : (j : Int) < (k : Int) := by omega
              obtain ⟨z, hz, hzc⟩ := HAT.out j (by rw [HZ.out]; omega)
              have HZJ := hide hz
              obtain ⟨hbz, q0, q1, q2, q3, q4⟩ := hzc wr (HU1.out.trans (BV.out.mono HU1.out.size))
              clear hz hzc
              have a0 := (BV.out.cell (p := ⟨X0, 0, none⟩) g0).trans e0
              have a2 := (BV.out.cell (p := ⟨X0, 2, none⟩) g0).trans e2
              have ga : X0 < wr.heap.size := Nat.lt_of_lt_of_le g0 BV.out.size
              have H4 : z.s ≠ x.s ∨ (z.s = x.s ∧ z.b = -1) ∨ (z.s = x.s ∧ z.b ≠ -1 ∧ x.o < z.b) ∨ (z.s = x.s ∧ z.b ≠ -1 ∧ ¬ x.o < z.b) := by omega
              rcases H4 with h1 | ⟨h1, h2⟩ | ⟨h1, h2, h3⟩ | ⟨h1, h2, h3⟩
              · have HC : Hid (clash z x = false) := hide (by unfold clash; simp [h1])
                go_wp2
                go_roundg (k - (j + 1))
                case measure => omega
                case rel => exact ⟨j + 1, by omega, by omega, by go_num, BV.out.alloc BV.out.size _, by rw [anyC_succ HZJ.out A2.out]; exact HC.out⟩
              iterate 2
                · have HF := hide (loans_false HZ.out hlt (stepLn_clash HX.out (anyC_hit hlj HZJ.out (by unfold clash; simp [*]))))
                  go_wp2
                  go_ret
                  exact ⟨ret_bool HF.out.symm, HU1.out.trans (Below.mono (BV.out.alloc BV.out.size _) HU1.out.size)⟩
              · have HC : Hid (clash z x = false) := hide (by unfold clash; simp [h2]; omega)
                go_wp2
                go_roundg (k - (j + 1))
                case measure => omega
                case rel => exact ⟨j + 1, by omega, by omega, by go_num, BV.out.alloc BV.out.size _, by rw [anyC_succ HZJ.out A2.out]; exact HC.out⟩
            · have hge : ¬ (j : Int) < (k : Int) := by omega
              obtain rfl : j = k := by omega
              go_wp2
              go_roundg (n - (j + 1))
              case measure => omega
              case rel => exact ⟨j + 1, by omega, by omega, by go_num, HU1.out.trans (BV.out.mono HU1.out.size), upto_succ A.out (stepLn_ok HX.out HY.out HQ.out (.inl HK.out) A2.out)⟩
        · obtain ⟨y, hy, hyc⟩ := HAT.out (k - 1) (by rw [HZ.out]; omega)
          obtain ⟨hbW, p0, p1, p2, _⟩ := hyc W HBW.out
          clear hyc p0 p1
          have k1 : 0 < k := by omega
          have k2 : (1 : Int) ≤ (k : Int) := by omega
          have k3 : (0 : Int) ≤ (k : Int) - 1 := by omega
          have k4 : (k : Int) - 1 < (n : Int) := by omega
          have k5 : IntKind.i64.wrap ((k : Int) - 1) = (k : Int) - 1 := IntWalk.i64_in _ (by omega)
          have k6 : ((k : Int) - 1).toNat = k - 1 := by omega
          have HY := hide (getB hy)
          clear hy
          by_cases hs : x.o < y.o
          · have HF := hide (loans_false HZ.out hlt (stepLn_bad HX.out HY.out k1 hs))
            refine wp_region_held_drew (S := fun w' => w'.cell? ⟨X0, 0, none⟩ = some (.int .i64 x.s) ∧ w'.cell? ⟨X0, 1, none⟩ = some (.int .i64 x.r) ∧ w'.cell? ⟨X0, 2, none⟩ = some (.int .i64 x.o) ∧ w'.cell? ⟨X0, 3, none⟩ = some (.int .i64 x.d) ∧ w'.cell? ⟨X0, 4, none⟩ = some (.int .i64 x.b) ∧ w'.cell? ⟨b, off + (k - 1) * 5 + 2, none⟩ = some (.int .i64 y.o) ∧ Below W.heap.size W w') (by kernel_rfl) ⟨e0, e1, e2, e3, e4, p2, (Below.refl _ _).drew⟩ (fun hHeld => ?_)
            first
              | (refine held_skip 0 14 rfl (by kernel_rfl) (by kernel_rfl) (by kernel_rfl) rfl (fun _ _ _ h => h) (by rfl) (by assumption) ?_)
              | (refine held_take 0 14 ?vv103 rfl (by kernel_rfl) (by kernel_rfl) (by kernel_rfl) rfl (fun _ _ _ h => h) (by rfl) ?hy103 (by assumption) ?rest103
                 case hy103 => (intro w hSw; (try dsimp only at hSw); go_simp; try with_reducible rfl))
            try simp only [Act.put, List.setIfInBounds_toArray, List.set_cons_zero, List.set_cons_succ]
            refine wpAnyH_ready (rs := [1]) (by kernel_rfl) (by simp) ?_
            refine AllReadyH.cons rfl (fun K hK => ?_) AllReadyH.nil
            go_simp
            refine (isLoan_any x _).mono ?_
            rintro e w2 ⟨rfl, hb⟩
            rw [HQ.out]
            go_wp2_with fail
            have hq := Below.trans hHeld.2.2.2.2.2.2 (Below.mono hb hHeld.2.2.2.2.2.2.size)
            refine hK.out _ _ ⟨(hq.cell (p := ⟨X0, 0, none⟩) g0).trans e0, (hq.cell (p := ⟨X0, 1, none⟩) g0).trans e1, (hq.cell (p := ⟨X0, 2, none⟩) g0).trans e2, (hq.cell (p := ⟨X0, 3, none⟩) g0).trans e3, (hq.cell (p := ⟨X0, 4, none⟩) g0).trans e4, (hq.cell (p := ⟨b, off + (k - 1) * 5 + 2, none⟩) hbW).trans p2, hq⟩ (fun hHeld => ?_)
            clear hq hb hK K
            try simp only [Act.put, List.setIfInBounds_toArray, List.set_cons_zero, List.set_cons_succ]
            first
              | (refine held_skip 2 16 rfl (by kernel_rfl) (by kernel_rfl) (by kernel_rfl) rfl (fun _ _ _ h => h) (by rfl) (by assumption) ?_)
              | (refine held_take 2 16 ?vv104 rfl (by kernel_rfl) (by kernel_rfl) (by kernel_rfl) rfl (fun _ _ _ h => h) (by rfl) ?hy104 (by assumption) ?rest104
                 case hy104 => (intro w hSw; (try dsimp only at hSw); go_simp; try with_reducible rfl))
            try simp only [Act.put, List.setIfInBounds_toArray, List.set_cons_zero, List.set_cons_succ]
            first
              | (refine held_skip 3 17 rfl (by kernel_rfl) (by kernel_rfl) (by kernel_rfl) rfl (fun _ _ _ h => h) (by rfl) (by assumption) ?_)
              | (refine held_take 3 17 ?vv105 rfl (by kernel_rfl) (by kernel_rfl) (by kernel_rfl) rfl (fun _ _ _ h => h) (by rfl) ?hy105 (by assumption) ?rest105
                 case hy105 => (intro w hSw; (try dsimp only at hSw); go_simp; try with_reducible rfl))
            try simp only [Act.put, List.setIfInBounds_toArray, List.set_cons_zero, List.set_cons_succ]
            first
              | (refine held_skip 4 18 rfl (by kernel_rfl) (by kernel_rfl) (by kernel_rfl) rfl (fun _ _ _ h => h) (by rfl) (by assumption) ?_)
              | (refine held_take 4 18 ?vv106 rfl (by kernel_rfl) (by kernel_rfl) (by kernel_rfl) rfl (fun _ _ _ h => h) (by rfl) ?hy106 (by assumption) ?rest106
                 case hy106 => (intro w hSw; (try dsimp only at hSw); go_simp; try with_reducible rfl))
            try simp only [Act.put, List.setIfInBounds_toArray, List.set_cons_zero, List.set_cons_succ]
            first
              | (refine held_skip 5 19 rfl (by kernel_rfl) (by kernel_rfl) (by kernel_rfl) rfl (fun _ _ _ h => h) (by rfl) (by assumption) ?_)
              | (refine held_take 5 19 ?vv107 rfl (by kernel_rfl) (by kernel_rfl) (by kernel_rfl) rfl (fun _ _ _ h => h) (by rfl) ?hy107 (by assumption) ?rest107
                 case hy107 => (intro w hSw; (try dsimp only at hSw); go_simp; try with_reducible rfl))
            try simp only [Act.put, List.setIfInBounds_toArray, List.set_cons_zero, List.set_cons_succ]
            first
              | (refine held_skip 6 20 rfl (by kernel_rfl) (by kernel_rfl) (by kernel_rfl) rfl (fun _ _ _ h => h) (by rfl) (by assumption) ?_)
              | (refine held_take 6 20 ?vv108 rfl (by kernel_rfl) (by kernel_rfl) (by kernel_rfl) rfl (fun _ _ _ h => h) (by rfl) ?hy108 (by assumption) ?rest108
                 case hy108 => (intro w hSw; (try dsimp only at hSw); go_simp; try with_reducible rfl))
            try simp only [Act.put, List.setIfInBounds_toArray, List.set_cons_zero, List.set_cons_succ]
            first
              | (refine held_skip 7 21 rfl (by kernel_rfl) (by kernel_rfl) (by kernel_rfl) rfl (fun _ _ _ h => h) (by rfl) (by assumption) ?_)
              | (refine held_take 7 21 ?vv109 rfl (by kernel_rfl) (by kernel_rfl) (by kernel_rfl) rfl (fun _ _ _ h => h) (by rfl) ?hy109 (by assumption) ?rest109
                 case hy109 => (intro w hSw; (try dsimp only at hSw); go_simp; try with_reducible rfl))
            try simp only [Act.put, List.setIfInBounds_toArray, List.set_cons_zero, List.set_cons_succ]
            first
              | (refine held_skip 8 22 rfl (by kernel_rfl) (by kernel_rfl) (by kernel_rfl) rfl (fun _ _ _ h => h) (by rfl) (by assumption) ?_)
              | (refine held_take 8 22 ?vv110 rfl (by kernel_rfl) (by kernel_rfl) (by kernel_rfl) rfl (fun _ _ _ h => h) (by rfl) ?hy110 (by assumption) ?rest110
                 case hy110 => (intro w hSw; (try dsimp only at hSw); go_simp; try with_reducible rfl))
            try simp only [Act.put, List.setIfInBounds_toArray, List.set_cons_zero, List.set_cons_succ]
            first
              | (refine held_skip 9 23 rfl (by kernel_rfl) (by kernel_rfl) (by kernel_rfl) rfl (fun _ _ _ h => h) (by rfl) (by assumption) ?_)
              | (refine held_take 9 23 ?vv111 rfl (by kernel_rfl) (by kernel_rfl) (by kernel_rfl) rfl (fun _ _ _ h => h) (by rfl) ?hy111 (by assumption) ?rest111
                 case hy111 => (intro w hSw; (try dsimp only at hSw); go_simp; try with_reducible rfl))
            try simp only [Act.put, List.setIfInBounds_toArray, List.set_cons_zero, List.set_cons_succ]
            first
              | (refine held_skip 10 24 rfl (by kernel_rfl) (by kernel_rfl) (by kernel_rfl) rfl (fun _ _ _ h => h) (by rfl) (by assumption) ?_)
              | (refine held_take 10 24 ?vv112 rfl (by kernel_rfl) (by kernel_rfl) (by kernel_rfl) rfl (fun _ _ _ h => h) (by rfl) ?hy112 (by assumption) ?rest112
                 case hy112 => (intro w hSw; (try dsimp only at hSw); go_simp; try with_reducible rfl))
            try simp only [Act.put, List.setIfInBounds_toArray, List.set_cons_zero, List.set_cons_succ]
            first
              | (refine held_skip 11 25 rfl (by kernel_rfl) (by kernel_rfl) (by kernel_rfl) rfl (fun _ _ _ h => h) (by rfl) (by assumption) ?_)
              | (refine held_take 11 25 ?vv113 rfl (by kernel_rfl) (by kernel_rfl) (by kernel_rfl) rfl (fun _ _ _ h => h) (by rfl) ?hy113 (by assumption) ?rest113
                 case hy113 => (intro w hSw; (try dsimp only at hSw); go_simp; try with_reducible rfl))
            try simp only [Act.put, List.setIfInBounds_toArray, List.set_cons_zero, List.set_cons_succ]
            first
              | (refine held_skip 12 26 rfl (by kernel_rfl) (by kernel_rfl) (by kernel_rfl) rfl (fun _ _ _ h => h) (by rfl) (by assumption) ?_)
              | (refine held_take 12 26 ?vv114 rfl (by kernel_rfl) (by kernel_rfl) (by kernel_rfl) rfl (fun _ _ _ h => h) (by rfl) ?hy114 (by assumption) ?rest114
                 case hy114 => (intro w hSw; (try dsimp only at hSw); go_simp; try with_reducible rfl))
            try simp only [Act.put, List.setIfInBounds_toArray, List.set_cons_zero, List.set_cons_succ]
            first
              | (refine held_skip 13 27 rfl (by kernel_rfl) (by kernel_rfl) (by kernel_rfl) rfl (fun _ _ _ h => h) (by rfl) (by assumption) ?_)
              | (refine held_take 13 27 ?vv115 rfl (by kernel_rfl) (by kernel_rfl) (by kernel_rfl) rfl (fun _ _ _ h => h) (by rfl) ?hy115 (by assumption) ?rest115
                 case hy115 => (intro w hSw; (try dsimp only at hSw); go_simp; try with_reducible rfl))
            try simp only [Act.put, List.setIfInBounds_toArray, List.set_cons_zero, List.set_cons_succ]
            first
              | (refine held_skip 14 28 rfl (by kernel_rfl) (by kernel_rfl) (by kernel_rfl) rfl (fun _ _ _ h => h) (by rfl) (by assumption) ?_)
              | (refine held_take 14 28 ?vv116 rfl (by kernel_rfl) (by kernel_rfl) (by kernel_rfl) rfl (fun _ _ _ h => h) (by rfl) ?hy116 (by assumption) ?rest116
                 case hy116 => (intro w hSw; (try dsimp only at hSw); go_simp; try with_reducible rfl))
            try simp only [Act.put, List.setIfInBounds_toArray, List.set_cons_zero, List.set_cons_succ]
            first
              | (refine held_skip 15 29 rfl (by kernel_rfl) (by kernel_rfl) (by kernel_rfl) rfl (fun _ _ _ h => h) (by rfl) (by assumption) ?_)
              | (refine held_take 15 29 ?vv117 rfl (by kernel_rfl) (by kernel_rfl) (by kernel_rfl) rfl (fun _ _ _ h => h) (by rfl) ?hy117 (by assumption) ?rest117
                 case hy117 => (intro w hSw; (try dsimp only at hSw); go_simp; try with_reducible rfl))
            try simp only [Act.put, List.setIfInBounds_toArray, List.set_cons_zero, List.set_cons_succ]
            first
              | (refine held_skip 16 30 rfl (by kernel_rfl) (by kernel_rfl) (by kernel_rfl) rfl (fun _ _ _ h => h) (by rfl) (by assumption) ?_)
              | (refine held_take 16 30 ?vv118 rfl (by kernel_rfl) (by kernel_rfl) (by kernel_rfl) rfl (fun _ _ _ h => h) (by rfl) ?hy118 (by assumption) ?rest118
                 case hy118 => (intro w hSw; (try dsimp only at hSw); go_simp; try with_reducible rfl))
            try simp only [Act.put, List.setIfInBounds_toArray, List.set_cons_zero, List.set_cons_succ]
            first
              | (refine held_skip 17 31 rfl (by kernel_rfl) (by kernel_rfl) (by kernel_rfl) rfl (fun _ _ _ h => h) (by rfl) (by assumption) ?_)
              | (refine held_take 17 31 ?vv119 rfl (by kernel_rfl) (by kernel_rfl) (by kernel_rfl) rfl (fun _ _ _ h => h) (by rfl) ?hy119 (by assumption) ?rest119
                 case hy119 => (intro w hSw; (try dsimp only at hSw); go_simp; try with_reducible rfl))
            try simp only [Act.put, List.setIfInBounds_toArray, List.set_cons_zero, List.set_cons_succ]
            refine wpAnyH_done (by kernel_rfl) ?_ _
            have HB2 := hide hHeld.2.2.2.2.2.2
            clear hHeld
            go_wp2
            go_ret
            exact ⟨ret_bool HF.out.symm, HBW.out.trans (Below.mono HB2.out HBW.out.size)⟩
          · have HSO := hide (Int.not_lt.1 hs)
            refine wp_region_held_drew (S := fun w' => w'.cell? ⟨X0, 0, none⟩ = some (.int .i64 x.s) ∧ w'.cell? ⟨X0, 1, none⟩ = some (.int .i64 x.r) ∧ w'.cell? ⟨X0, 2, none⟩ = some (.int .i64 x.o) ∧ w'.cell? ⟨X0, 3, none⟩ = some (.int .i64 x.d) ∧ w'.cell? ⟨X0, 4, none⟩ = some (.int .i64 x.b) ∧ w'.cell? ⟨b, off + (k - 1) * 5 + 2, none⟩ = some (.int .i64 y.o) ∧ Below W.heap.size W w') (by kernel_rfl) ⟨e0, e1, e2, e3, e4, p2, (Below.refl _ _).drew⟩ (fun hHeld => ?_)
            first
              | (refine held_skip 0 14 rfl (by kernel_rfl) (by kernel_rfl) (by kernel_rfl) rfl (fun _ _ _ h => h) (by rfl) (by assumption) ?_)
              | (refine held_take 0 14 ?vv120 rfl (by kernel_rfl) (by kernel_rfl) (by kernel_rfl) rfl (fun _ _ _ h => h) (by rfl) ?hy120 (by assumption) ?rest120
                 case hy120 => (intro w hSw; (try dsimp only at hSw); go_simp; try with_reducible rfl))
            try simp only [Act.put, List.setIfInBounds_toArray, List.set_cons_zero, List.set_cons_succ]
            refine wpAnyH_ready (rs := [1]) (by kernel_rfl) (by simp) ?_
            refine AllReadyH.cons rfl (fun K hK => ?_) AllReadyH.nil
            go_simp
            refine (isLoan_any x _).mono ?_
            rintro e w2 ⟨rfl, hb⟩
            rw [HQ.out]
            go_wp2_with fail
            have hq := Below.trans hHeld.2.2.2.2.2.2 (Below.mono hb hHeld.2.2.2.2.2.2.size)
            refine hK.out _ _ ⟨(hq.cell (p := ⟨X0, 0, none⟩) g0).trans e0, (hq.cell (p := ⟨X0, 1, none⟩) g0).trans e1, (hq.cell (p := ⟨X0, 2, none⟩) g0).trans e2, (hq.cell (p := ⟨X0, 3, none⟩) g0).trans e3, (hq.cell (p := ⟨X0, 4, none⟩) g0).trans e4, (hq.cell (p := ⟨b, off + (k - 1) * 5 + 2, none⟩) hbW).trans p2, hq⟩ (fun hHeld => ?_)
            clear hq hb hK K
            try simp only [Act.put, List.setIfInBounds_toArray, List.set_cons_zero, List.set_cons_succ]
            first
              | (refine held_skip 2 16 rfl (by kernel_rfl) (by kernel_rfl) (by kernel_rfl) rfl (fun _ _ _ h => h) (by rfl) (by assumption) ?_)
              | (refine held_take 2 16 ?vv121 rfl (by kernel_rfl) (by kernel_rfl) (by kernel_rfl) rfl (fun _ _ _ h => h) (by rfl) ?hy121 (by assumption) ?rest121
                 case hy121 => (intro w hSw; (try dsimp only at hSw); go_simp; try with_reducible rfl))
            try simp only [Act.put, List.setIfInBounds_toArray, List.set_cons_zero, List.set_cons_succ]
            first
              | (refine held_skip 3 17 rfl (by kernel_rfl) (by kernel_rfl) (by kernel_rfl) rfl (fun _ _ _ h => h) (by rfl) (by assumption) ?_)
              | (refine held_take 3 17 ?vv122 rfl (by kernel_rfl) (by kernel_rfl) (by kernel_rfl) rfl (fun _ _ _ h => h) (by rfl) ?hy122 (by assumption) ?rest122
                 case hy122 => (intro w hSw; (try dsimp only at hSw); go_simp; try with_reducible rfl))
            try simp only [Act.put, List.setIfInBounds_toArray, List.set_cons_zero, List.set_cons_succ]
            first
              | (refine held_skip 4 18 rfl (by kernel_rfl) (by kernel_rfl) (by kernel_rfl) rfl (fun _ _ _ h => h) (by rfl) (by assumption) ?_)
              | (refine held_take 4 18 ?vv123 rfl (by kernel_rfl) (by kernel_rfl) (by kernel_rfl) rfl (fun _ _ _ h => h) (by rfl) ?hy123 (by assumption) ?rest123
                 case hy123 => (intro w hSw; (try dsimp only at hSw); go_simp; try with_reducible rfl))
            try simp only [Act.put, List.setIfInBounds_toArray, List.set_cons_zero, List.set_cons_succ]
            first
              | (refine held_skip 5 19 rfl (by kernel_rfl) (by kernel_rfl) (by kernel_rfl) rfl (fun _ _ _ h => h) (by rfl) (by assumption) ?_)
              | (refine held_take 5 19 ?vv124 rfl (by kernel_rfl) (by kernel_rfl) (by kernel_rfl) rfl (fun _ _ _ h => h) (by rfl) ?hy124 (by assumption) ?rest124
                 case hy124 => (intro w hSw; (try dsimp only at hSw); go_simp; try with_reducible rfl))
            try simp only [Act.put, List.setIfInBounds_toArray, List.set_cons_zero, List.set_cons_succ]
            first
              | (refine held_skip 6 20 rfl (by kernel_rfl) (by kernel_rfl) (by kernel_rfl) rfl (fun _ _ _ h => h) (by rfl) (by assumption) ?_)
              | (refine held_take 6 20 ?vv125 rfl (by kernel_rfl) (by kernel_rfl) (by kernel_rfl) rfl (fun _ _ _ h => h) (by rfl) ?hy125 (by assumption) ?rest125
                 case hy125 => (intro w hSw; (try dsimp only at hSw); go_simp; try with_reducible rfl))
            try simp only [Act.put, List.setIfInBounds_toArray, List.set_cons_zero, List.set_cons_succ]
            first
              | (refine held_skip 7 21 rfl (by kernel_rfl) (by kernel_rfl) (by kernel_rfl) rfl (fun _ _ _ h => h) (by rfl) (by assumption) ?_)
              | (refine held_take 7 21 ?vv126 rfl (by kernel_rfl) (by kernel_rfl) (by kernel_rfl) rfl (fun _ _ _ h => h) (by rfl) ?hy126 (by assumption) ?rest126
                 case hy126 => (intro w hSw; (try dsimp only at hSw); go_simp; try with_reducible rfl))
            try simp only [Act.put, List.setIfInBounds_toArray, List.set_cons_zero, List.set_cons_succ]
            first
              | (refine held_skip 8 22 rfl (by kernel_rfl) (by kernel_rfl) (by kernel_rfl) rfl (fun _ _ _ h => h) (by rfl) (by assumption) ?_)
              | (refine held_take 8 22 ?vv127 rfl (by kernel_rfl) (by kernel_rfl) (by kernel_rfl) rfl (fun _ _ _ h => h) (by rfl) ?hy127 (by assumption) ?rest127
                 case hy127 => (intro w hSw; (try dsimp only at hSw); go_simp; try with_reducible rfl))
            try simp only [Act.put, List.setIfInBounds_toArray, List.set_cons_zero, List.set_cons_succ]
            first
              | (refine held_skip 9 23 rfl (by kernel_rfl) (by kernel_rfl) (by kernel_rfl) rfl (fun _ _ _ h => h) (by rfl) (by assumption) ?_)
              | (refine held_take 9 23 ?vv128 rfl (by kernel_rfl) (by kernel_rfl) (by kernel_rfl) rfl (fun _ _ _ h => h) (by rfl) ?hy128 (by assumption) ?rest128
                 case hy128 => (intro w hSw; (try dsimp only at hSw); go_simp; try with_reducible rfl))
            try simp only [Act.put, List.setIfInBounds_toArray, List.set_cons_zero, List.set_cons_succ]
            first
              | (refine held_skip 10 24 rfl (by kernel_rfl) (by kernel_rfl) (by kernel_rfl) rfl (fun _ _ _ h => h) (by rfl) (by assumption) ?_)
              | (refine held_take 10 24 ?vv129 rfl (by kernel_rfl) (by kernel_rfl) (by kernel_rfl) rfl (fun _ _ _ h => h) (by rfl) ?hy129 (by assumption) ?rest129
                 case hy129 => (intro w hSw; (try dsimp only at hSw); go_simp; try with_reducible rfl))
            try simp only [Act.put, List.setIfInBounds_toArray, List.set_cons_zero, List.set_cons_succ]
            first
              | (refine held_skip 11 25 rfl (by kernel_rfl) (by kernel_rfl) (by kernel_rfl) rfl (fun _ _ _ h => h) (by rfl) (by assumption) ?_)
              | (refine held_take 11 25 ?vv130 rfl (by kernel_rfl) (by kernel_rfl) (by kernel_rfl) rfl (fun _ _ _ h => h) (by rfl) ?hy130 (by assumption) ?rest130
                 case hy130 => (intro w hSw; (try dsimp only at hSw); go_simp; try with_reducible rfl))
            try simp only [Act.put, List.setIfInBounds_toArray, List.set_cons_zero, List.set_cons_succ]
            first
              | (refine held_skip 12 26 rfl (by kernel_rfl) (by kernel_rfl) (by kernel_rfl) rfl (fun _ _ _ h => h) (by rfl) (by assumption) ?_)
              | (refine held_take 12 26 ?vv131 rfl (by kernel_rfl) (by kernel_rfl) (by kernel_rfl) rfl (fun _ _ _ h => h) (by rfl) ?hy131 (by assumption) ?rest131
                 case hy131 => (intro w hSw; (try dsimp only at hSw); go_simp; try with_reducible rfl))
            try simp only [Act.put, List.setIfInBounds_toArray, List.set_cons_zero, List.set_cons_succ]
            first
              | (refine held_skip 13 27 rfl (by kernel_rfl) (by kernel_rfl) (by kernel_rfl) rfl (fun _ _ _ h => h) (by rfl) (by assumption) ?_)
              | (refine held_take 13 27 ?vv132 rfl (by kernel_rfl) (by kernel_rfl) (by kernel_rfl) rfl (fun _ _ _ h => h) (by rfl) ?hy132 (by assumption) ?rest132
                 case hy132 => (intro w hSw; (try dsimp only at hSw); go_simp; try with_reducible rfl))
            try simp only [Act.put, List.setIfInBounds_toArray, List.set_cons_zero, List.set_cons_succ]
            first
              | (refine held_skip 14 28 rfl (by kernel_rfl) (by kernel_rfl) (by kernel_rfl) rfl (fun _ _ _ h => h) (by rfl) (by assumption) ?_)
              | (refine held_take 14 28 ?vv133 rfl (by kernel_rfl) (by kernel_rfl) (by kernel_rfl) rfl (fun _ _ _ h => h) (by rfl) ?hy133 (by assumption) ?rest133
                 case hy133 => (intro w hSw; (try dsimp only at hSw); go_simp; try with_reducible rfl))
            try simp only [Act.put, List.setIfInBounds_toArray, List.set_cons_zero, List.set_cons_succ]
            first
              | (refine held_skip 15 29 rfl (by kernel_rfl) (by kernel_rfl) (by kernel_rfl) rfl (fun _ _ _ h => h) (by rfl) (by assumption) ?_)
              | (refine held_take 15 29 ?vv134 rfl (by kernel_rfl) (by kernel_rfl) (by kernel_rfl) rfl (fun _ _ _ h => h) (by rfl) ?hy134 (by assumption) ?rest134
                 case hy134 => (intro w hSw; (try dsimp only at hSw); go_simp; try with_reducible rfl))
            try simp only [Act.put, List.setIfInBounds_toArray, List.set_cons_zero, List.set_cons_succ]
            first
              | (refine held_skip 16 30 rfl (by kernel_rfl) (by kernel_rfl) (by kernel_rfl) rfl (fun _ _ _ h => h) (by rfl) (by assumption) ?_)
              | (refine held_take 16 30 ?vv135 rfl (by kernel_rfl) (by kernel_rfl) (by kernel_rfl) rfl (fun _ _ _ h => h) (by rfl) ?hy135 (by assumption) ?rest135
                 case hy135 => (intro w hSw; (try dsimp only at hSw); go_simp; try with_reducible rfl))
            try simp only [Act.put, List.setIfInBounds_toArray, List.set_cons_zero, List.set_cons_succ]
            first
              | (refine held_skip 17 31 rfl (by kernel_rfl) (by kernel_rfl) (by kernel_rfl) rfl (fun _ _ _ h => h) (by rfl) (by assumption) ?_)
              | (refine held_take 17 31 ?vv136 rfl (by kernel_rfl) (by kernel_rfl) (by kernel_rfl) rfl (fun _ _ _ h => h) (by rfl) ?hy136 (by assumption) ?rest136
                 case hy136 => (intro w hSw; (try dsimp only at hSw); go_simp; try with_reducible rfl))
            try simp only [Act.put, List.setIfInBounds_toArray, List.set_cons_zero, List.set_cons_succ]
            refine wpAnyH_done (by kernel_rfl) ?_ _
            have HB2 := hide hHeld.2.2.2.2.2.2
            clear hHeld
            have hU1 := HBW.out.trans (Below.mono HB2.out HBW.out.size)
            have hsz := HB2.out.size
            have e0 := (HB2.out.cell (p := ⟨X0, 0, none⟩) g0).trans e0
            have e1 := (HB2.out.cell (p := ⟨X0, 1, none⟩) g0).trans e1
            have e2 := (HB2.out.cell (p := ⟨X0, 2, none⟩) g0).trans e2
            have e3 := (HB2.out.cell (p := ⟨X0, 3, none⟩) g0).trans e3
            have e4 := (HB2.out.cell (p := ⟨X0, 4, none⟩) g0).trans e4
            have g0 : X0 < _ := Nat.lt_of_lt_of_le g0 hsz
            have HU1 := hide hU1
            clear HB2 hU1 hsz
            try clear hbW p0 p1 p2 p3 p4
            go_wp2_with fail
            obtain ⟨U, hU⟩ : ∃ U, U = w2 := ⟨_, rfl⟩
            rw [← hU] at e0 e1 e2 e3 e4 g0 HU1 ⊢
            clear hU
            go_loopg [36] k (fun gj i w2 => ∃ j : Nat, j ≤ k ∧ k - j ≤ gj ∧ i = .int .i64 j ∧ Aside (Below U.heap.size U w2) ∧ Aside (anyC zs j x = false))
            case atStart => exact ⟨0, Nat.zero_le _, by omega, rfl, Below.refl _ _, anyC_0 _ _⟩
            case round =>
              obtain ⟨j, hj, hgj, rfl, BV, A2⟩ := hrel
              by_cases hlj : j < k
              · have hlji : (j : Int) < (k : Int) := by omega
                obtain ⟨z, hz, hzc⟩ := HAT.out j (by rw [HZ.out]; omega)
                have HZJ := hide hz
                obtain ⟨hbz, q0, q1, q2, q3, q4⟩ := hzc wr (HU1.out.trans (BV.out.mono HU1.out.size))
                clear hz hzc
                have a0 := (BV.out.cell (p := ⟨X0, 0, none⟩) g0).trans e0
                have a2 := (BV.out.cell (p := ⟨X0, 2, none⟩) g0).trans e2
                have ga : X0 < wr.heap.size := Nat.lt_of_lt_of_le g0 BV.out.size
                have H4 : z.s ≠ x.s ∨ (z.s = x.s ∧ z.b = -1) ∨ (z.s = x.s ∧ z.b ≠ -1 ∧ x.o < z.b) ∨ (z.s = x.s ∧ z.b ≠ -1 ∧ ¬ x.o < z.b) := by omega
                rcases H4 with h1 | ⟨h1, h2⟩ | ⟨h1, h2, h3⟩ | ⟨h1, h2, h3⟩
                · have HC : Hid (clash z x = false) := hide (by unfold clash; simp [h1])
                  go_wp2
                  go_roundg (k - (j + 1))
                  case measure => omega
                  case rel => exact ⟨j + 1, by omega, by omega, by go_num, BV.out.alloc BV.out.size _, by rw [anyC_succ HZJ.out A2.out]; exact HC.out⟩
                iterate 2
                  · have HF := hide (loans_false HZ.out hlt (stepLn_clash HX.out (anyC_hit hlj HZJ.out (by unfold clash; simp [*]))))
                    go_wp2
                    go_ret
                    exact ⟨ret_bool HF.out.symm, HU1.out.trans (Below.mono (BV.out.alloc BV.out.size _) HU1.out.size)⟩
                · have HC : Hid (clash z x = false) := hide (by unfold clash; simp [h2]; omega)
                  go_wp2
                  go_roundg (k - (j + 1))
                  case measure => omega
                  case rel => exact ⟨j + 1, by omega, by omega, by go_num, BV.out.alloc BV.out.size _, by rw [anyC_succ HZJ.out A2.out]; exact HC.out⟩
              · have hge : ¬ (j : Int) < (k : Int) := by omega
                obtain rfl : j = k := by omega
                go_wp2
                go_roundg (n - (j + 1))
                case measure => omega
                case rel => exact ⟨j + 1, by omega, by omega, by go_num, HU1.out.trans (BV.out.mono HU1.out.size), upto_succ A.out (stepLn_ok HX.out HY.out HQ.out (.inr HSO.out) A2.out)⟩
    · have hge : ¬ (k : Int) < (n : Int) := by omega
      go_wp2
      go_ret
      exact ⟨ret_bool (by rw [loans_end HZ.out A.out (by omega), Bool.eq_iff_iff]; simp; omega), BW.out⟩

end Go.Proofs.Ytojahihkoaabdaa
