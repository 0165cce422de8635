/- AreCovers: the program. -/
import Derived.Test.YtpdfbijfklmonaaSmall
import Derived.Test.YtpdfbijfklmonaaFCover
import Derived.Deep.RegionWith
namespace Go.Proofs.Ytpdfbijfklmonaa
open Go.RowKit
set_option linter.unusedVariables false
set_option linter.unusedSimpArgs false

theorem first6 (a b c d e f : Bool) : a = false ∨ (a = true ∧ b = false) ∨ (a = true ∧ b = true ∧ c = false) ∨ (a = true ∧ b = true ∧ c = true ∧ d = false) ∨ (a = true ∧ b = true ∧ c = true ∧ d = true ∧ e = false) ∨ (a = true ∧ b = true ∧ c = true ∧ d = true ∧ e = true ∧ f = false) ∨
    (a = true ∧ b = true ∧ c = true ∧ d = true ∧ e = true ∧ f = true) := by
  cases a <;> cases b <;> cases c <;> cases d <;> cases e <;> cases f <;> simp
theorem first8 (a b c d e f g h : Bool) : a = false ∨ (a = true ∧ b = false) ∨ (a = true ∧ b = true ∧ c = false) ∨ (a = true ∧ b = true ∧ c = true ∧ d = false) ∨ (a = true ∧ b = true ∧ c = true ∧ d = true ∧ e = false) ∨ (a = true ∧ b = true ∧ c = true ∧ d = true ∧ e = true ∧ f = false) ∨
    (a = true ∧ b = true ∧ c = true ∧ d = true ∧ e = true ∧ f = true ∧ g = false) ∨ (a = true ∧ b = true ∧ c = true ∧ d = true ∧ e = true ∧ f = true ∧ g = true ∧ h = false) ∨ (a = true ∧ b = true ∧ c = true ∧ d = true ∧ e = true ∧ f = true ∧ g = true ∧ h = true) := by
  cases a <;> cases b <;> cases c <;> cases d <;> cases e <;> cases f <;> cases g <;> cases h <;> simp

theorem held_skip {P : Program} {md : Region.Mode} {ops : Array Oper} {Q : Exit → Act → World → Prop} {S : World → Prop} (i : Nat) (d : Tmp) {oi : Oper} {fuel : Nat} {listed : Array Bool} {a : Act} {w : World} (hi : ops[i]? = some oi)
    (hs : Region.noSelect ops = true) (hf : Region.free md ops listed i = true) (hr : (Region.ready md ops listed).contains i = true) (hd : oi.dst = some d) (hQ : ∀ c a w, Q (.panic c) (a.put (some d) undef) w → Q (.panic c) a w)
    (hw : Region.wanted oi (yielded ops a.tmps) = false) (hS : S w) (h : wpAnyH P md ops Q S fuel (listed.setIfInBounds i true) (a.put (some d) undef) w) : wpAnyH P md ops Q S (fuel + 1) listed a w :=
  wpAnyH_take hi hs hf hr (by rw [hd]; exact hQ) (Or.inr ⟨hw, rfl⟩) hS (by rw [hd]; exact h)
theorem held_take {P : Program} {md : Region.Mode} {ops : Array Oper} {Q : Exit → Act → World → Prop} {S : World → Prop} (i : Nat) (d : Tmp) {oi : Oper} (v : Value) {fuel : Nat} {listed : Array Bool} {a : Act} {w : World} (hi : ops[i]? = some oi)
    (hs : Region.noSelect ops = true) (hf : Region.free md ops listed i = true) (hr : (Region.ready md ops listed).contains i = true) (hd : oi.dst = some d) (hQ : ∀ c a w, Q (.panic c) (a.put (some d) v) w → Q (.panic c) a w)
    (hw : Region.wanted oi (yielded ops a.tmps) = true) (hy : ∀ w, S w → (execOp a.eval oi).run P w = .ok (.value v) w) (hS : S w) (h : wpAnyH P md ops Q S fuel (listed.setIfInBounds i true) (a.put (some d) v) w) : wpAnyH P md ops Q S (fuel + 1) listed a w :=
  wpAnyH_take hi hs hf hr (by rw [hd]; exact hQ) (Or.inl ⟨hw, hy⟩) hS (by rw [hd]; exact h)

/-- a valid cover -/
def okCv (x : Cv) : Bool := inB x.i 1 99 && inB x.w (-20) 20 && inB x.s (-20) 20 && inB x.e (-20) 20 && inB x.n (-20) 20 && decide (x.w < x.e) && decide (x.s < x.n) && inB x.p 1 1000
def stepCv (zs : List Cv) (k : Nat) : Bool := okCv zs[k]! && (decide (k = 0) || decide (zs[k - 1]!.i < zs[k]!.i))
def coversB (zs : List Cv) : Bool := allB zs.length (stepCv zs) && decide (zs.length ≤ 10)
theorem stepCv_bad0 {zs : List Cv} {k : Nat} {x : Cv} (hx : zs[k]! = x) (h : okCv x = false) : stepCv zs k = false := by unfold stepCv; rw [hx, h]; rfl
theorem stepCv_bad {zs : List Cv} {k : Nat} {x y : Cv} (hx : zs[k]! = x) (hy : zs[k - 1]! = y) (hk : 0 < k) (hs : x.i ≤ y.i) : stepCv zs k = false := by
  unfold stepCv; rw [hx, hy]; simp; intro; omega
theorem stepCv_ok0 {zs : List Cv} {k : Nat} {x : Cv} (hx : zs[k]! = x) (h : okCv x = true) (hk : k = 0) : stepCv zs k = true := by unfold stepCv; rw [hx, h]; simp [hk]
theorem stepCv_ok1 {zs : List Cv} {k : Nat} {x y : Cv} (hx : zs[k]! = x) (hy : zs[k - 1]! = y) (h : okCv x = true) (hs : y.i < x.i) : stepCv zs k = true := by unfold stepCv; rw [hx, hy, h]; simp [hs]
theorem covers_false {zs : List Cv} {n k : Nat} (hz : zs.length = n) (hk : k < n) (h : stepCv zs k = false) : coversB zs = false := by unfold coversB; rw [hz, allB_false k hk h]; rfl
theorem covers_end {zs : List Cv} {n k : Nat} (hz : zs.length = n) (h : ∀ j, j < k → stepCv zs j = true) (hk : n ≤ k) : coversB zs = decide (n ≤ 10) := by
  unfold coversB; rw [hz, allB_true (fun j hj => h j (by omega)), Bool.true_and]
theorem covers_at {zs : List Cv} (h : coversB zs = true) {k : Nat} {x : Cv} (hx : zs[k]? = some x) : okCv x = true := by
  unfold coversB at h; simp only [Bool.and_eq_true] at h
  have := allB_at h.1 k (List.getElem?_eq_some_iff.1 hx).1
  unfold stepCv at this; rw [getB hx] at this; simp only [Bool.and_eq_true] at this; exact this.1
theorem okCv_bd {x : Cv} (h : okCv x = true) : (1 ≤ x.i ∧ x.i ≤ 99) ∧ (-20 ≤ x.w ∧ x.w < x.e ∧ x.e ≤ 20) ∧ (-20 ≤ x.s ∧ x.s < x.n ∧ x.n ≤ 20) ∧ (1 ≤ x.p ∧ x.p ≤ 1000) := by
  unfold okCv at h; simp only [Bool.and_eq_true, decide_eq_true_eq] at h
  obtain ⟨⟨⟨⟨⟨⟨⟨h1, h2⟩, h3⟩, h4⟩, h5⟩, h6⟩, h7⟩, h8⟩ := h
  have a1 := inB_iff.1 h1; have a2 := inB_iff.1 h2; have a3 := inB_iff.1 h3; have a4 := inB_iff.1 h4; have a5 := inB_iff.1 h5; have a8 := inB_iff.1 h8
  omega

theorem isCover_any (x : Cv) (w : World) : Calls Try.prog 74 #[.agg #[.int .i64 x.i, .int .i64 x.w, .int .i64 x.s, .int .i64 x.e, .int .i64 x.n, .int .i64 x.p]] w fun e w' => e = .returned (.bool (okCv x)) ∧ Below w.heap.size w w' := by
  rcases first8 (inB x.i 1 99) (inB x.w (-20) 20) (inB x.s (-20) 20) (inB x.e (-20) 20) (inB x.n (-20) 20) (decide (x.w < x.e)) (decide (x.s < x.n)) (inB x.p 1 1000) with h1 | ⟨h1, h2⟩ | ⟨h1, h2, h3⟩ | ⟨h1, h2, h3, h4⟩ | ⟨h1, h2, h3, h4, h5⟩ | ⟨h1, h2, h3, h4, h5, h6⟩ | ⟨h1, h2, h3, h4, h5, h6, h7⟩ | ⟨h1, h2, h3, h4, h5, h6, h7, h8⟩ | ⟨h1, h2, h3, h4, h5, h6, h7, h8⟩
  all_goals
    have HO := hide (show okCv x = _ from (by unfold okCv; simp only [*]; rfl))
    go_enter Try.func74, Try.ntmps74
    go_wp2_with (first | (go_at_call 86; refine (within_any _ _ _ _).mono ?_; rintro e w' ⟨rfl, rfl⟩) | (go_at_call 95; refine (isBorder_any _ _).mono ?_; rintro e w' ⟨rfl, rfl⟩))
    go_ret
    exact ⟨ret_bool HO.out.symm, (Below.refl _ _).alloc (Nat.le_refl _) _⟩

set_option maxRecDepth 100000 in
set_option maxHeartbeats 4000000 in
theorem AreCovers_any (ao : Option Addr) (n c : Nat) (zs : List Cv) (w : World) (hz : zs.length = n) (hn : n ≤ 1048576) (hr : Rd encCv 6 w.heap.size w ao zs) :
    Calls Try.prog 40 #[.slice ao n c] w fun e w' => e = .returned (.bool (coversB zs)) ∧ Below w.heap.size w w' := by
  have HZ := hide hz
  have HR := hide hr
  clear hz hr
  go_enter Try.func40, Try.ntmps40
  go_wp2
  go_loopg [7] n (fun gk i wr => ∃ k : Nat, k ≤ n ∧ n - k ≤ gk ∧ i = .int .i64 k ∧ Aside (Below w.heap.size w wr) ∧ Aside (∀ j, j < k → stepCv zs j = true))
  case atStart => exact ⟨0, Nat.zero_le _, by omega, rfl, Below.refl _ _, fun j hj => absurd hj (Nat.not_lt_zero _)⟩
  case round =>
    obtain ⟨k, hk, hg, rfl, BW, A⟩ := hrel
    by_cases hlt : k < n
    · have hlti : (k : Int) < (n : Int) := by omega
      obtain ⟨b, off, rfl, hb1, hat⟩ := rdCv HR.out (by rw [HZ.out]; omega)
      obtain ⟨x, hx, hxc⟩ := hat k (by rw [HZ.out]; exact hlt)
      have HX := hide (getB hx)
      obtain ⟨hbr, c0, c1, c2, c3, c4, c5⟩ := hxc wr BW.out
      have HAT := hide hat
      clear hx hxc hat
      go_wp2_with fail
      obtain ⟨W, hW⟩ : ∃ W, W = wr.alloc (.cells #[.int .i64 x.i, .int .i64 x.w, .int .i64 x.s, .int .i64 x.e, .int .i64 x.n, .int .i64 x.p] 60) := ⟨_, rfl⟩
      have HBW : Hid (Below w.heap.size w W) := hide (by rw [hW]; exact BW.out.alloc BW.out.size _)
      have HWW : Hid (Below wr.heap.size wr W) := hide (by rw [hW]; exact (Below.refl _ _).alloc (Nat.le_refl _) _)
      have g0 : wr.heap.size < W.heap.size := by rw [hW]; simp
      have e0 : W.cell? ⟨wr.heap.size, 0, none⟩ = some (.int .i64 x.i) := by rw [hW]; simp
      have e1 : W.cell? ⟨wr.heap.size, 1, none⟩ = some (.int .i64 x.w) := by rw [hW]; simp
      have e2 : W.cell? ⟨wr.heap.size, 2, none⟩ = some (.int .i64 x.s) := by rw [hW]; simp
      have e3 : W.cell? ⟨wr.heap.size, 3, none⟩ = some (.int .i64 x.e) := by rw [hW]; simp
      have e4 : W.cell? ⟨wr.heap.size, 4, none⟩ = some (.int .i64 x.n) := by rw [hW]; simp
      have e5 : W.cell? ⟨wr.heap.size, 5, none⟩ = some (.int .i64 x.p) := by rw [hW]; simp
      rw [← hW]
      clear hW
      clear c0 c1 c2 c3 c4 c5
      cases hq : okCv x with
      | false =>
        have HQ := hide hq
        have HF := hide (covers_false HZ.out hlt (stepCv_bad0 HX.out hq))
        clear hq
        refine wp_region_held_drew (S := fun w' => w'.cell? ⟨wr.heap.size, 0, none⟩ = some (.int .i64 x.i) ∧ w'.cell? ⟨wr.heap.size, 1, none⟩ = some (.int .i64 x.w) ∧ w'.cell? ⟨wr.heap.size, 2, none⟩ = some (.int .i64 x.s) ∧ w'.cell? ⟨wr.heap.size, 3, none⟩ = some (.int .i64 x.e) ∧ w'.cell? ⟨wr.heap.size, 4, none⟩ = some (.int .i64 x.n) ∧ w'.cell? ⟨wr.heap.size, 5, none⟩ = some (.int .i64 x.p) ∧ Below W.heap.size W w') (by kernel_rfl) ⟨e0, e1, e2, e3, e4, e5, (Below.refl _ _).drew⟩ (fun hHeld => ?_)
        first
          | (refine held_skip 0 12 rfl (by kernel_rfl) (by kernel_rfl) (by kernel_rfl) rfl (fun _ _ _ h => h) (by rfl) (by assumption) ?_)
          | (refine held_take 0 12 ?vv1 rfl (by kernel_rfl) (by kernel_rfl) (by kernel_rfl) rfl (fun _ _ _ h => h) (by rfl) ?hy1 (by assumption) ?rest1
             case hy1 => (intro w hSw; (try dsimp only at hSw); go_simp; try with_reducible rfl))
        try simp only [Act.put, List.setIfInBounds_toArray, List.set_cons_zero, List.set_cons_succ]
        refine wpAnyH_ready (rs := [1]) (by kernel_rfl) (by simp) ?_
        refine AllReadyH.cons rfl (fun K hK => ?_) AllReadyH.nil
        go_simp
        refine (isCover_any x _).mono ?_
        rintro e w2 ⟨rfl, hb⟩
        rw [HQ.out]
        go_wp2_with fail
        have hq := Below.trans hHeld.2.2.2.2.2.2 (Below.mono hb hHeld.2.2.2.2.2.2.size)
        refine hK.out _ _ ⟨(hq.cell (p := ⟨wr.heap.size, 0, none⟩) g0).trans e0, (hq.cell (p := ⟨wr.heap.size, 1, none⟩) g0).trans e1, (hq.cell (p := ⟨wr.heap.size, 2, none⟩) g0).trans e2, (hq.cell (p := ⟨wr.heap.size, 3, none⟩) g0).trans e3, (hq.cell (p := ⟨wr.heap.size, 4, none⟩) g0).trans e4, (hq.cell (p := ⟨wr.heap.size, 5, none⟩) g0).trans e5, hq⟩ (fun hHeld => ?_)
        clear hq hb hK K
        try simp only [Act.put, List.setIfInBounds_toArray, List.set_cons_zero, List.set_cons_succ]
        first
          | (refine held_skip 2 14 rfl (by kernel_rfl) (by kernel_rfl) (by kernel_rfl) rfl (fun _ _ _ h => h) (by rfl) (by assumption) ?_)
          | (refine held_take 2 14 ?vv2 rfl (by kernel_rfl) (by kernel_rfl) (by kernel_rfl) rfl (fun _ _ _ h => h) (by rfl) ?hy2 (by assumption) ?rest2
             case hy2 => (intro w hSw; (try dsimp only at hSw); go_simp; try with_reducible rfl))
        try simp only [Act.put, List.setIfInBounds_toArray, List.set_cons_zero, List.set_cons_succ]
        first
          | (refine held_skip 3 15 rfl (by kernel_rfl) (by kernel_rfl) (by kernel_rfl) rfl (fun _ _ _ h => h) (by rfl) (by assumption) ?_)
          | (refine held_take 3 15 ?vv3 rfl (by kernel_rfl) (by kernel_rfl) (by kernel_rfl) rfl (fun _ _ _ h => h) (by rfl) ?hy3 (by assumption) ?rest3
             case hy3 => (intro w hSw; (try dsimp only at hSw); go_simp; try with_reducible rfl))
        try simp only [Act.put, List.setIfInBounds_toArray, List.set_cons_zero, List.set_cons_succ]
        first
          | (refine held_skip 4 16 rfl (by kernel_rfl) (by kernel_rfl) (by kernel_rfl) rfl (fun _ _ _ h => h) (by rfl) (by assumption) ?_)
          | (refine held_take 4 16 ?vv4 rfl (by kernel_rfl) (by kernel_rfl) (by kernel_rfl) rfl (fun _ _ _ h => h) (by rfl) ?hy4 (by assumption) ?rest4
             case hy4 => (intro w hSw; (try dsimp only at hSw); go_simp; try with_reducible rfl))
        try simp only [Act.put, List.setIfInBounds_toArray, List.set_cons_zero, List.set_cons_succ]
        first
          | (refine held_skip 5 17 rfl (by kernel_rfl) (by kernel_rfl) (by kernel_rfl) rfl (fun _ _ _ h => h) (by rfl) (by assumption) ?_)
          | (refine held_take 5 17 ?vv5 rfl (by kernel_rfl) (by kernel_rfl) (by kernel_rfl) rfl (fun _ _ _ h => h) (by rfl) ?hy5 (by assumption) ?rest5
             case hy5 => (intro w hSw; (try dsimp only at hSw); go_simp; try with_reducible rfl))
        try simp only [Act.put, List.setIfInBounds_toArray, List.set_cons_zero, List.set_cons_succ]
        first
          | (refine held_skip 6 18 rfl (by kernel_rfl) (by kernel_rfl) (by kernel_rfl) rfl (fun _ _ _ h => h) (by rfl) (by assumption) ?_)
          | (refine held_take 6 18 ?vv6 rfl (by kernel_rfl) (by kernel_rfl) (by kernel_rfl) rfl (fun _ _ _ h => h) (by rfl) ?hy6 (by assumption) ?rest6
             case hy6 => (intro w hSw; (try dsimp only at hSw); go_simp; try with_reducible rfl))
        try simp only [Act.put, List.setIfInBounds_toArray, List.set_cons_zero, List.set_cons_succ]
        first
          | (refine held_skip 7 19 rfl (by kernel_rfl) (by kernel_rfl) (by kernel_rfl) rfl (fun _ _ _ h => h) (by rfl) (by assumption) ?_)
          | (refine held_take 7 19 ?vv7 rfl (by kernel_rfl) (by kernel_rfl) (by kernel_rfl) rfl (fun _ _ _ h => h) (by rfl) ?hy7 (by assumption) ?rest7
             case hy7 => (intro w hSw; (try dsimp only at hSw); go_simp; try with_reducible rfl))
        try simp only [Act.put, List.setIfInBounds_toArray, List.set_cons_zero, List.set_cons_succ]
        first
          | (refine held_skip 8 20 rfl (by kernel_rfl) (by kernel_rfl) (by kernel_rfl) rfl (fun _ _ _ h => h) (by rfl) (by assumption) ?_)
          | (refine held_take 8 20 ?vv8 rfl (by kernel_rfl) (by kernel_rfl) (by kernel_rfl) rfl (fun _ _ _ h => h) (by rfl) ?hy8 (by assumption) ?rest8
             case hy8 => (intro w hSw; (try dsimp only at hSw); go_simp; try with_reducible rfl))
        try simp only [Act.put, List.setIfInBounds_toArray, List.set_cons_zero, List.set_cons_succ]
        first
          | (refine held_skip 9 21 rfl (by kernel_rfl) (by kernel_rfl) (by kernel_rfl) rfl (fun _ _ _ h => h) (by rfl) (by assumption) ?_)
          | (refine held_take 9 21 ?vv9 rfl (by kernel_rfl) (by kernel_rfl) (by kernel_rfl) rfl (fun _ _ _ h => h) (by rfl) ?hy9 (by assumption) ?rest9
             case hy9 => (intro w hSw; (try dsimp only at hSw); go_simp; try with_reducible rfl))
        try simp only [Act.put, List.setIfInBounds_toArray, List.set_cons_zero, List.set_cons_succ]
        first
          | (refine held_skip 10 22 rfl (by kernel_rfl) (by kernel_rfl) (by kernel_rfl) rfl (fun _ _ _ h => h) (by rfl) (by assumption) ?_)
          | (refine held_take 10 22 ?vv10 rfl (by kernel_rfl) (by kernel_rfl) (by kernel_rfl) rfl (fun _ _ _ h => h) (by rfl) ?hy10 (by assumption) ?rest10
             case hy10 => (intro w hSw; (try dsimp only at hSw); go_simp; try with_reducible rfl))
        try simp only [Act.put, List.setIfInBounds_toArray, List.set_cons_zero, List.set_cons_succ]
        first
          | (refine held_skip 11 23 rfl (by kernel_rfl) (by kernel_rfl) (by kernel_rfl) rfl (fun _ _ _ h => h) (by rfl) (by assumption) ?_)
          | (refine held_take 11 23 ?vv11 rfl (by kernel_rfl) (by kernel_rfl) (by kernel_rfl) rfl (fun _ _ _ h => h) (by rfl) ?hy11 (by assumption) ?rest11
             case hy11 => (intro w hSw; (try dsimp only at hSw); go_simp; try with_reducible rfl))
        try simp only [Act.put, List.setIfInBounds_toArray, List.set_cons_zero, List.set_cons_succ]
        first
          | (refine held_skip 12 24 rfl (by kernel_rfl) (by kernel_rfl) (by kernel_rfl) rfl (fun _ _ _ h => h) (by rfl) (by assumption) ?_)
          | (refine held_take 12 24 ?vv12 rfl (by kernel_rfl) (by kernel_rfl) (by kernel_rfl) rfl (fun _ _ _ h => h) (by rfl) ?hy12 (by assumption) ?rest12
             case hy12 => (intro w hSw; (try dsimp only at hSw); go_simp; try with_reducible rfl))
        try simp only [Act.put, List.setIfInBounds_toArray, List.set_cons_zero, List.set_cons_succ]
        first
          | (refine held_skip 13 25 rfl (by kernel_rfl) (by kernel_rfl) (by kernel_rfl) rfl (fun _ _ _ h => h) (by rfl) (by assumption) ?_)
          | (refine held_take 13 25 ?vv13 rfl (by kernel_rfl) (by kernel_rfl) (by kernel_rfl) rfl (fun _ _ _ h => h) (by rfl) ?hy13 (by assumption) ?rest13
             case hy13 => (intro w hSw; (try dsimp only at hSw); go_simp; try with_reducible rfl))
        try simp only [Act.put, List.setIfInBounds_toArray, List.set_cons_zero, List.set_cons_succ]
        first
          | (refine held_skip 14 26 rfl (by kernel_rfl) (by kernel_rfl) (by kernel_rfl) rfl (fun _ _ _ h => h) (by rfl) (by assumption) ?_)
          | (refine held_take 14 26 ?vv14 rfl (by kernel_rfl) (by kernel_rfl) (by kernel_rfl) rfl (fun _ _ _ h => h) (by rfl) ?hy14 (by assumption) ?rest14
             case hy14 => (intro w hSw; (try dsimp only at hSw); go_simp; try with_reducible rfl))
        try simp only [Act.put, List.setIfInBounds_toArray, List.set_cons_zero, List.set_cons_succ]
        first
          | (refine held_skip 15 27 rfl (by kernel_rfl) (by kernel_rfl) (by kernel_rfl) rfl (fun _ _ _ h => h) (by rfl) (by assumption) ?_)
          | (refine held_take 15 27 ?vv15 rfl (by kernel_rfl) (by kernel_rfl) (by kernel_rfl) rfl (fun _ _ _ h => h) (by rfl) ?hy15 (by assumption) ?rest15
             case hy15 => (intro w hSw; (try dsimp only at hSw); go_simp; try with_reducible rfl))
        try simp only [Act.put, List.setIfInBounds_toArray, List.set_cons_zero, List.set_cons_succ]
        first
          | (refine held_skip 16 28 rfl (by kernel_rfl) (by kernel_rfl) (by kernel_rfl) rfl (fun _ _ _ h => h) (by rfl) (by assumption) ?_)
          | (refine held_take 16 28 ?vv16 rfl (by kernel_rfl) (by kernel_rfl) (by kernel_rfl) rfl (fun _ _ _ h => h) (by rfl) ?hy16 (by assumption) ?rest16
             case hy16 => (intro w hSw; (try dsimp only at hSw); go_simp; try with_reducible rfl))
        try simp only [Act.put, List.setIfInBounds_toArray, List.set_cons_zero, List.set_cons_succ]
        first
          | (refine held_skip 17 29 rfl (by kernel_rfl) (by kernel_rfl) (by kernel_rfl) rfl (fun _ _ _ h => h) (by rfl) (by assumption) ?_)
          | (refine held_take 17 29 ?vv17 rfl (by kernel_rfl) (by kernel_rfl) (by kernel_rfl) rfl (fun _ _ _ h => h) (by rfl) ?hy17 (by assumption) ?rest17
             case hy17 => (intro w hSw; (try dsimp only at hSw); go_simp; try with_reducible rfl))
        try simp only [Act.put, List.setIfInBounds_toArray, List.set_cons_zero, List.set_cons_succ]
        refine wpAnyH_done (by kernel_rfl) ?_ _
        have HB2 := hide hHeld.2.2.2.2.2.2
        clear hHeld
        go_wp2
        go_ret
        exact ⟨ret_bool HF.out.symm, HBW.out.trans (Below.mono HB2.out HBW.out.size)⟩
      | true =>
        have HQ := hide hq
        clear hq
        by_cases hk0 : k = 0
        · have k1 : decide (0 < k) = false := by simp [hk0]
          have HOK := hide (stepCv_ok0 HX.out HQ.out hk0)
          clear hk0
          refine wp_region_held_drew (S := fun w' => w'.cell? ⟨wr.heap.size, 0, none⟩ = some (.int .i64 x.i) ∧ w'.cell? ⟨wr.heap.size, 1, none⟩ = some (.int .i64 x.w) ∧ w'.cell? ⟨wr.heap.size, 2, none⟩ = some (.int .i64 x.s) ∧ w'.cell? ⟨wr.heap.size, 3, none⟩ = some (.int .i64 x.e) ∧ w'.cell? ⟨wr.heap.size, 4, none⟩ = some (.int .i64 x.n) ∧ w'.cell? ⟨wr.heap.size, 5, none⟩ = some (.int .i64 x.p) ∧ Below W.heap.size W w') (by kernel_rfl) ⟨e0, e1, e2, e3, e4, e5, (Below.refl _ _).drew⟩ (fun hHeld => ?_)
          first
            | (refine held_skip 0 12 rfl (by kernel_rfl) (by kernel_rfl) (by kernel_rfl) rfl (fun _ _ _ h => h) (by rfl) (by assumption) ?_)
            | (refine held_take 0 12 ?vv18 rfl (by kernel_rfl) (by kernel_rfl) (by kernel_rfl) rfl (fun _ _ _ h => h) (by rfl) ?hy18 (by assumption) ?rest18
               case hy18 => (intro w hSw; (try dsimp only at hSw); go_simp; try with_reducible rfl))
          try simp only [Act.put, List.setIfInBounds_toArray, List.set_cons_zero, List.set_cons_succ]
          refine wpAnyH_ready (rs := [1]) (by kernel_rfl) (by simp) ?_
          refine AllReadyH.cons rfl (fun K hK => ?_) AllReadyH.nil
          go_simp
          refine (isCover_any x _).mono ?_
          rintro e w2 ⟨rfl, hb⟩
          rw [HQ.out]
          go_wp2_with fail
          have hq := Below.trans hHeld.2.2.2.2.2.2 (Below.mono hb hHeld.2.2.2.2.2.2.size)
          refine hK.out _ _ ⟨(hq.cell (p := ⟨wr.heap.size, 0, none⟩) g0).trans e0, (hq.cell (p := ⟨wr.heap.size, 1, none⟩) g0).trans e1, (hq.cell (p := ⟨wr.heap.size, 2, none⟩) g0).trans e2, (hq.cell (p := ⟨wr.heap.size, 3, none⟩) g0).trans e3, (hq.cell (p := ⟨wr.heap.size, 4, none⟩) g0).trans e4, (hq.cell (p := ⟨wr.heap.size, 5, none⟩) g0).trans e5, hq⟩ (fun hHeld => ?_)
          clear hq hb hK K
          try simp only [Act.put, List.setIfInBounds_toArray, List.set_cons_zero, List.set_cons_succ]
          first
            | (refine held_skip 2 14 rfl (by kernel_rfl) (by kernel_rfl) (by kernel_rfl) rfl (fun _ _ _ h => h) (by rfl) (by assumption) ?_)
            | (refine held_take 2 14 ?vv19 rfl (by kernel_rfl) (by kernel_rfl) (by kernel_rfl) rfl (fun _ _ _ h => h) (by rfl) ?hy19 (by assumption) ?rest19
               case hy19 => (intro w hSw; (try dsimp only at hSw); go_simp; try with_reducible rfl))
          try simp only [Act.put, List.setIfInBounds_toArray, List.set_cons_zero, List.set_cons_succ]
          first
            | (refine held_skip 3 15 rfl (by kernel_rfl) (by kernel_rfl) (by kernel_rfl) rfl (fun _ _ _ h => h) (by rfl) (by assumption) ?_)
            | (refine held_take 3 15 ?vv20 rfl (by kernel_rfl) (by kernel_rfl) (by kernel_rfl) rfl (fun _ _ _ h => h) (by rfl) ?hy20 (by assumption) ?rest20
               case hy20 => (intro w hSw; (try dsimp only at hSw); go_simp; try with_reducible rfl))
          try simp only [Act.put, List.setIfInBounds_toArray, List.set_cons_zero, List.set_cons_succ]
          first
            | (refine held_skip 4 16 rfl (by kernel_rfl) (by kernel_rfl) (by kernel_rfl) rfl (fun _ _ _ h => h) (by rfl) (by assumption) ?_)
            | (refine held_take 4 16 ?vv21 rfl (by kernel_rfl) (by kernel_rfl) (by kernel_rfl) rfl (fun _ _ _ h => h) (by rfl) ?hy21 (by assumption) ?rest21
               case hy21 => (intro w hSw; (try dsimp only at hSw); go_simp; try with_reducible rfl))
          try simp only [Act.put, List.setIfInBounds_toArray, List.set_cons_zero, List.set_cons_succ]
          first
            | (refine held_skip 5 17 rfl (by kernel_rfl) (by kernel_rfl) (by kernel_rfl) rfl (fun _ _ _ h => h) (by rfl) (by assumption) ?_)
            | (refine held_take 5 17 ?vv22 rfl (by kernel_rfl) (by kernel_rfl) (by kernel_rfl) rfl (fun _ _ _ h => h) (by rfl) ?hy22 (by assumption) ?rest22
               case hy22 => (intro w hSw; (try dsimp only at hSw); go_simp; try with_reducible rfl))
          try simp only [Act.put, List.setIfInBounds_toArray, List.set_cons_zero, List.set_cons_succ]
          first
            | (refine held_skip 6 18 rfl (by kernel_rfl) (by kernel_rfl) (by kernel_rfl) rfl (fun _ _ _ h => h) (by rfl) (by assumption) ?_)
            | (refine held_take 6 18 ?vv23 rfl (by kernel_rfl) (by kernel_rfl) (by kernel_rfl) rfl (fun _ _ _ h => h) (by rfl) ?hy23 (by assumption) ?rest23
               case hy23 => (intro w hSw; (try dsimp only at hSw); go_simp; try with_reducible rfl))
          try simp only [Act.put, List.setIfInBounds_toArray, List.set_cons_zero, List.set_cons_succ]
          first
            | (refine held_skip 7 19 rfl (by kernel_rfl) (by kernel_rfl) (by kernel_rfl) rfl (fun _ _ _ h => h) (by rfl) (by assumption) ?_)
            | (refine held_take 7 19 ?vv24 rfl (by kernel_rfl) (by kernel_rfl) (by kernel_rfl) rfl (fun _ _ _ h => h) (by rfl) ?hy24 (by assumption) ?rest24
               case hy24 => (intro w hSw; (try dsimp only at hSw); go_simp; try with_reducible rfl))
          try simp only [Act.put, List.setIfInBounds_toArray, List.set_cons_zero, List.set_cons_succ]
          first
            | (refine held_skip 8 20 rfl (by kernel_rfl) (by kernel_rfl) (by kernel_rfl) rfl (fun _ _ _ h => h) (by rfl) (by assumption) ?_)
            | (refine held_take 8 20 ?vv25 rfl (by kernel_rfl) (by kernel_rfl) (by kernel_rfl) rfl (fun _ _ _ h => h) (by rfl) ?hy25 (by assumption) ?rest25
               case hy25 => (intro w hSw; (try dsimp only at hSw); go_simp; try with_reducible rfl))
          try simp only [Act.put, List.setIfInBounds_toArray, List.set_cons_zero, List.set_cons_succ]
          first
            | (refine held_skip 9 21 rfl (by kernel_rfl) (by kernel_rfl) (by kernel_rfl) rfl (fun _ _ _ h => h) (by rfl) (by assumption) ?_)
            | (refine held_take 9 21 ?vv26 rfl (by kernel_rfl) (by kernel_rfl) (by kernel_rfl) rfl (fun _ _ _ h => h) (by rfl) ?hy26 (by assumption) ?rest26
               case hy26 => (intro w hSw; (try dsimp only at hSw); go_simp; try with_reducible rfl))
          try simp only [Act.put, List.setIfInBounds_toArray, List.set_cons_zero, List.set_cons_succ]
          first
            | (refine held_skip 10 22 rfl (by kernel_rfl) (by kernel_rfl) (by kernel_rfl) rfl (fun _ _ _ h => h) (by rfl) (by assumption) ?_)
            | (refine held_take 10 22 ?vv27 rfl (by kernel_rfl) (by kernel_rfl) (by kernel_rfl) rfl (fun _ _ _ h => h) (by rfl) ?hy27 (by assumption) ?rest27
               case hy27 => (intro w hSw; (try dsimp only at hSw); go_simp; try with_reducible rfl))
          try simp only [Act.put, List.setIfInBounds_toArray, List.set_cons_zero, List.set_cons_succ]
          first
            | (refine held_skip 11 23 rfl (by kernel_rfl) (by kernel_rfl) (by kernel_rfl) rfl (fun _ _ _ h => h) (by rfl) (by assumption) ?_)
            | (refine held_take 11 23 ?vv28 rfl (by kernel_rfl) (by kernel_rfl) (by kernel_rfl) rfl (fun _ _ _ h => h) (by rfl) ?hy28 (by assumption) ?rest28
               case hy28 => (intro w hSw; (try dsimp only at hSw); go_simp; try with_reducible rfl))
          try simp only [Act.put, List.setIfInBounds_toArray, List.set_cons_zero, List.set_cons_succ]
          first
            | (refine held_skip 12 24 rfl (by kernel_rfl) (by kernel_rfl) (by kernel_rfl) rfl (fun _ _ _ h => h) (by rfl) (by assumption) ?_)
            | (refine held_take 12 24 ?vv29 rfl (by kernel_rfl) (by kernel_rfl) (by kernel_rfl) rfl (fun _ _ _ h => h) (by rfl) ?hy29 (by assumption) ?rest29
               case hy29 => (intro w hSw; (try dsimp only at hSw); go_simp; try with_reducible rfl))
          try simp only [Act.put, List.setIfInBounds_toArray, List.set_cons_zero, List.set_cons_succ]
          first
            | (refine held_skip 13 25 rfl (by kernel_rfl) (by kernel_rfl) (by kernel_rfl) rfl (fun _ _ _ h => h) (by rfl) (by assumption) ?_)
            | (refine held_take 13 25 ?vv30 rfl (by kernel_rfl) (by kernel_rfl) (by kernel_rfl) rfl (fun _ _ _ h => h) (by rfl) ?hy30 (by assumption) ?rest30
               case hy30 => (intro w hSw; (try dsimp only at hSw); go_simp; try with_reducible rfl))
          try simp only [Act.put, List.setIfInBounds_toArray, List.set_cons_zero, List.set_cons_succ]
          first
            | (refine held_skip 14 26 rfl (by kernel_rfl) (by kernel_rfl) (by kernel_rfl) rfl (fun _ _ _ h => h) (by rfl) (by assumption) ?_)
            | (refine held_take 14 26 ?vv31 rfl (by kernel_rfl) (by kernel_rfl) (by kernel_rfl) rfl (fun _ _ _ h => h) (by rfl) ?hy31 (by assumption) ?rest31
               case hy31 => (intro w hSw; (try dsimp only at hSw); go_simp; try with_reducible rfl))
          try simp only [Act.put, List.setIfInBounds_toArray, List.set_cons_zero, List.set_cons_succ]
          first
            | (refine held_skip 15 27 rfl (by kernel_rfl) (by kernel_rfl) (by kernel_rfl) rfl (fun _ _ _ h => h) (by rfl) (by assumption) ?_)
            | (refine held_take 15 27 ?vv32 rfl (by kernel_rfl) (by kernel_rfl) (by kernel_rfl) rfl (fun _ _ _ h => h) (by rfl) ?hy32 (by assumption) ?rest32
               case hy32 => (intro w hSw; (try dsimp only at hSw); go_simp; try with_reducible rfl))
          try simp only [Act.put, List.setIfInBounds_toArray, List.set_cons_zero, List.set_cons_succ]
          first
            | (refine held_skip 16 28 rfl (by kernel_rfl) (by kernel_rfl) (by kernel_rfl) rfl (fun _ _ _ h => h) (by rfl) (by assumption) ?_)
            | (refine held_take 16 28 ?vv33 rfl (by kernel_rfl) (by kernel_rfl) (by kernel_rfl) rfl (fun _ _ _ h => h) (by rfl) ?hy33 (by assumption) ?rest33
               case hy33 => (intro w hSw; (try dsimp only at hSw); go_simp; try with_reducible rfl))
          try simp only [Act.put, List.setIfInBounds_toArray, List.set_cons_zero, List.set_cons_succ]
          first
            | (refine held_skip 17 29 rfl (by kernel_rfl) (by kernel_rfl) (by kernel_rfl) rfl (fun _ _ _ h => h) (by rfl) (by assumption) ?_)
            | (refine held_take 17 29 ?vv34 rfl (by kernel_rfl) (by kernel_rfl) (by kernel_rfl) rfl (fun _ _ _ h => h) (by rfl) ?hy34 (by assumption) ?rest34
               case hy34 => (intro w hSw; (try dsimp only at hSw); go_simp; try with_reducible rfl))
          try simp only [Act.put, List.setIfInBounds_toArray, List.set_cons_zero, List.set_cons_succ]
          refine wpAnyH_done (by kernel_rfl) ?_ _
          have HB2 := hide hHeld.2.2.2.2.2.2
          clear hHeld
          go_wp2
          go_roundg (n - (k + 1))
          case measure => omega
          case rel => exact ⟨k + 1, by omega, by omega, by go_num, HBW.out.trans (Below.mono HB2.out HBW.out.size), upto_succ A.out HOK.out⟩
        · obtain ⟨y, hy, hyc⟩ := HAT.out (k - 1) (by rw [HZ.out]; omega)
          obtain ⟨hbW, p0, _⟩ := hyc W HBW.out
          clear hyc
          have k1 : 0 < k := by omega
          have k2 : (1 : Int) ≤ (k : Int) := by omega
          have k3 : (0 : Int) ≤ (k : Int) - 1 := by omega
          have k4 : (k : Int) - 1 < (n : Int) := by omega
          have k5 : IntKind.i64.wrap ((k : Int) - 1) = (k : Int) - 1 := IntWalk.i64_in _ (by omega)
          have k6 : ((k : Int) - 1).toNat = k - 1 := by omega
          have HY := hide (getB hy)
          clear hy
          by_cases hs : x.i ≤ y.i
          · have HF := hide (covers_false HZ.out hlt (stepCv_bad HX.out HY.out k1 hs))
            refine wp_region_held_drew (S := fun w' => w'.cell? ⟨wr.heap.size, 0, none⟩ = some (.int .i64 x.i) ∧ w'.cell? ⟨wr.heap.size, 1, none⟩ = some (.int .i64 x.w) ∧ w'.cell? ⟨wr.heap.size, 2, none⟩ = some (.int .i64 x.s) ∧ w'.cell? ⟨wr.heap.size, 3, none⟩ = some (.int .i64 x.e) ∧ w'.cell? ⟨wr.heap.size, 4, none⟩ = some (.int .i64 x.n) ∧ w'.cell? ⟨wr.heap.size, 5, none⟩ = some (.int .i64 x.p) ∧ w'.cell? ⟨b, off + (k - 1) * 6, none⟩ = some (.int .i64 y.i) ∧ Below W.heap.size W w') (by kernel_rfl) ⟨e0, e1, e2, e3, e4, e5, p0, (Below.refl _ _).drew⟩ (fun hHeld => ?_)
            first
              | (refine held_skip 0 12 rfl (by kernel_rfl) (by kernel_rfl) (by kernel_rfl) rfl (fun _ _ _ h => h) (by rfl) (by assumption) ?_)
              | (refine held_take 0 12 ?vv35 rfl (by kernel_rfl) (by kernel_rfl) (by kernel_rfl) rfl (fun _ _ _ h => h) (by rfl) ?hy35 (by assumption) ?rest35
                 case hy35 => (intro w hSw; (try dsimp only at hSw); go_simp; try with_reducible rfl))
            try simp only [Act.put, List.setIfInBounds_toArray, List.set_cons_zero, List.set_cons_succ]
            refine wpAnyH_ready (rs := [1]) (by kernel_rfl) (by simp) ?_
            refine AllReadyH.cons rfl (fun K hK => ?_) AllReadyH.nil
            go_simp
            refine (isCover_any x _).mono ?_
            rintro e w2 ⟨rfl, hb⟩
            rw [HQ.out]
            go_wp2_with fail
            have hq := Below.trans hHeld.2.2.2.2.2.2.2 (Below.mono hb hHeld.2.2.2.2.2.2.2.size)
            refine hK.out _ _ ⟨(hq.cell (p := ⟨wr.heap.size, 0, none⟩) g0).trans e0, (hq.cell (p := ⟨wr.heap.size, 1, none⟩) g0).trans e1, (hq.cell (p := ⟨wr.heap.size, 2, none⟩) g0).trans e2, (hq.cell (p := ⟨wr.heap.size, 3, none⟩) g0).trans e3, (hq.cell (p := ⟨wr.heap.size, 4, none⟩) g0).trans e4, (hq.cell (p := ⟨wr.heap.size, 5, none⟩) g0).trans e5, (hq.cell (p := ⟨b, off + (k - 1) * 6, none⟩) hbW).trans p0, hq⟩ (fun hHeld => ?_)
            clear hq hb hK K
            try simp only [Act.put, List.setIfInBounds_toArray, List.set_cons_zero, List.set_cons_succ]
            first
              | (refine held_skip 2 14 rfl (by kernel_rfl) (by kernel_rfl) (by kernel_rfl) rfl (fun _ _ _ h => h) (by rfl) (by assumption) ?_)
              | (refine held_take 2 14 ?vv36 rfl (by kernel_rfl) (by kernel_rfl) (by kernel_rfl) rfl (fun _ _ _ h => h) (by rfl) ?hy36 (by assumption) ?rest36
                 case hy36 => (intro w hSw; (try dsimp only at hSw); go_simp; try with_reducible rfl))
            try simp only [Act.put, List.setIfInBounds_toArray, List.set_cons_zero, List.set_cons_succ]
            first
              | (refine held_skip 3 15 rfl (by kernel_rfl) (by kernel_rfl) (by kernel_rfl) rfl (fun _ _ _ h => h) (by rfl) (by assumption) ?_)
              | (refine held_take 3 15 ?vv37 rfl (by kernel_rfl) (by kernel_rfl) (by kernel_rfl) rfl (fun _ _ _ h => h) (by rfl) ?hy37 (by assumption) ?rest37
                 case hy37 => (intro w hSw; (try dsimp only at hSw); go_simp; try with_reducible rfl))
            try simp only [Act.put, List.setIfInBounds_toArray, List.set_cons_zero, List.set_cons_succ]
            first
              | (refine held_skip 4 16 rfl (by kernel_rfl) (by kernel_rfl) (by kernel_rfl) rfl (fun _ _ _ h => h) (by rfl) (by assumption) ?_)
              | (refine held_take 4 16 ?vv38 rfl (by kernel_rfl) (by kernel_rfl) (by kernel_rfl) rfl (fun _ _ _ h => h) (by rfl) ?hy38 (by assumption) ?rest38
                 case hy38 => (intro w hSw; (try dsimp only at hSw); go_simp; try with_reducible rfl))
            try simp only [Act.put, List.setIfInBounds_toArray, List.set_cons_zero, List.set_cons_succ]
            first
              | (refine held_skip 5 17 rfl (by kernel_rfl) (by kernel_rfl) (by kernel_rfl) rfl (fun _ _ _ h => h) (by rfl) (by assumption) ?_)
              | (refine held_take 5 17 ?vv39 rfl (by kernel_rfl) (by kernel_rfl) (by kernel_rfl) rfl (fun _ _ _ h => h) (by rfl) ?hy39 (by assumption) ?rest39
                 case hy39 => (intro w hSw; (try dsimp only at hSw); go_simp; try with_reducible rfl))
            try simp only [Act.put, List.setIfInBounds_toArray, List.set_cons_zero, List.set_cons_succ]
            first
              | (refine held_skip 6 18 rfl (by kernel_rfl) (by kernel_rfl) (by kernel_rfl) rfl (fun _ _ _ h => h) (by rfl) (by assumption) ?_)
              | (refine held_take 6 18 ?vv40 rfl (by kernel_rfl) (by kernel_rfl) (by kernel_rfl) rfl (fun _ _ _ h => h) (by rfl) ?hy40 (by assumption) ?rest40
                 case hy40 => (intro w hSw; (try dsimp only at hSw); go_simp; try with_reducible rfl))
            try simp only [Act.put, List.setIfInBounds_toArray, List.set_cons_zero, List.set_cons_succ]
            first
              | (refine held_skip 7 19 rfl (by kernel_rfl) (by kernel_rfl) (by kernel_rfl) rfl (fun _ _ _ h => h) (by rfl) (by assumption) ?_)
              | (refine held_take 7 19 ?vv41 rfl (by kernel_rfl) (by kernel_rfl) (by kernel_rfl) rfl (fun _ _ _ h => h) (by rfl) ?hy41 (by assumption) ?rest41
                 case hy41 => (intro w hSw; (try dsimp only at hSw); go_simp; try with_reducible rfl))
            try simp only [Act.put, List.setIfInBounds_toArray, List.set_cons_zero, List.set_cons_succ]
            first
              | (refine held_skip 8 20 rfl (by kernel_rfl) (by kernel_rfl) (by kernel_rfl) rfl (fun _ _ _ h => h) (by rfl) (by assumption) ?_)
              | (refine held_take 8 20 ?vv42 rfl (by kernel_rfl) (by kernel_rfl) (by kernel_rfl) rfl (fun _ _ _ h => h) (by rfl) ?hy42 (by assumption) ?rest42
                 case hy42 => (intro w hSw; (try dsimp only at hSw); go_simp; try with_reducible rfl))
            try simp only [Act.put, List.setIfInBounds_toArray, List.set_cons_zero, List.set_cons_succ]
            first
              | (refine held_skip 9 21 rfl (by kernel_rfl) (by kernel_rfl) (by kernel_rfl) rfl (fun _ _ _ h => h) (by rfl) (by assumption) ?_)
              | (refine held_take 9 21 ?vv43 rfl (by kernel_rfl) (by kernel_rfl) (by kernel_rfl) rfl (fun _ _ _ h => h) (by rfl) ?hy43 (by assumption) ?rest43
                 case hy43 => (intro w hSw; (try dsimp only at hSw); go_simp; try with_reducible rfl))
            try simp only [Act.put, List.setIfInBounds_toArray, List.set_cons_zero, List.set_cons_succ]
            first
              | (refine held_skip 10 22 rfl (by kernel_rfl) (by kernel_rfl) (by kernel_rfl) rfl (fun _ _ _ h => h) (by rfl) (by assumption) ?_)
              | (refine held_take 10 22 ?vv44 rfl (by kernel_rfl) (by kernel_rfl) (by kernel_rfl) rfl (fun _ _ _ h => h) (by rfl) ?hy44 (by assumption) ?rest44
                 case hy44 => (intro w hSw; (try dsimp only at hSw); go_simp; try with_reducible rfl))
            try simp only [Act.put, List.setIfInBounds_toArray, List.set_cons_zero, List.set_cons_succ]
            first
              | (refine held_skip 11 23 rfl (by kernel_rfl) (by kernel_rfl) (by kernel_rfl) rfl (fun _ _ _ h => h) (by rfl) (by assumption) ?_)
              | (refine held_take 11 23 ?vv45 rfl (by kernel_rfl) (by kernel_rfl) (by kernel_rfl) rfl (fun _ _ _ h => h) (by rfl) ?hy45 (by assumption) ?rest45
                 case hy45 => (intro w hSw; (try dsimp only at hSw); go_simp; try with_reducible rfl))
            try simp only [Act.put, List.setIfInBounds_toArray, List.set_cons_zero, List.set_cons_succ]
            first
              | (refine held_skip 12 24 rfl (by kernel_rfl) (by kernel_rfl) (by kernel_rfl) rfl (fun _ _ _ h => h) (by rfl) (by assumption) ?_)
              | (refine held_take 12 24 ?vv46 rfl (by kernel_rfl) (by kernel_rfl) (by kernel_rfl) rfl (fun _ _ _ h => h) (by rfl) ?hy46 (by assumption) ?rest46
                 case hy46 => (intro w hSw; (try dsimp only at hSw); go_simp; try with_reducible rfl))
            try simp only [Act.put, List.setIfInBounds_toArray, List.set_cons_zero, List.set_cons_succ]
            first
              | (refine held_skip 13 25 rfl (by kernel_rfl) (by kernel_rfl) (by kernel_rfl) rfl (fun _ _ _ h => h) (by rfl) (by assumption) ?_)
              | (refine held_take 13 25 ?vv47 rfl (by kernel_rfl) (by kernel_rfl) (by kernel_rfl) rfl (fun _ _ _ h => h) (by rfl) ?hy47 (by assumption) ?rest47
                 case hy47 => (intro w hSw; (try dsimp only at hSw); go_simp; try with_reducible rfl))
            try simp only [Act.put, List.setIfInBounds_toArray, List.set_cons_zero, List.set_cons_succ]
            first
              | (refine held_skip 14 26 rfl (by kernel_rfl) (by kernel_rfl) (by kernel_rfl) rfl (fun _ _ _ h => h) (by rfl) (by assumption) ?_)
              | (refine held_take 14 26 ?vv48 rfl (by kernel_rfl) (by kernel_rfl) (by kernel_rfl) rfl (fun _ _ _ h => h) (by rfl) ?hy48 (by assumption) ?rest48
                 case hy48 => (intro w hSw; (try dsimp only at hSw); go_simp; try with_reducible rfl))
            try simp only [Act.put, List.setIfInBounds_toArray, List.set_cons_zero, List.set_cons_succ]
            first
              | (refine held_skip 15 27 rfl (by kernel_rfl) (by kernel_rfl) (by kernel_rfl) rfl (fun _ _ _ h => h) (by rfl) (by assumption) ?_)
              | (refine held_take 15 27 ?vv49 rfl (by kernel_rfl) (by kernel_rfl) (by kernel_rfl) rfl (fun _ _ _ h => h) (by rfl) ?hy49 (by assumption) ?rest49
                 case hy49 => (intro w hSw; (try dsimp only at hSw); go_simp; try with_reducible rfl))
            try simp only [Act.put, List.setIfInBounds_toArray, List.set_cons_zero, List.set_cons_succ]
            first
              | (refine held_skip 16 28 rfl (by kernel_rfl) (by kernel_rfl) (by kernel_rfl) rfl (fun _ _ _ h => h) (by rfl) (by assumption) ?_)
              | (refine held_take 16 28 ?vv50 rfl (by kernel_rfl) (by kernel_rfl) (by kernel_rfl) rfl (fun _ _ _ h => h) (by rfl) ?hy50 (by assumption) ?rest50
                 case hy50 => (intro w hSw; (try dsimp only at hSw); go_simp; try with_reducible rfl))
            try simp only [Act.put, List.setIfInBounds_toArray, List.set_cons_zero, List.set_cons_succ]
            first
              | (refine held_skip 17 29 rfl (by kernel_rfl) (by kernel_rfl) (by kernel_rfl) rfl (fun _ _ _ h => h) (by rfl) (by assumption) ?_)
              | (refine held_take 17 29 ?vv51 rfl (by kernel_rfl) (by kernel_rfl) (by kernel_rfl) rfl (fun _ _ _ h => h) (by rfl) ?hy51 (by assumption) ?rest51
                 case hy51 => (intro w hSw; (try dsimp only at hSw); go_simp; try with_reducible rfl))
            try simp only [Act.put, List.setIfInBounds_toArray, List.set_cons_zero, List.set_cons_succ]
            refine wpAnyH_done (by kernel_rfl) ?_ _
            have HB2 := hide hHeld.2.2.2.2.2.2.2
            clear hHeld
            go_wp2
            go_ret
            exact ⟨ret_bool HF.out.symm, HBW.out.trans (Below.mono HB2.out HBW.out.size)⟩
          · have HOK := hide (stepCv_ok1 HX.out HY.out HQ.out (Int.not_le.1 hs))
            refine wp_region_held_drew (S := fun w' => w'.cell? ⟨wr.heap.size, 0, none⟩ = some (.int .i64 x.i) ∧ w'.cell? ⟨wr.heap.size, 1, none⟩ = some (.int .i64 x.w) ∧ w'.cell? ⟨wr.heap.size, 2, none⟩ = some (.int .i64 x.s) ∧ w'.cell? ⟨wr.heap.size, 3, none⟩ = some (.int .i64 x.e) ∧ w'.cell? ⟨wr.heap.size, 4, none⟩ = some (.int .i64 x.n) ∧ w'.cell? ⟨wr.heap.size, 5, none⟩ = some (.int .i64 x.p) ∧ w'.cell? ⟨b, off + (k - 1) * 6, none⟩ = some (.int .i64 y.i) ∧ Below W.heap.size W w') (by kernel_rfl) ⟨e0, e1, e2, e3, e4, e5, p0, (Below.refl _ _).drew⟩ (fun hHeld => ?_)
            first
              | (refine held_skip 0 12 rfl (by kernel_rfl) (by kernel_rfl) (by kernel_rfl) rfl (fun _ _ _ h => h) (by rfl) (by assumption) ?_)
              | (refine held_take 0 12 ?vv52 rfl (by kernel_rfl) (by kernel_rfl) (by kernel_rfl) rfl (fun _ _ _ h => h) (by rfl) ?hy52 (by assumption) ?rest52
                 case hy52 => (intro w hSw; (try dsimp only at hSw); go_simp; try with_reducible rfl))
            try simp only [Act.put, List.setIfInBounds_toArray, List.set_cons_zero, List.set_cons_succ]
            refine wpAnyH_ready (rs := [1]) (by kernel_rfl) (by simp) ?_
            refine AllReadyH.cons rfl (fun K hK => ?_) AllReadyH.nil
            go_simp
            refine (isCover_any x _).mono ?_
            rintro e w2 ⟨rfl, hb⟩
            rw [HQ.out]
            go_wp2_with fail
            have hq := Below.trans hHeld.2.2.2.2.2.2.2 (Below.mono hb hHeld.2.2.2.2.2.2.2.size)
            refine hK.out _ _ ⟨(hq.cell (p := ⟨wr.heap.size, 0, none⟩) g0).trans e0, (hq.cell (p := ⟨wr.heap.size, 1, none⟩) g0).trans e1, (hq.cell (p := ⟨wr.heap.size, 2, none⟩) g0).trans e2, (hq.cell (p := ⟨wr.heap.size, 3, none⟩) g0).trans e3, (hq.cell (p := ⟨wr.heap.size, 4, none⟩) g0).trans e4, (hq.cell (p := ⟨wr.heap.size, 5, none⟩) g0).trans e5, (hq.cell (p := ⟨b, off + (k - 1) * 6, none⟩) hbW).trans p0, hq⟩ (fun hHeld => ?_)
            clear hq hb hK K
            try simp only [Act.put, List.setIfInBounds_toArray, List.set_cons_zero, List.set_cons_succ]
            first
              | (refine held_skip 2 14 rfl (by kernel_rfl) (by kernel_rfl) (by kernel_rfl) rfl (fun _ _ _ h => h) (by rfl) (by assumption) ?_)
              | (refine held_take 2 14 ?vv53 rfl (by kernel_rfl) (by kernel_rfl) (by kernel_rfl) rfl (fun _ _ _ h => h) (by rfl) ?hy53 (by assumption) ?rest53
                 case hy53 => (intro w hSw; (try dsimp only at hSw); go_simp; try with_reducible rfl))
            try simp only [Act.put, List.setIfInBounds_toArray, List.set_cons_zero, List.set_cons_succ]
            first
              | (refine held_skip 3 15 rfl (by kernel_rfl) (by kernel_rfl) (by kernel_rfl) rfl (fun _ _ _ h => h) (by rfl) (by assumption) ?_)
              | (refine held_take 3 15 ?vv54 rfl (by kernel_rfl) (by kernel_rfl) (by kernel_rfl) rfl (fun _ _ _ h => h) (by rfl) ?hy54 (by assumption) ?rest54
                 case hy54 => (intro w hSw; (try dsimp only at hSw); go_simp; try with_reducible rfl))
            try simp only [Act.put, List.setIfInBounds_toArray, List.set_cons_zero, List.set_cons_succ]
            first
              | (refine held_skip 4 16 rfl (by kernel_rfl) (by kernel_rfl) (by kernel_rfl) rfl (fun _ _ _ h => h) (by rfl) (by assumption) ?_)
              | (refine held_take 4 16 ?vv55 rfl (by kernel_rfl) (by kernel_rfl) (by kernel_rfl) rfl (fun _ _ _ h => h) (by rfl) ?hy55 (by assumption) ?rest55
                 case hy55 => (intro w hSw; (try dsimp only at hSw); go_simp; try with_reducible rfl))
            try simp only [Act.put, List.setIfInBounds_toArray, List.set_cons_zero, List.set_cons_succ]
            first
              | (refine held_skip 5 17 rfl (by kernel_rfl) (by kernel_rfl) (by kernel_rfl) rfl (fun _ _ _ h => h) (by rfl) (by assumption) ?_)
              | (refine held_take 5 17 ?vv56 rfl (by kernel_rfl) (by kernel_rfl) (by kernel_rfl) rfl (fun _ _ _ h => h) (by rfl) ?hy56 (by assumption) ?rest56
                 case hy56 => (intro w hSw; (try dsimp only at hSw); go_simp; try with_reducible rfl))
            try simp only [Act.put, List.setIfInBounds_toArray, List.set_cons_zero, List.set_cons_succ]
            first
              | (refine held_skip 6 18 rfl (by kernel_rfl) (by kernel_rfl) (by kernel_rfl) rfl (fun _ _ _ h => h) (by rfl) (by assumption) ?_)
              | (refine held_take 6 18 ?vv57 rfl (by kernel_rfl) (by kernel_rfl) (by kernel_rfl) rfl (fun _ _ _ h => h) (by rfl) ?hy57 (by assumption) ?rest57
                 case hy57 => (intro w hSw; (try dsimp only at hSw); go_simp; try with_reducible rfl))
            try simp only [Act.put, List.setIfInBounds_toArray, List.set_cons_zero, List.set_cons_succ]
            first
              | (refine held_skip 7 19 rfl (by kernel_rfl) (by kernel_rfl) (by kernel_rfl) rfl (fun _ _ _ h => h) (by rfl) (by assumption) ?_)
              | (refine held_take 7 19 ?vv58 rfl (by kernel_rfl) (by kernel_rfl) (by kernel_rfl) rfl (fun _ _ _ h => h) (by rfl) ?hy58 (by assumption) ?rest58
                 case hy58 => (intro w hSw; (try dsimp only at hSw); go_simp; try with_reducible rfl))
            try simp only [Act.put, List.setIfInBounds_toArray, List.set_cons_zero, List.set_cons_succ]
            first
              | (refine held_skip 8 20 rfl (by kernel_rfl) (by kernel_rfl) (by kernel_rfl) rfl (fun _ _ _ h => h) (by rfl) (by assumption) ?_)
              | (refine held_take 8 20 ?vv59 rfl (by kernel_rfl) (by kernel_rfl) (by kernel_rfl) rfl (fun _ _ _ h => h) (by rfl) ?hy59 (by assumption) ?rest59
                 case hy59 => (intro w hSw; (try dsimp only at hSw); go_simp; try with_reducible rfl))
            try simp only [Act.put, List.setIfInBounds_toArray, List.set_cons_zero, List.set_cons_succ]
            first
              | (refine held_skip 9 21 rfl (by kernel_rfl) (by kernel_rfl) (by kernel_rfl) rfl (fun _ _ _ h => h) (by rfl) (by assumption) ?_)
              | (refine held_take 9 21 ?vv60 rfl (by kernel_rfl) (by kernel_rfl) (by kernel_rfl) rfl (fun _ _ _ h => h) (by rfl) ?hy60 (by assumption) ?rest60
                 case hy60 => (intro w hSw; (try dsimp only at hSw); go_simp; try with_reducible rfl))
            try simp only [Act.put, List.setIfInBounds_toArray, List.set_cons_zero, List.set_cons_succ]
            first
              | (refine held_skip 10 22 rfl (by kernel_rfl) (by kernel_rfl) (by kernel_rfl) rfl (fun _ _ _ h => h) (by rfl) (by assumption) ?_)
              | (refine held_take 10 22 ?vv61 rfl (by kernel_rfl) (by kernel_rfl) (by kernel_rfl) rfl (fun _ _ _ h => h) (by rfl) ?hy61 (by assumption) ?rest61
                 case hy61 => (intro w hSw; (try dsimp only at hSw); go_simp; try with_reducible rfl))
            try simp only [Act.put, List.setIfInBounds_toArray, List.set_cons_zero, List.set_cons_succ]
            first
              | (refine held_skip 11 23 rfl (by kernel_rfl) (by kernel_rfl) (by kernel_rfl) rfl (fun _ _ _ h => h) (by rfl) (by assumption) ?_)
              | (refine held_take 11 23 ?vv62 rfl (by kernel_rfl) (by kernel_rfl) (by kernel_rfl) rfl (fun _ _ _ h => h) (by rfl) ?hy62 (by assumption) ?rest62
                 case hy62 => (intro w hSw; (try dsimp only at hSw); go_simp; try with_reducible rfl))
            try simp only [Act.put, List.setIfInBounds_toArray, List.set_cons_zero, List.set_cons_succ]
            first
              | (refine held_skip 12 24 rfl (by kernel_rfl) (by kernel_rfl) (by kernel_rfl) rfl (fun _ _ _ h => h) (by rfl) (by assumption) ?_)
              | (refine held_take 12 24 ?vv63 rfl (by kernel_rfl) (by kernel_rfl) (by kernel_rfl) rfl (fun _ _ _ h => h) (by rfl) ?hy63 (by assumption) ?rest63
                 case hy63 => (intro w hSw; (try dsimp only at hSw); go_simp; try with_reducible rfl))
            try simp only [Act.put, List.setIfInBounds_toArray, List.set_cons_zero, List.set_cons_succ]
            first
              | (refine held_skip 13 25 rfl (by kernel_rfl) (by kernel_rfl) (by kernel_rfl) rfl (fun _ _ _ h => h) (by rfl) (by assumption) ?_)
              | (refine held_take 13 25 ?vv64 rfl (by kernel_rfl) (by kernel_rfl) (by kernel_rfl) rfl (fun _ _ _ h => h) (by rfl) ?hy64 (by assumption) ?rest64
                 case hy64 => (intro w hSw; (try dsimp only at hSw); go_simp; try with_reducible rfl))
            try simp only [Act.put, List.setIfInBounds_toArray, List.set_cons_zero, List.set_cons_succ]
            first
              | (refine held_skip 14 26 rfl (by kernel_rfl) (by kernel_rfl) (by kernel_rfl) rfl (fun _ _ _ h => h) (by rfl) (by assumption) ?_)
              | (refine held_take 14 26 ?vv65 rfl (by kernel_rfl) (by kernel_rfl) (by kernel_rfl) rfl (fun _ _ _ h => h) (by rfl) ?hy65 (by assumption) ?rest65
                 case hy65 => (intro w hSw; (try dsimp only at hSw); go_simp; try with_reducible rfl))
            try simp only [Act.put, List.setIfInBounds_toArray, List.set_cons_zero, List.set_cons_succ]
            first
              | (refine held_skip 15 27 rfl (by kernel_rfl) (by kernel_rfl) (by kernel_rfl) rfl (fun _ _ _ h => h) (by rfl) (by assumption) ?_)
              | (refine held_take 15 27 ?vv66 rfl (by kernel_rfl) (by kernel_rfl) (by kernel_rfl) rfl (fun _ _ _ h => h) (by rfl) ?hy66 (by assumption) ?rest66
                 case hy66 => (intro w hSw; (try dsimp only at hSw); go_simp; try with_reducible rfl))
            try simp only [Act.put, List.setIfInBounds_toArray, List.set_cons_zero, List.set_cons_succ]
            first
              | (refine held_skip 16 28 rfl (by kernel_rfl) (by kernel_rfl) (by kernel_rfl) rfl (fun _ _ _ h => h) (by rfl) (by assumption) ?_)
              | (refine held_take 16 28 ?vv67 rfl (by kernel_rfl) (by kernel_rfl) (by kernel_rfl) rfl (fun _ _ _ h => h) (by rfl) ?hy67 (by assumption) ?rest67
                 case hy67 => (intro w hSw; (try dsimp only at hSw); go_simp; try with_reducible rfl))
            try simp only [Act.put, List.setIfInBounds_toArray, List.set_cons_zero, List.set_cons_succ]
            first
              | (refine held_skip 17 29 rfl (by kernel_rfl) (by kernel_rfl) (by kernel_rfl) rfl (fun _ _ _ h => h) (by rfl) (by assumption) ?_)
              | (refine held_take 17 29 ?vv68 rfl (by kernel_rfl) (by kernel_rfl) (by kernel_rfl) rfl (fun _ _ _ h => h) (by rfl) ?hy68 (by assumption) ?rest68
                 case hy68 => (intro w hSw; (try dsimp only at hSw); go_simp; try with_reducible rfl))
            try simp only [Act.put, List.setIfInBounds_toArray, List.set_cons_zero, List.set_cons_succ]
            refine wpAnyH_done (by kernel_rfl) ?_ _
            have HB2 := hide hHeld.2.2.2.2.2.2.2
            clear hHeld
            go_wp2
            go_roundg (n - (k + 1))
            case measure => omega
            case rel => exact ⟨k + 1, by omega, by omega, by go_num, HBW.out.trans (Below.mono HB2.out HBW.out.size), upto_succ A.out HOK.out⟩
    · have hge : ¬ (k : Int) < (n : Int) := by omega
      go_wp2
      go_ret
      exact ⟨ret_bool (by rw [covers_end HZ.out A.out (by omega), Bool.eq_iff_iff]; simp; omega), BW.out⟩

end Go.Proofs.Ytpdfbijfklmonaa
