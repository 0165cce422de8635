/- IsRoute and its reference. -/
import Derived.Test.YtpmghdhgnehphaaDoorSmall
import Derived.Test.YtpmghdhgnehphaaDoorFLeg
namespace Go.Proofs.YtpmghdhgnehphaaDoor
open Go.RowKit

set_option maxRecDepth 100000 in
/-- slices.IndexFunc on Leg, at a closure that only reads and makes memory of its own -/
theorem IndexFuncLeg_any (g : Nat) (lb : Array Value) (p : Lg → Bool) (eg : ∀ args w, (callFunc g args).run Tryd.prog w = .ok (.enter g args) w) (ao : Option Addr) (n c : Nat) (zs : List Lg) (w : World) (hz : zs.length = n) (hn : n ≤ 1048576) (hr : Rd encLg 3 w.heap.size w ao zs)
    (hp : ∀ (W : World) (x : Lg), Below w.heap.size w W → Calls Tryd.prog g (#[.agg #[.int .i64 x.w, .int .i64 x.u, .int .i64 x.c]] ++ lb) W fun e w' => e = .returned (.bool (p x)) ∧ Below W.heap.size W w') :
    Calls Tryd.prog 26 #[.slice ao n c, .func (.func g) #[] lb] w fun e w' => e = .returned (.int .i64 (idxB p zs)) ∧ Below w.heap.size w w' := by
  have HZ := hide hz
  have HR := hide hr
  have HP := hide hp
  clear hz hr hp
  go_enter Tryd.func26, Tryd.ntmps26
  go_wp2
  go_loopg [5, 8] n (fun gk _ i wr => ∃ k : Nat, k ≤ n ∧ n - k ≤ gk ∧ i = .int .i64 k ∧ Aside (Below w.heap.size w wr) ∧ Aside (∀ j, j < k → ∀ y, zs[j]? = some y → p y = false))
  case atStart => exact ⟨0, Nat.zero_le _, by omega, rfl, Below.refl _ w, fun j hj => absurd hj (Nat.not_lt_zero _)⟩
  case round =>
    obtain ⟨k, hk, hg, rfl, BW, A⟩ := hrel
    by_cases hlt : k < n
    · have hltz : (k : Int) < (n : Int) := by omega
      obtain ⟨b, off, rfl, hb1, hat⟩ := rdLg HR.out (by rw [HZ.out]; omega)
      obtain ⟨x, hx, hxc⟩ := hat k (by rw [HZ.out]; exact hlt)
      have HX := hide hx
      obtain ⟨hbr, c0, c1, c2⟩ := hxc wr BW.out
      have hcall := HP.out wr x BW.out
      clear hx hxc hat
      cases hq : p x with
      | true =>
        rw [hq] at hcall
        have HQ := hide hq
        clear hq
        go_wp2_with fail
        refine hcall.mono ?_
        rintro e w' ⟨rfl, hb'⟩
        have HB' := hide hb'
        clear hb'
        go_wp2
        go_ret
        exact ⟨ret_int (idx_hit HX.out HQ.out A.out).1.symm, BW.out.trans (HB'.out.mono BW.out.size)⟩
      | false =>
        rw [hq] at hcall
        have HQ := hide hq
        clear hq
        go_wp2_with fail
        refine hcall.mono ?_
        rintro e w' ⟨rfl, hb'⟩
        have HB' := hide hb'
        clear hb'
        go_wp2
        go_roundg (n - (k + 1))
        case measure => omega
        case rel => exact ⟨k + 1, by omega, by omega, by go_num, BW.out.trans (HB'.out.mono BW.out.size), none_succ A.out HX.out HQ.out⟩
    · have hltz : ¬ (k : Int) < (n : Int) := by omega
      go_wp2
      go_ret
      exact ⟨ret_int (idx_miss fun j y hy => A.out j (by have := (List.getElem?_eq_some_iff.1 hy).1; rw [HZ.out] at this; omega) y hy).1.symm, BW.out⟩

/-- slices.ContainsFunc on Leg: asks IndexFunc -/
theorem ContainsFuncLeg_any (g : Nat) (lb : Array Value) (p : Lg → Bool) (eg : ∀ args w, (callFunc g args).run Tryd.prog w = .ok (.enter g args) w) (ao : Option Addr) (n c : Nat) (zs : List Lg) (w : World) (hz : zs.length = n) (hn : n ≤ 1048576) (hr : Rd encLg 3 w.heap.size w ao zs)
    (hp : ∀ (W : World) (x : Lg), Below w.heap.size w W → Calls Tryd.prog g (#[.agg #[.int .i64 x.w, .int .i64 x.u, .int .i64 x.c]] ++ lb) W fun e w' => e = .returned (.bool (p x)) ∧ Below W.heap.size W w') :
    Calls Tryd.prog 18 #[.slice ao n c, .func (.func g) #[] lb] w fun e w' => e = .returned (.bool (decide (0 ≤ idxB p zs))) ∧ Below w.heap.size w w' := by
  have H := hide (IndexFuncLeg_any g lb p eg ao n c zs w hz hn hr hp)
  clear hz hr hp eg
  go_enter Tryd.func18, Tryd.ntmps18
  go_wp2_with fail
  refine H.out.mono ?_
  rintro e w' ⟨rfl, hb⟩
  go_wp2
  go_ret
  exact ⟨rfl, hb⟩

def okLeg (x : Lg) : Bool := inB x.w 0 7 && inB x.u 1 999 && inB x.c (-999) 999
/-- a route: what both answer -/
def routeB (zs : List Lg) : Bool := allB zs.length (fun k => okLeg zs[k]!) && decide (zs.length ≤ 12)
theorem route_bad {zs : List Lg} {n k : Nat} {x : Lg} (hz : zs.length = n) (hk : k < n) (hx : zs[k]! = x) (h : okLeg x = false) : routeB zs = false := by
  unfold routeB; rw [hz, allB_false (p := fun k => okLeg zs[k]!) k hk (by simp only [hx, h])]; rfl
theorem route_len {zs : List Lg} {n : Nat} (hz : zs.length = n) (h : ¬ n ≤ 12) : routeB zs = false := by unfold routeB; rw [hz]; simp [h]
theorem route_end {zs : List Lg} {n : Nat} (hz : zs.length = n) (h : ∀ j, j < n → okLeg zs[j]! = true) : routeB zs = decide (n ≤ 12) := by
  unfold routeB; rw [hz, allB_true (p := fun k => okLeg zs[k]!) h, Bool.true_and]
theorem route_at {zs : List Lg} (h : routeB zs = true) {k : Nat} {x : Lg} (hx : zs[k]? = some x) : okLeg x = true := by
  unfold routeB at h; simp only [Bool.and_eq_true] at h
  have := allB_at h.1 k (List.getElem?_eq_some_iff.1 hx).1
  simp only [getB hx] at this; exact this
theorem route_bd {zs : List Lg} (h : routeB zs = true) {k : Nat} {x : Lg} (hx : zs[k]? = some x) : (0 ≤ x.w ∧ x.w ≤ 7) ∧ (1 ≤ x.u ∧ x.u ≤ 999) ∧ (-999 ≤ x.c ∧ x.c ≤ 999) := by
  have := route_at h hx
  unfold okLeg at this; simp only [Bool.and_eq_true] at this
  exact ⟨inB_iff.1 this.1.1, inB_iff.1 this.1.2, inB_iff.1 this.2⟩
theorem route_12 {zs : List Lg} (h : routeB zs = true) : zs.length ≤ 12 := by unfold routeB at h; simp only [Bool.and_eq_true, decide_eq_true_eq] at h; exact h.2
theorem isLeg_any (x : Lg) (w : World) : Calls Tryd.prog 20 #[.agg #[.int .i64 x.w, .int .i64 x.u, .int .i64 x.c]] w fun e w' => e = .returned (.bool (okLeg x)) ∧ Below w.heap.size w w' := by
  rcases first3 (inB x.w 0 7) (inB x.u 1 999) (inB x.c (-999) 999) with h1 | ⟨h1, h2⟩ | ⟨h1, h2, h3⟩ | ⟨h1, h2, h3⟩
  all_goals
    have HO := hide (show okLeg x = _ from (by unfold okLeg; simp only [*]; rfl))
    go_enter Tryd.func20, Tryd.ntmps20
    go_wp2_with (go_at_call 27; refine (within_any _ _ _ _).mono ?_; rintro e w' ⟨rfl, rfl⟩)
    go_ret
    exact ⟨ret_bool HO.out.symm, (Below.refl _ _).alloc (Nat.le_refl _) _⟩
theorem l15Leg_any (x : Lg) (w : World) : Calls Tryd.prog 16 #[.agg #[.int .i64 x.w, .int .i64 x.u, .int .i64 x.c]] w fun e w' => e = .returned (.bool (okLeg x)) ∧ Below w.heap.size w w' := by
  rcases first3 (inB x.w 0 7) (inB x.u 1 999) (inB x.c (-999) 999) with h1 | ⟨h1, h2⟩ | ⟨h1, h2, h3⟩ | ⟨h1, h2, h3⟩
  all_goals
    have HO := hide (show okLeg x = _ from (by unfold okLeg; simp only [*]; rfl))
    go_enter Tryd.func16, Tryd.ntmps16
    go_wp2_with (go_at_call 25; refine (l1In_any _ _ _ _).mono ?_; rintro e w' ⟨rfl, rfl⟩)
    go_ret
    exact ⟨ret_bool HO.out.symm, (Below.refl _ _).alloc (Nat.le_refl _) _⟩
def notLeg (x : Lg) : Bool := !okLeg x
theorem isRoute1_any (x : Lg) (w : World) : Calls Tryd.prog 19 #[.agg #[.int .i64 x.w, .int .i64 x.u, .int .i64 x.c]] w fun e w' => e = .returned (.bool (notLeg x)) ∧ Below w.heap.size w w' := by
  go_enter Tryd.func19, Tryd.ntmps19
  go_wp2_with fail
  refine (isLeg_any x _).mono ?_
  rintro e w1 ⟨rfl, hb⟩
  go_wp2
  go_ret
  exact ⟨rfl, ((Below.refl _ w).alloc (Nat.le_refl _) _).trans (hb.mono (by simp))⟩
theorem route_idx {zs : List Lg} : (idxB notLeg zs = -1 ∧ allB zs.length (fun k => okLeg zs[k]!) = true) ∨ (∃ k : Nat, idxB notLeg zs = (k : Int) ∧ allB zs.length (fun k => okLeg zs[k]!) = false) := by
  rcases idx_cases notLeg zs with ⟨h1, _, h3⟩ | ⟨k, x, hk, hx, hp, h1, _, _⟩
  · refine .inl ⟨h1, allB_true fun j hj => ?_⟩
    have hx := List.getElem?_eq_getElem hj
    have := h3 j _ hx
    simp only [getB hx]
    unfold notLeg at this; simpa using this
  · refine .inr ⟨k, h1, allB_false (p := fun k => okLeg zs[k]!) k hk ?_⟩
    simp only [getB hx]
    unfold notLeg at hp; simpa using hp
set_option maxRecDepth 100000 in
theorem IsRoute_any (ao : Option Addr) (n c : Nat) (zs : List Lg) (w : World) (hz : zs.length = n) (hn : n ≤ 1048576) (hr : Rd encLg 3 w.heap.size w ao zs) :
    Calls Tryd.prog 12 #[.slice ao n c] w fun e w' => e = .returned (.bool (routeB zs)) ∧ Below w.heap.size w w' := by
  have HZ := hide hz
  by_cases hl : n ≤ 12
  · have hl2 : (n : Int) ≤ 12 := by omega
    have eg : ∀ args w, (callFunc 19 args).run Tryd.prog w = .ok (.enter 19 args) w := enters_at Tryd.func19 (by kernel_rfl) rfl
    have H := hide (ContainsFuncLeg_any 19 #[] notLeg eg ao n c zs w hz hn hr (fun W x _ => isRoute1_any x W))
    have HE : Hid (routeB zs = !decide (0 ≤ idxB notLeg zs)) := hide (by
      rcases route_idx (zs := zs) with ⟨h1, h2⟩ | ⟨k, h1, h2⟩
      · unfold routeB; rw [h1, h2, hz]; simp [hl]
      · unfold routeB; rw [h1, h2]; simp)
    clear hz hr eg
    go_enter Tryd.func12, Tryd.ntmps12
    go_wp2_with fail
    refine H.out.mono ?_
    rintro e w' ⟨rfl, hb⟩
    go_wp2
    go_ret
    exact ⟨ret_bool HE.out.symm, hb⟩
  · have hl2 : ¬ (n : Int) ≤ 12 := by omega
    have HO := hide (route_len hz hl)
    clear hz hr
    go_enter Tryd.func12, Tryd.ntmps12
    go_wp2
    go_ret
    exact ⟨ret_bool HO.out.symm, Below.refl _ _⟩
set_option maxRecDepth 100000 in
theorem l15Good_any (ao : Option Addr) (n c : Nat) (zs : List Lg) (w : World) (hz : zs.length = n) (hn : n ≤ 1048576) (hr : Rd encLg 3 w.heap.size w ao zs) :
    Calls Tryd.prog 9 #[.slice ao n c] w fun e w' => e = .returned (.bool (routeB zs)) ∧ Below w.heap.size w w' := by
  have HZ := hide hz
  have HR := hide hr
  clear hz hr
  go_enter Tryd.func9, Tryd.ntmps9
  go_wp2
  go_loopg [3] n (fun gk i wr => ∃ k : Nat, k ≤ n ∧ n - k ≤ gk ∧ i = .int .i64 k ∧ Aside (Below w.heap.size w wr) ∧ Aside (∀ j, j < k → okLeg zs[j]! = true))
  case atStart => exact ⟨0, Nat.zero_le _, by omega, rfl, Below.refl _ _, fun j hj => absurd hj (Nat.not_lt_zero _)⟩
  case round =>
    obtain ⟨k, hk, hg, rfl, BW, A⟩ := hrel
    by_cases hlt : k < n
    · have hlti : (k : Int) < (n : Int) := by omega
      obtain ⟨b, off, rfl, hb1, hat⟩ := rdLg HR.out (by rw [HZ.out]; omega)
      obtain ⟨x, hx, hxc⟩ := hat k (by rw [HZ.out]; exact hlt)
      have HX := hide (getB hx)
      obtain ⟨hbr, c0, c1, c2⟩ := hxc wr BW.out
      clear hx hxc hat
      go_wp2_with fail
      refine (l15Leg_any x _).mono ?_
      rintro e w1 ⟨rfl, hb⟩
      have HB := hide (bl_step BW.out hb)
      clear hb
      cases hq : okLeg x with
      | false =>
        have HQ := hide hq
        go_wp2
        go_ret
        exact ⟨ret_bool (route_bad HZ.out hlt HX.out HQ.out).symm, HB.out⟩
      | true =>
        have HQ := hide hq
        go_wp2
        go_roundg (n - (k + 1))
        case measure => omega
        case rel => exact ⟨k + 1, by omega, by omega, by go_num, HB.out, upto_succ (p := fun j => okLeg zs[j]!) A.out (by simp only [HX.out, HQ.out])⟩
    · have hge : ¬ (k : Int) < (n : Int) := by omega
      go_wp2
      go_ret
      exact ⟨ret_bool (by rw [route_end HZ.out (fun j hj => A.out j (by omega)), Bool.eq_iff_iff]; simp; omega), BW.out⟩

end Go.Proofs.YtpmghdhgnehphaaDoor
