/- The squares that no cover shows: the program. -/
import Derived.Test.YtpdfbijfklmonaaM2
namespace Go.Proofs.Ytpdfbijfklmonaa
open Go.RowKit
set_option linter.unusedVariables false
set_option linter.unusedSimpArgs false

set_option maxRecDepth 100000 in
/-- slices.IndexFunc on Cover, at a closure that only reads and makes memory of its own -/
theorem IndexFuncCover_any (g : Nat) (lb : Array Value) (p : Cv → Bool) (eg : ∀ args w, (callFunc g args).run Try.prog w = .ok (.enter g args) w) (ao : Option Addr) (n c : Nat) (zs : List Cv) (w : World) (hz : zs.length = n) (hn : n ≤ 1048576) (hr : Rd encCv 6 w.heap.size w ao zs)
    (hp : ∀ (W : World) (x : Cv), Below w.heap.size w W → Calls Try.prog g (#[.agg #[.int .i64 x.i, .int .i64 x.w, .int .i64 x.s, .int .i64 x.e, .int .i64 x.n, .int .i64 x.p]] ++ lb) W fun e w' => e = .returned (.bool (p x)) ∧ Below W.heap.size W w') :
    Calls Try.prog 84 #[.slice ao n c, .func (.func g) #[] lb] w fun e w' => e = .returned (.int .i64 (idxB p zs)) ∧ Below w.heap.size w w' := by
  have HZ := hide hz
  have HR := hide hr
  have HP := hide hp
  clear hz hr hp
  go_enter Try.func84, Try.ntmps84
  go_wp2
  go_loopg [5, 8] n (fun gk _ i wr => ∃ k : Nat, k ≤ n ∧ n - k ≤ gk ∧ i = .int .i64 k ∧ Aside (Below w.heap.size w wr) ∧ Aside (∀ j, j < k → ∀ y, zs[j]? = some y → p y = false))
  case atStart => exact ⟨0, Nat.zero_le _, by omega, rfl, Below.refl _ w, fun j hj => absurd hj (Nat.not_lt_zero _)⟩
  case round =>
    obtain ⟨k, hk, hg, rfl, BW, A⟩ := hrel
    by_cases hlt : k < n
    · have hltz : (k : Int) < (n : Int) := by omega
      obtain ⟨b, off, rfl, hb1, hat⟩ := rdCv HR.out (by rw [HZ.out]; omega)
      obtain ⟨x, hx, hxc⟩ := hat k (by rw [HZ.out]; exact hlt)
      have HX := hide hx
      obtain ⟨hbr, c0, c1, c2, c3, c4, c5⟩ := hxc wr BW.out
      have hcall := HP.out wr x BW.out
      clear hx hxc hat
      cases hq : p x with
      | true =>
        rw [hq] at hcall
        have HQ := hide hq
        clear hq
        go_wp2_with fail
        refine hcall.mono ?_
        rintro e w' ⟨rfl, hb'⟩
        have HB' := hide hb'
        clear hb'
        go_wp2
        go_ret
        exact ⟨ret_int (idx_hit HX.out HQ.out A.out).1.symm, BW.out.trans (HB'.out.mono BW.out.size)⟩
      | false =>
        rw [hq] at hcall
        have HQ := hide hq
        clear hq
        go_wp2_with fail
        refine hcall.mono ?_
        rintro e w' ⟨rfl, hb'⟩
        have HB' := hide hb'
        clear hb'
        go_wp2
        go_roundg (n - (k + 1))
        case measure => omega
        case rel => exact ⟨k + 1, by omega, by omega, by go_num, BW.out.trans (HB'.out.mono BW.out.size), none_succ A.out HX.out HQ.out⟩
    · have hltz : ¬ (k : Int) < (n : Int) := by omega
      go_wp2
      go_ret
      exact ⟨ret_int (idx_miss fun j y hy => A.out j (by have := (List.getElem?_eq_some_iff.1 hy).1; rw [HZ.out] at this; omega) y hy).1.symm, BW.out⟩

/-- slices.ContainsFunc on Cover: asks IndexFunc -/
theorem ContainsFuncCover_any (g : Nat) (lb : Array Value) (p : Cv → Bool) (eg : ∀ args w, (callFunc g args).run Try.prog w = .ok (.enter g args) w) (ao : Option Addr) (n c : Nat) (zs : List Cv) (w : World) (hz : zs.length = n) (hn : n ≤ 1048576) (hr : Rd encCv 6 w.heap.size w ao zs)
    (hp : ∀ (W : World) (x : Cv), Below w.heap.size w W → Calls Try.prog g (#[.agg #[.int .i64 x.i, .int .i64 x.w, .int .i64 x.s, .int .i64 x.e, .int .i64 x.n, .int .i64 x.p]] ++ lb) W fun e w' => e = .returned (.bool (p x)) ∧ Below W.heap.size W w') :
    Calls Try.prog 87 #[.slice ao n c, .func (.func g) #[] lb] w fun e w' => e = .returned (.bool (decide (0 ≤ idxB p zs))) ∧ Below w.heap.size w w' := by
  have H := hide (IndexFuncCover_any g lb p eg ao n c zs w hz hn hr hp)
  clear hz hr hp eg
  go_enter Try.func87, Try.ntmps87
  go_wp2_with fail
  refine H.out.mono ?_
  rintro e w' ⟨rfl, hb⟩
  go_wp2
  go_ret
  exact ⟨rfl, hb⟩

def showsB (a b : Int) (x : Cv) : Bool := decide (x.w ≤ a) && decide (a < x.e) && decide (x.s ≤ b) && decide (b < x.n)
def showsI (a b : Int) (x : Cv) : Bool := inB a x.w (wrap64 (x.e - 1)) && inB b x.s (wrap64 (x.n - 1))
def anyB (zs : List Cv) (a b : Int) : Bool := zs.any (showsB a b)
def cntY (zs : List Cv) (a : Int) : Nat → Int | 0 => 0 | n + 1 => cntY zs a n + if anyB zs a n then 0 else 1
def cntX (zs : List Cv) (h : Nat) : Nat → Int | 0 => 0 | n + 1 => cntX zs h n + cntY zs n h
theorem cntY_bd (zs : List Cv) (a : Int) : ∀ n : Nat, 0 ≤ cntY zs a n ∧ cntY zs a n ≤ n
  | 0 => by simp [cntY]
  | n + 1 => by have := cntY_bd zs a n; unfold cntY; split <;> omega
theorem cntX_bd (zs : List Cv) {h : Nat} (hh : h ≤ 10) : ∀ n : Nat, 0 ≤ cntX zs h n ∧ cntX zs h n ≤ 10 * n
  | 0 => by simp [cntX]
  | n + 1 => by have := cntX_bd zs hh n; have := cntY_bd zs n h; unfold cntX; omega
theorem cntY_hit {zs : List Cv} {a : Int} {n : Nat} (h : anyB zs a n = true) : cntY zs a (n + 1) = cntY zs a n := by rw [cntY, h]; simp
theorem cntY_miss {zs : List Cv} {a : Int} {n : Nat} (h : anyB zs a n = false) : cntY zs a (n + 1) = cntY zs a n + 1 := by rw [cntY, h]; simp
theorem cntX_succ (zs : List Cv) (h n : Nat) : cntX zs h (n + 1) = cntX zs h n + cntY zs n h := rfl
def goodAll (zs : List Cv) : Prop := ∀ (k : Nat) (x : Cv), zs[k]? = some x → okCv x = true
theorem showsI_eq {x : Cv} (h : okCv x = true) (a b : Int) : showsI a b x = showsB a b x := by
  have := okCv_bd h
  have e1 : wrap64 (x.e - 1) = x.e - 1 := IntWalk.wrap64_in _ (by omega)
  have e2 : wrap64 (x.n - 1) = x.n - 1 := IntWalk.wrap64_in _ (by omega)
  unfold showsI showsB inB; rw [e1, e2, Bool.eq_iff_iff]; simp; omega
theorem anyI_eq {zs : List Cv} (h : goodAll zs) (a b : Int) : decide (0 ≤ idxB (showsI a b) zs) = anyB zs a b := by
  rcases idx_cases (showsI a b) zs with ⟨h1, _, h3⟩ | ⟨k, x, hk, hx, hp, h1, _, _⟩
  · have : anyB zs a b = false := by
      unfold anyB; rw [List.any_eq_false]; intro x hx
      obtain ⟨k, hk⟩ := List.getElem?_of_mem hx
      have := h3 k x hk
      rw [showsI_eq (h k x hk)] at this; simp [this]
    rw [h1, this]; simp
  · have : anyB zs a b = true := by
      unfold anyB; rw [List.any_eq_true]
      exact ⟨x, List.mem_of_getElem? hx, by rw [← showsI_eq (h k x hx)]; exact hp⟩
    rw [h1, this]; simp
def wallB (a b : Int) (zs : List Cv) : Bool := inB a 1 10 && inB b 1 10 && coversB zs
def bareV (a b : Int) (zs : List Cv) : Int := if wallB a b zs then cntX zs b.toNat a.toNat else 0
theorem good_of {zs : List Cv} (h : coversB zs = true) : goodAll zs := fun k x hx => covers_at h hx
theorem ret_ib2 {a b : Int} {c d : Bool} (h1 : a = b) (h2 : c = d) : Ending.returned (.tuple #[.int .i64 a, .bool c]) = .returned (.tuple #[.int .i64 b, .bool d]) := by rw [h1, h2]

theorem shows_any (x : Cv) (a b : Int) (w : World) : Calls Try.prog 89 #[.agg #[.int .i64 x.i, .int .i64 x.w, .int .i64 x.s, .int .i64 x.e, .int .i64 x.n, .int .i64 x.p], .int .i64 a, .int .i64 b] w fun e w' => e = .returned (.bool (showsI a b x)) ∧ Below w.heap.size w w' := by
  rcases first2 (inB a x.w (wrap64 (x.e - 1))) (inB b x.s (wrap64 (x.n - 1))) with h1 | ⟨h1, h2⟩ | ⟨h1, h2⟩
  all_goals
    have HO := hide (show showsI a b x = _ from (by unfold showsI; simp only [*]; rfl))
    go_enter Try.func89, Try.ntmps89
    go_wp2_with (first | (go_at_call 86; refine (within_any _ _ _ _).mono ?_; rintro e w' ⟨rfl, rfl⟩) | (go_at_call 82; refine (l1In_any _ _ _ _).mono ?_; rintro e w' ⟨rfl, rfl⟩))
    go_ret
    exact ⟨ret_bool HO.out.symm, (Below.refl _ _).alloc (Nat.le_refl _) _⟩
theorem l12Shows_any (x : Cv) (a b : Int) (w : World) : Calls Try.prog 83 #[.agg #[.int .i64 x.i, .int .i64 x.w, .int .i64 x.s, .int .i64 x.e, .int .i64 x.n, .int .i64 x.p], .int .i64 a, .int .i64 b] w fun e w' => e = .returned (.bool (showsB a b x)) ∧ Below w.heap.size w w' := by
  have H1 : (¬ x.w ≤ a) ∨ (x.w ≤ a ∧ ¬ a < x.e) ∨ (x.w ≤ a ∧ a < x.e ∧ ¬ x.s ≤ b) ∨ (x.w ≤ a ∧ a < x.e ∧ x.s ≤ b ∧ ¬ b < x.n) ∨ (x.w ≤ a ∧ a < x.e ∧ x.s ≤ b ∧ b < x.n) := by omega
  rcases H1 with h1 | ⟨h1, h2⟩ | ⟨h1, h2, h3⟩ | ⟨h1, h2, h3, h4⟩ | ⟨h1, h2, h3, h4⟩
  all_goals
    have HO := hide (show showsB a b x = _ from (by unfold showsB; simp [*]; rfl))
    go_enter Try.func83, Try.ntmps83
    go_wp2
    go_ret
    exact ⟨ret_bool HO.out.symm, (Below.refl _ _).alloc (Nat.le_refl _) _⟩
theorem bare1_any (p q : Addr) (a b : Int) (x : Cv) (W : World) (e1 : W.cell? p = some (.int .i64 a)) (e2 : W.cell? q = some (.int .i64 b)) (l1 : p.block < W.heap.size) (l2 : q.block < W.heap.size) :
    Calls Try.prog 88 #[.agg #[.int .i64 x.i, .int .i64 x.w, .int .i64 x.s, .int .i64 x.e, .int .i64 x.n, .int .i64 x.p], .pointer (some p), .pointer (some q)] W fun e w' => e = .returned (.bool (showsI a b x)) ∧ Below W.heap.size W w' := by
  go_enter Try.func88, Try.ntmps88
  go_wp2_with fail
  refine (shows_any x _ _ _).mono ?_
  rintro e w1 ⟨rfl, hb⟩
  go_wp2
  go_ret
  exact ⟨rfl, ((Below.refl _ W).alloc (Nat.le_refl _) _).trans (hb.mono (by simp))⟩

theorem isWall_any (a b : Int) (ao : Option Addr) (n c : Nat) (zs : List Cv) (w : World) (hz : zs.length = n) (hn : n ≤ 1048576) (hr : Rd encCv 6 w.heap.size w ao zs) :
    Calls Try.prog 54 #[.int .i64 a, .int .i64 b, .slice ao n c] w fun e w' => e = .returned (.bool (wallB a b zs)) ∧ Below w.heap.size w w' := by
  rcases first3 (inB a 1 10) (inB b 1 10) (coversB zs) with h1 | ⟨h1, h2⟩ | ⟨h1, h2, h3⟩ | ⟨h1, h2, h3⟩
  all_goals
    have HO := hide (show wallB a b zs = _ from (by unfold wallB; simp only [*]; rfl))
    have H := hide (AreCovers_any ao n c zs w hz hn hr)
    go_enter Try.func54, Try.ntmps54
    go_wp2_with (first | (go_at_call 86; refine (within_any _ _ _ _).mono ?_; rintro e w' ⟨rfl, rfl⟩) | (go_at_call 82; refine (l1In_any _ _ _ _).mono ?_; rintro e w' ⟨rfl, rfl⟩))
    first
      | (go_ret
         exact ⟨ret_bool HO.out.symm, Below.refl _ _⟩)
      | (refine H.out.mono ?_
         rintro e w1 ⟨rfl, hb⟩
         go_wp2
         go_ret
         exact ⟨ret_bool HO.out.symm, hb⟩)

theorem l12Wall_any (a b : Int) (ao : Option Addr) (n c : Nat) (zs : List Cv) (w : World) (hz : zs.length = n) (hn : n ≤ 1048576) (hr : Rd encCv 6 w.heap.size w ao zs) :
    Calls Try.prog 50 #[.int .i64 a, .int .i64 b, .slice ao n c] w fun e w' => e = .returned (.bool (wallB a b zs)) ∧ Below w.heap.size w w' := by
  rcases first3 (inB a 1 10) (inB b 1 10) (coversB zs) with h1 | ⟨h1, h2⟩ | ⟨h1, h2, h3⟩ | ⟨h1, h2, h3⟩
  all_goals
    have HO := hide (show wallB a b zs = _ from (by unfold wallB; simp only [*]; rfl))
    have H := hide (l12Good_any ao n c zs w hz hn hr)
    go_enter Try.func50, Try.ntmps50
    go_wp2_with (first | (go_at_call 86; refine (within_any _ _ _ _).mono ?_; rintro e w' ⟨rfl, rfl⟩) | (go_at_call 82; refine (l1In_any _ _ _ _).mono ?_; rintro e w' ⟨rfl, rfl⟩))
    first
      | (go_ret
         exact ⟨ret_bool HO.out.symm, Below.refl _ _⟩)
      | (refine H.out.mono ?_
         rintro e w1 ⟨rfl, hb⟩
         go_wp2
         go_ret
         exact ⟨ret_bool HO.out.symm, hb⟩)

end Go.Proofs.Ytpdfbijfklmonaa
