/- Squares; slices.Compare; areWallSquares. -/
import Derived.Test.YtpdfbijfklmonaaM9
import Derived.Test.YtpdfbijfklmonaaFIntA2
namespace Go.Proofs.Ytpdfbijfklmonaa
open Go.RowKit
set_option linter.unusedVariables false
set_option linter.unusedSimpArgs false

def ltS (y x : Ar2) : Bool := decide (y.a < x.a) || (decide (y.a = x.a) && decide (y.b < x.b))
def inSq (wd hg : Int) (x : Ar2) : Bool := inB x.a 0 (wd - 1) && inB x.b 0 (hg - 1)
def stepQ (wd hg : Int) (zq : List Ar2) (k : Nat) : Bool := inSq wd hg zq[k]! && (decide (k = 0) || ltS zq[k - 1]! zq[k]!)
def sqB (wd hg : Int) (zq : List Ar2) : Bool := allB zq.length (stepQ wd hg zq) && decide (zq.length ≤ 12)
def cntS (f : Ar2 → Bool) (zq : List Ar2) : Nat → Int | 0 => 0 | k + 1 => cntS f zq k + if f zq[k]! then 1 else 0
def loneX (zq : List Ar2) (x : Cv) : Bool := decide (1 < cntS (fun q => showsB q.a q.b x) zq zq.length)
def loneI (zq : List Ar2) (x : Cv) : Bool := decide (1 < cntS (fun q => showsI q.a q.b x) zq zq.length)
def loneB (zs : List Cv) (zq : List Ar2) : Bool := allB zs.length fun k => !loneX zq zs[k]!
theorem cntS_bd (f : Ar2 → Bool) (zq : List Ar2) : ∀ n : Nat, 0 ≤ cntS f zq n ∧ cntS f zq n ≤ n
  | 0 => by simp [cntS]
  | n + 1 => by have := cntS_bd f zq n; simp only [cntS]; split <;> omega
theorem cntS_hit {f : Ar2 → Bool} {zq : List Ar2} {n : Nat} {q : Ar2} (hq : zq[n]! = q) (h : f q = true) : cntS f zq (n + 1) = cntS f zq n + 1 := by rw [cntS, hq, h]; rfl
theorem cntS_miss {f : Ar2 → Bool} {zq : List Ar2} {n : Nat} {q : Ar2} (hq : zq[n]! = q) (h : f q = false) : cntS f zq (n + 1) = cntS f zq n := by rw [cntS, hq, h]; simp
theorem lone_eq {zs : List Cv} {zq : List Ar2} (ok : goodAll zs) : (!decide (0 ≤ idxB (loneI zq) zs)) = loneB zs zq := by
  have he : ∀ (k : Nat) (x : Cv), zs[k]? = some x → loneI zq x = loneX zq x := fun k x hx => by
    unfold loneI loneX
    have : (fun q : Ar2 => showsI q.a q.b x) = fun q => showsB q.a q.b x := by funext q; exact showsI_eq (ok k x hx) q.a q.b
    rw [this]
  unfold loneB
  rcases idx_cases (loneI zq) zs with ⟨h1, _, h3⟩ | ⟨k, x, hk, hx, hp, h1, _, _⟩
  · rw [h1]
    refine Eq.trans (by rfl) (allB_true (p := fun k => !loneX zq zs[k]!) fun j hj => ?_).symm
    have hx := List.getElem?_eq_getElem hj
    show (!loneX zq zs[j]!) = true
    rw [getB hx, ← he j _ hx, h3 j _ hx]; rfl
  · rw [h1]
    have hd : decide (0 ≤ (k : Int)) = true := by simp
    rw [hd]
    refine Eq.trans (by rfl) (allB_false (p := fun k => !loneX zq zs[k]!) k hk ?_).symm
    show (!loneX zq zs[k]!) = false
    rw [getB hx, ← he k _ hx, hp]; rfl
theorem getQ! {zq : List Ar2} {k : Nat} {q : Ar2} (h : zq[k]? = some q) : zq[k]! = q := by rw [List.getElem!_eq_getElem?_getD, h]; rfl
theorem sq_bad {wd hg : Int} {zq : List Ar2} {m k : Nat} (hz : zq.length = m) (hk : k < m) (h : stepQ wd hg zq k = false) : sqB wd hg zq = false := by unfold sqB; rw [hz, allB_false k hk h]; rfl
theorem sq_end {wd hg : Int} {zq : List Ar2} {m k : Nat} (hz : zq.length = m) (h : ∀ j, j < k → stepQ wd hg zq j = true) (hk : m ≤ k) : sqB wd hg zq = decide (m ≤ 12) := by unfold sqB; rw [hz, allB_true (fun j hj => h j (by omega)), Bool.true_and]
theorem stepQ_out {wd hg : Int} {zq : List Ar2} {k : Nat} {x : Ar2} (hx : zq[k]! = x) (h : inSq wd hg x = false) : stepQ wd hg zq k = false := by unfold stepQ; rw [hx, h]; rfl
theorem stepQ_no {wd hg : Int} {zq : List Ar2} {k : Nat} {x y : Ar2} (hx : zq[k]! = x) (hy : zq[k - 1]! = y) (hk : 0 < k) (h : ltS y x = false) : stepQ wd hg zq k = false := by
  unfold stepQ; rw [hx, hy, h]; simp; intro _; omega
theorem stepQ_0 {wd hg : Int} {zq : List Ar2} {k : Nat} {x : Ar2} (hx : zq[k]! = x) (h : inSq wd hg x = true) (hk : k = 0) : stepQ wd hg zq k = true := by unfold stepQ; rw [hx, h]; simp [hk]
theorem stepQ_1 {wd hg : Int} {zq : List Ar2} {k : Nat} {x y : Ar2} (hx : zq[k]! = x) (hy : zq[k - 1]! = y) (h : inSq wd hg x = true) (hl : ltS y x = true) : stepQ wd hg zq k = true := by unfold stepQ; rw [hx, hy, h, hl]; simp
theorem lone_bad {zs : List Cv} {zq : List Ar2} {n k : Nat} {x : Cv} (hz : zs.length = n) (hk : k < n) (hx : zs[k]! = x) (h : loneX zq x = true) : loneB zs zq = false := by
  unfold loneB; rw [hz]; exact allB_false (p := fun k => !loneX zq zs[k]!) k hk (by show (!loneX zq zs[k]!) = false; rw [hx, h]; rfl)
theorem lone_end {zs : List Cv} {zq : List Ar2} {n k : Nat} (hz : zs.length = n) (h : ∀ j, j < k → loneX zq zs[j]! = false) (hk : n ≤ k) : loneB zs zq = true := by
  unfold loneB; rw [hz]; exact allB_true (fun j hj => by show (!loneX zq zs[j]!) = true; rw [h j (by omega)]; rfl)
def cmpI (a b : Int) : Int := if a < b then -1 else if b < a then 1 else 0
def cmpS (y x : Ar2) : Int := if cmpI y.a x.a = 0 then cmpI y.b x.b else cmpI y.a x.a
theorem cmpS_lt {y x : Ar2} (h : ltS y x = true) : cmpS y x = -1 := by
  unfold ltS at h; simp only [Bool.or_eq_true, Bool.and_eq_true, decide_eq_true_eq] at h
  unfold cmpS cmpI
  rcases h with h | ⟨h1, h2⟩
  · simp [h]
  · simp [h1, h2]
theorem cmpS_ge {y x : Ar2} (h : ltS y x = false) : 0 ≤ cmpS y x := by
  unfold ltS at h; simp only [Bool.or_eq_false_iff, Bool.and_eq_false_iff, decide_eq_false_iff_not] at h
  unfold cmpS cmpI
  rcases Int.lt_trichotomy y.a x.a with h1 | h1 | h1
  · exact absurd h1 h.1
  · have h2 : ¬ y.b < x.b := by
      rcases h.2 with h3 | h3
      · exact absurd h1 h3
      · exact h3
    simp only [h1, h2, Int.lt_irrefl, if_true, if_false]
    split <;> decide
  · have h2 : ¬ y.a < x.a := by omega
    simp [h1, h2]
theorem belowRefl_of {n : Nat} {a w : World} (h : Below n a w) : Below w.heap.size w w := Below.refl _ _

theorem cmpInt_any (a b : Int) (w : World) : Calls Try.prog 97 #[.int .i64 a, .int .i64 b] w fun e w' => e = .returned (.int .i64 (cmpI a b)) ∧ w = w' := by
  rcases Int.lt_trichotomy a b with h | h | h
  · have h2 : ¬ b < a := by omega
    have HO := hide (show cmpI a b = -1 from by unfold cmpI; simp [h])
    go_enter Try.func97, Try.ntmps97
    go_wp2_with go_in
    go_ret
    exact ⟨ret_int HO.out.symm, rfl⟩
  · subst h
    have h1 : ¬ a < a := by omega
    have HO := hide (show cmpI a a = 0 from by unfold cmpI; simp)
    go_enter Try.func97, Try.ntmps97
    go_wp2_with go_in
    go_ret
    exact ⟨ret_int HO.out.symm, rfl⟩
  · have h2 : ¬ a < b := by omega
    have HO := hide (show cmpI a b = 1 from by unfold cmpI; simp [h, h2])
    go_enter Try.func97, Try.ntmps97
    go_wp2_with go_in
    go_ret
    exact ⟨ret_int HO.out.symm, rfl⟩
set_option maxRecDepth 100000 in
theorem CompareInts_any (p1 p2 o1 o2 : Nat) (y x : Ar2) (w : World) (y0 : w.cell? ⟨p1, o1, none⟩ = some (.int .i64 y.a)) (y1 : w.cell? ⟨p1, o1 + 1, none⟩ = some (.int .i64 y.b)) (x0 : w.cell? ⟨p2, o2, none⟩ = some (.int .i64 x.a)) (x1 : w.cell? ⟨p2, o2 + 1, none⟩ = some (.int .i64 x.b)) :
    Calls Try.prog 91 #[.slice (some ⟨p1, o1, none⟩) 2 2, .slice (some ⟨p2, o2, none⟩) 2 2] w fun e w' => e = .returned (.int .i64 (cmpS y x)) ∧ w = w' := by
  go_enter Try.func91, Try.ntmps91
  go_wp2
  go_loopg [5, 6, 7, 8, 11] 2 (fun gk _ _ _ _ i wr => ∃ k : Nat, k ≤ 2 ∧ 2 - k ≤ gk ∧ i = .int .i64 k ∧ w = wr ∧ (0 < k → Hid (cmpI y.a x.a = 0)) ∧ (1 < k → Hid (cmpI y.b x.b = 0)))
  case atStart => exact ⟨0, Nat.zero_le _, by omega, rfl, rfl, fun h => absurd h (by omega), fun h => absurd h (by omega)⟩
  case round =>
    obtain ⟨k, hk, hgk, rfl, rfl, F0, F1⟩ := hrel
    have h3 : k = 0 ∨ k = 1 ∨ k = 2 := by omega
    rcases h3 with rfl | rfl | rfl
    · clear F0 F1
      go_wp2_with fail
      refine (cmpInt_any _ _ _).mono ?_
      rintro e w' ⟨rfl, rfl⟩
      by_cases hc : cmpI y.a x.a = 0
      · have HC := hide hc
        rw [hc]
        clear hc
        go_wp2
        go_roundg 1
        case measure => omega
        case rel => exact ⟨1, by omega, by omega, by go_num, rfl, fun _ => HC, fun h => absurd h (by omega)⟩
      · have HO := hide (show cmpS y x = cmpI y.a x.a from by unfold cmpS; simp [hc])
        generalize cmpI y.a x.a = cv at hc HO
        have hd : (cv == 0) = false := by simp [hc]
        have hd2 : decide (cv = 0) = false := by simp [hc]
        go_wp2
        go_ret
        exact ⟨ret_int HO.out.symm, rfl⟩
    · have HC0 := F0 (by omega)
      clear F0 F1
      go_wp2_with fail
      refine (cmpInt_any _ _ _).mono ?_
      rintro e w' ⟨rfl, rfl⟩
      have HO := hide (show cmpS y x = cmpI y.b x.b from by unfold cmpS; rw [HC0.out]; simp)
      by_cases hc : cmpI y.b x.b = 0
      · have HC := hide hc
        rw [hc]
        clear hc
        go_wp2
        go_roundg 0
        case measure => omega
        case rel => exact ⟨2, by omega, by omega, by go_num, rfl, fun _ => HC0, fun _ => HC⟩
      · generalize cmpI y.b x.b = cv at hc HO
        have hd : (cv == 0) = false := by simp [hc]
        have hd2 : decide (cv = 0) = false := by simp [hc]
        go_wp2
        go_ret
        exact ⟨ret_int HO.out.symm, rfl⟩
    · have HO := hide (show cmpS y x = 0 from by unfold cmpS; rw [(F0 (by omega)).out, (F1 (by omega)).out]; simp)
      clear F0 F1
      go_wp2
      go_ret
      exact ⟨ret_int HO.out.symm, rfl⟩

set_option maxRecDepth 100000 in
set_option maxHeartbeats 4000000 in
theorem areWallSquares_any (wd hg : Int) (hwd : 1 ≤ wd ∧ wd ≤ 10) (hhg : 1 ≤ hg ∧ hg ≤ 10) (qo : Option Addr) (m d : Nat) (zq : List Ar2) (w : World) (hzq : zq.length = m) (hm : m ≤ 1048576) (hrq : Rd encAr2 2 w.heap.size w qo zq) :
    Calls Try.prog 64 #[.int .i64 wd, .int .i64 hg, .slice qo m d] w fun e w' => e = .returned (.bool (sqB wd hg zq)) ∧ Below w.heap.size w w' := by
  have HZQ := hide hzq
  have HRQ := hide hrq
  clear hzq hrq
  have w1 : IntKind.i64.wrap (wd - 1) = wd - 1 := IntWalk.i64_in _ (by omega)
  have w2 : IntKind.i64.wrap (hg - 1) = hg - 1 := IntWalk.i64_in _ (by omega)
  clear hwd hhg
  go_enter Try.func64, Try.ntmps64
  go_wp2
  go_loopg [7, 11] m (fun gk _ i wr => ∃ k : Nat, k ≤ m ∧ m - k ≤ gk ∧ i = .int .i64 k ∧ Aside (Below w.heap.size w wr) ∧ Aside (∀ j, j < k → stepQ wd hg zq j = true))
  case atStart => exact ⟨0, Nat.zero_le _, by omega, rfl, Below.refl _ _, fun j hj => absurd hj (Nat.not_lt_zero _)⟩
  case round =>
    obtain ⟨k, hk, hgk, rfl, BW, A⟩ := hrel
    by_cases hlt : k < m
    · have hlti : (k : Int) < (m : Int) := by omega
      have hk0i : (0 : Int) ≤ (k : Int) := by omega
      obtain ⟨b, off, rfl, hb1, hat⟩ := rdAr2 HRQ.out (by rw [HZQ.out]; omega)
      obtain ⟨x, hx, hxc⟩ := hat k (by rw [HZQ.out]; exact hlt)
      have HX := hide (getQ! hx)
      obtain ⟨hbr, c0, c1⟩ := hxc wr BW.out
      have HAT := hide hat
      clear hx hxc hat
      go_wp2_with fail
      obtain ⟨W, hW⟩ : ∃ W, W = wr.alloc (.cells #[.int .i64 x.a, .int .i64 x.b] 80) := ⟨_, rfl⟩
      have HBW : Hid (Below w.heap.size w W) := hide (by rw [hW]; exact BW.out.alloc BW.out.size _)
      have g0 : wr.heap.size < W.heap.size := by rw [hW]; simp
      have e0 : W.cell? ⟨wr.heap.size, 0, none⟩ = some (.int .i64 x.a) := by rw [hW]; simp
      have e1 : W.cell? ⟨wr.heap.size, 1, none⟩ = some (.int .i64 x.b) := by rw [hW]; simp
      rw [← hW]
      clear hW c0 c1
      rcases first2 (inB x.a 0 (wd - 1)) (inB x.b 0 (hg - 1)) with h1 | ⟨h1, h2⟩ | ⟨h1, h2⟩
      · have HF := hide (sq_bad HZQ.out hlt (stepQ_out (wd := wd) (hg := hg) HX.out (by unfold inSq; rw [h1]; rfl)))
        have Q1 := hide h1
        have Q2 := Q1
        clear h1
        refine wp_region_held_drew (S := fun w' => w'.cell? ⟨wr.heap.size, 0, none⟩ = some (.int .i64 x.a) ∧ w'.cell? ⟨wr.heap.size, 1, none⟩ = some (.int .i64 x.b) ∧ Below W.heap.size W w') (by kernel_rfl) ⟨e0, e1, (Below.refl _ _).drew⟩ (fun hHeld => ?_)
        first
          | (refine held_skip 0 16 rfl (by kernel_rfl) (by kernel_rfl) (by kernel_rfl) rfl (fun _ _ _ h => h) (by rfl) (by assumption) ?_)
          | (refine held_take 0 16 ?vv141 rfl (by kernel_rfl) (by kernel_rfl) (by kernel_rfl) rfl (fun _ _ _ h => h) (by rfl) ?hy141 (by assumption) ?rest141
             case hy141 => (intro w hSw; (try dsimp only at hSw); go_simp; try with_reducible rfl))
        try simp only [Act.put, List.setIfInBounds_toArray, List.set_cons_zero, List.set_cons_succ]
        first
          | (refine held_skip 1 17 rfl (by kernel_rfl) (by kernel_rfl) (by kernel_rfl) rfl (fun _ _ _ h => h) (by rfl) (by assumption) ?_)
          | (refine held_take 1 17 ?vv142 rfl (by kernel_rfl) (by kernel_rfl) (by kernel_rfl) rfl (fun _ _ _ h => h) (by rfl) ?hy142 (by assumption) ?rest142
             case hy142 => (intro w hSw; (try dsimp only at hSw); go_simp; try with_reducible rfl))
        try simp only [Act.put, List.setIfInBounds_toArray, List.set_cons_zero, List.set_cons_succ]
        first
          | (refine held_skip 2 18 rfl (by kernel_rfl) (by kernel_rfl) (by kernel_rfl) rfl (fun _ _ _ h => h) (by rfl) (by assumption) ?_)
          | (refine held_take 2 18 ?vv143 rfl (by kernel_rfl) (by kernel_rfl) (by kernel_rfl) rfl (fun _ _ _ h => h) (by rfl) ?hy143 (by assumption) ?rest143
             case hy143 => (intro w hSw; (try dsimp only at hSw); go_simp; try with_reducible rfl))
        try simp only [Act.put, List.setIfInBounds_toArray, List.set_cons_zero, List.set_cons_succ]
        first
          | (refine held_skip 3 19 rfl (by kernel_rfl) (by kernel_rfl) (by kernel_rfl) rfl (fun _ _ _ h => h) (by rfl) (by assumption) ?_)
          | (refine held_take 3 19 ?vv144 rfl (by kernel_rfl) (by kernel_rfl) (by kernel_rfl) rfl (fun _ _ _ h => h) (by rfl) ?hy144 (by assumption) ?rest144
             case hy144 => (intro w hSw; (try dsimp only at hSw); go_simp; try with_reducible rfl))
        try simp only [Act.put, List.setIfInBounds_toArray, List.set_cons_zero, List.set_cons_succ]
        refine wpAnyH_ready (rs := [4]) (by kernel_rfl) (by simp) ?_
        refine AllReadyH.cons rfl (fun K hK => ?_) AllReadyH.nil
        go_simp
        first
          | (refine (within_any _ _ _ _).mono ?_
             rintro e w2 ⟨rfl, hww⟩
             have hb := belowRefl_of hHeld.2.2
             subst hww
             first | rw [Q1.out] | rw [Q2.out])
        go_wp2_with fail
        have hq := Below.trans hHeld.2.2 (Below.mono hb hHeld.2.2.size)
        refine hK.out _ _ ⟨(hq.cell (p := ⟨wr.heap.size, 0, none⟩) g0).trans e0, (hq.cell (p := ⟨wr.heap.size, 1, none⟩) g0).trans e1, hq⟩ (fun hHeld => ?_)
        clear hq hb hK K
        try simp only [Act.put, List.setIfInBounds_toArray, List.set_cons_zero, List.set_cons_succ]
        first
          | (refine held_skip 5 21 rfl (by kernel_rfl) (by kernel_rfl) (by kernel_rfl) rfl (fun _ _ _ h => h) (by rfl) (by assumption) ?_)
          | (refine held_take 5 21 ?vv145 rfl (by kernel_rfl) (by kernel_rfl) (by kernel_rfl) rfl (fun _ _ _ h => h) (by rfl) ?hy145 (by assumption) ?rest145
             case hy145 => (intro w hSw; (try dsimp only at hSw); go_simp; try with_reducible rfl))
        try simp only [Act.put, List.setIfInBounds_toArray, List.set_cons_zero, List.set_cons_succ]
        first
          | (refine held_skip 6 22 rfl (by kernel_rfl) (by kernel_rfl) (by kernel_rfl) rfl (fun _ _ _ h => h) (by rfl) (by assumption) ?_)
          | (refine held_take 6 22 ?vv146 rfl (by kernel_rfl) (by kernel_rfl) (by kernel_rfl) rfl (fun _ _ _ h => h) (by rfl) ?hy146 (by assumption) ?rest146
             case hy146 => (intro w hSw; (try dsimp only at hSw); go_simp; try with_reducible rfl))
        try simp only [Act.put, List.setIfInBounds_toArray, List.set_cons_zero, List.set_cons_succ]
        first
          | (refine held_skip 7 23 rfl (by kernel_rfl) (by kernel_rfl) (by kernel_rfl) rfl (fun _ _ _ h => h) (by rfl) (by assumption) ?_)
          | (refine held_take 7 23 ?vv147 rfl (by kernel_rfl) (by kernel_rfl) (by kernel_rfl) rfl (fun _ _ _ h => h) (by rfl) ?hy147 (by assumption) ?rest147
             case hy147 => (intro w hSw; (try dsimp only at hSw); go_simp; try with_reducible rfl))
        try simp only [Act.put, List.setIfInBounds_toArray, List.set_cons_zero, List.set_cons_succ]
        first
          | (refine held_skip 8 24 rfl (by kernel_rfl) (by kernel_rfl) (by kernel_rfl) rfl (fun _ _ _ h => h) (by rfl) (by assumption) ?_)
          | (refine held_take 8 24 ?vv148 rfl (by kernel_rfl) (by kernel_rfl) (by kernel_rfl) rfl (fun _ _ _ h => h) (by rfl) ?hy148 (by assumption) ?rest148
             case hy148 => (intro w hSw; (try dsimp only at hSw); go_simp; try with_reducible rfl))
        try simp only [Act.put, List.setIfInBounds_toArray, List.set_cons_zero, List.set_cons_succ]
        first
          | (refine held_skip 9 25 rfl (by kernel_rfl) (by kernel_rfl) (by kernel_rfl) rfl (fun _ _ _ h => h) (by rfl) (by assumption) ?_)
          | (refine held_take 9 25 ?vv149 rfl (by kernel_rfl) (by kernel_rfl) (by kernel_rfl) rfl (fun _ _ _ h => h) (by rfl) ?hy149 (by assumption) ?rest149
             case hy149 => (intro w hSw; (try dsimp only at hSw); go_simp; try with_reducible rfl))
        try simp only [Act.put, List.setIfInBounds_toArray, List.set_cons_zero, List.set_cons_succ]
        first
          | (refine held_skip 10 26 rfl (by kernel_rfl) (by kernel_rfl) (by kernel_rfl) rfl (fun _ _ _ h => h) (by rfl) (by assumption) ?_)
          | (refine held_take 10 26 ?vv150 rfl (by kernel_rfl) (by kernel_rfl) (by kernel_rfl) rfl (fun _ _ _ h => h) (by rfl) ?hy150 (by assumption) ?rest150
             case hy150 => (intro w hSw; (try dsimp only at hSw); go_simp; try with_reducible rfl))
        try simp only [Act.put, List.setIfInBounds_toArray, List.set_cons_zero, List.set_cons_succ]
        first
          | (refine held_skip 11 27 rfl (by kernel_rfl) (by kernel_rfl) (by kernel_rfl) rfl (fun _ _ _ h => h) (by rfl) (by assumption) ?_)
          | (refine held_take 11 27 ?vv151 rfl (by kernel_rfl) (by kernel_rfl) (by kernel_rfl) rfl (fun _ _ _ h => h) (by rfl) ?hy151 (by assumption) ?rest151
             case hy151 => (intro w hSw; (try dsimp only at hSw); go_simp; try with_reducible rfl))
        try simp only [Act.put, List.setIfInBounds_toArray, List.set_cons_zero, List.set_cons_succ]
        first
          | (refine held_skip 12 28 rfl (by kernel_rfl) (by kernel_rfl) (by kernel_rfl) rfl (fun _ _ _ h => h) (by rfl) (by assumption) ?_)
          | (refine held_take 12 28 ?vv152 rfl (by kernel_rfl) (by kernel_rfl) (by kernel_rfl) rfl (fun _ _ _ h => h) (by rfl) ?hy152 (by assumption) ?rest152
             case hy152 => (intro w hSw; (try dsimp only at hSw); go_simp; try with_reducible rfl))
        try simp only [Act.put, List.setIfInBounds_toArray, List.set_cons_zero, List.set_cons_succ]
        first
          | (refine held_skip 13 29 rfl (by kernel_rfl) (by kernel_rfl) (by kernel_rfl) rfl (fun _ _ _ h => h) (by rfl) (by assumption) ?_)
          | (refine held_take 13 29 ?vv153 rfl (by kernel_rfl) (by kernel_rfl) (by kernel_rfl) rfl (fun _ _ _ h => h) (by rfl) ?hy153 (by assumption) ?rest153
             case hy153 => (intro w hSw; (try dsimp only at hSw); go_simp; try with_reducible rfl))
        try simp only [Act.put, List.setIfInBounds_toArray, List.set_cons_zero, List.set_cons_succ]
        first
          | (refine held_skip 14 30 rfl (by kernel_rfl) (by kernel_rfl) (by kernel_rfl) rfl (fun _ _ _ h => h) (by rfl) (by assumption) ?_)
          | (refine held_take 14 30 ?vv154 rfl (by kernel_rfl) (by kernel_rfl) (by kernel_rfl) rfl (fun _ _ _ h => h) (by rfl) ?hy154 (by assumption) ?rest154
             case hy154 => (intro w hSw; (try dsimp only at hSw); go_simp; try with_reducible rfl))
        try simp only [Act.put, List.setIfInBounds_toArray, List.set_cons_zero, List.set_cons_succ]
        first
          | (refine held_skip 15 31 rfl (by kernel_rfl) (by kernel_rfl) (by kernel_rfl) rfl (fun _ _ _ h => h) (by rfl) (by assumption) ?_)
          | (refine held_take 15 31 ?vv155 rfl (by kernel_rfl) (by kernel_rfl) (by kernel_rfl) rfl (fun _ _ _ h => h) (by rfl) ?hy155 (by assumption) ?rest155
             case hy155 => (intro w hSw; (try dsimp only at hSw); go_simp; try with_reducible rfl))
        try simp only [Act.put, List.setIfInBounds_toArray, List.set_cons_zero, List.set_cons_succ]
        first
          | (refine held_skip 16 32 rfl (by kernel_rfl) (by kernel_rfl) (by kernel_rfl) rfl (fun _ _ _ h => h) (by rfl) (by assumption) ?_)
          | (refine held_take 16 32 ?vv156 rfl (by kernel_rfl) (by kernel_rfl) (by kernel_rfl) rfl (fun _ _ _ h => h) (by rfl) ?hy156 (by assumption) ?rest156
             case hy156 => (intro w hSw; (try dsimp only at hSw); go_simp; try with_reducible rfl))
        try simp only [Act.put, List.setIfInBounds_toArray, List.set_cons_zero, List.set_cons_succ]
        first
          | (refine held_skip 17 33 rfl (by kernel_rfl) (by kernel_rfl) (by kernel_rfl) rfl (fun _ _ _ h => h) (by rfl) (by assumption) ?_)
          | (refine held_take 17 33 ?vv157 rfl (by kernel_rfl) (by kernel_rfl) (by kernel_rfl) rfl (fun _ _ _ h => h) (by rfl) ?hy157 (by assumption) ?rest157
             case hy157 => (intro w hSw; (try dsimp only at hSw); go_simp; try with_reducible rfl))
        try simp only [Act.put, List.setIfInBounds_toArray, List.set_cons_zero, List.set_cons_succ]
        first
          | (refine held_skip 18 34 rfl (by kernel_rfl) (by kernel_rfl) (by kernel_rfl) rfl (fun _ _ _ h => h) (by rfl) (by assumption) ?_)
          | (refine held_take 18 34 ?vv158 rfl (by kernel_rfl) (by kernel_rfl) (by kernel_rfl) rfl (fun _ _ _ h => h) (by rfl) ?hy158 (by assumption) ?rest158
             case hy158 => (intro w hSw; (try dsimp only at hSw); go_simp; try with_reducible rfl))
        try simp only [Act.put, List.setIfInBounds_toArray, List.set_cons_zero, List.set_cons_succ]
        first
          | (refine held_skip 19 35 rfl (by kernel_rfl) (by kernel_rfl) (by kernel_rfl) rfl (fun _ _ _ h => h) (by rfl) (by assumption) ?_)
          | (refine held_take 19 35 ?vv159 rfl (by kernel_rfl) (by kernel_rfl) (by kernel_rfl) rfl (fun _ _ _ h => h) (by rfl) ?hy159 (by assumption) ?rest159
             case hy159 => (intro w hSw; (try dsimp only at hSw); go_simp; try with_reducible rfl))
        try simp only [Act.put, List.setIfInBounds_toArray, List.set_cons_zero, List.set_cons_succ]
        first
          | (refine held_skip 20 36 rfl (by kernel_rfl) (by kernel_rfl) (by kernel_rfl) rfl (fun _ _ _ h => h) (by rfl) (by assumption) ?_)
          | (refine held_take 20 36 ?vv160 rfl (by kernel_rfl) (by kernel_rfl) (by kernel_rfl) rfl (fun _ _ _ h => h) (by rfl) ?hy160 (by assumption) ?rest160
             case hy160 => (intro w hSw; (try dsimp only at hSw); go_simp; try with_reducible rfl))
        try simp only [Act.put, List.setIfInBounds_toArray, List.set_cons_zero, List.set_cons_succ]
        first
          | (refine held_skip 21 37 rfl (by kernel_rfl) (by kernel_rfl) (by kernel_rfl) rfl (fun _ _ _ h => h) (by rfl) (by assumption) ?_)
          | (refine held_take 21 37 ?vv161 rfl (by kernel_rfl) (by kernel_rfl) (by kernel_rfl) rfl (fun _ _ _ h => h) (by rfl) ?hy161 (by assumption) ?rest161
             case hy161 => (intro w hSw; (try dsimp only at hSw); go_simp; try with_reducible rfl))
        try simp only [Act.put, List.setIfInBounds_toArray, List.set_cons_zero, List.set_cons_succ]
        first
          | (refine held_skip 22 38 rfl (by kernel_rfl) (by kernel_rfl) (by kernel_rfl) rfl (fun _ _ _ h => h) (by rfl) (by assumption) ?_)
          | (refine held_take 22 38 ?vv162 rfl (by kernel_rfl) (by kernel_rfl) (by kernel_rfl) rfl (fun _ _ _ h => h) (by rfl) ?hy162 (by assumption) ?rest162
             case hy162 => (intro w hSw; (try dsimp only at hSw); go_simp; try with_reducible rfl))
        try simp only [Act.put, List.setIfInBounds_toArray, List.set_cons_zero, List.set_cons_succ]
        first
          | (refine held_skip 23 39 rfl (by kernel_rfl) (by kernel_rfl) (by kernel_rfl) rfl (fun _ _ _ h => h) (by rfl) (by assumption) ?_)
          | (refine held_take 23 39 ?vv163 rfl (by kernel_rfl) (by kernel_rfl) (by kernel_rfl) rfl (fun _ _ _ h => h) (by rfl) ?hy163 (by assumption) ?rest163
             case hy163 => (intro w hSw; (try dsimp only at hSw); go_simp; try with_reducible rfl))
        try simp only [Act.put, List.setIfInBounds_toArray, List.set_cons_zero, List.set_cons_succ]
        first
          | (refine held_skip 24 40 rfl (by kernel_rfl) (by kernel_rfl) (by kernel_rfl) rfl (fun _ _ _ h => h) (by rfl) (by assumption) ?_)
          | (refine held_take 24 40 ?vv164 rfl (by kernel_rfl) (by kernel_rfl) (by kernel_rfl) rfl (fun _ _ _ h => h) (by rfl) ?hy164 (by assumption) ?rest164
             case hy164 => (intro w hSw; (try dsimp only at hSw); go_simp; try with_reducible rfl))
        try simp only [Act.put, List.setIfInBounds_toArray, List.set_cons_zero, List.set_cons_succ]
        first
          | (refine held_skip 25 41 rfl (by kernel_rfl) (by kernel_rfl) (by kernel_rfl) rfl (fun _ _ _ h => h) (by rfl) (by assumption) ?_)
          | (refine held_take 25 41 ?vv165 rfl (by kernel_rfl) (by kernel_rfl) (by kernel_rfl) rfl (fun _ _ _ h => h) (by rfl) ?hy165 (by assumption) ?rest165
             case hy165 => (intro w hSw; (try dsimp only at hSw); go_simp; try with_reducible rfl))
        try simp only [Act.put, List.setIfInBounds_toArray, List.set_cons_zero, List.set_cons_succ]
        first
          | (refine held_skip 26 42 rfl (by kernel_rfl) (by kernel_rfl) (by kernel_rfl) rfl (fun _ _ _ h => h) (by rfl) (by assumption) ?_)
          | (refine held_take 26 42 ?vv166 rfl (by kernel_rfl) (by kernel_rfl) (by kernel_rfl) rfl (fun _ _ _ h => h) (by rfl) ?hy166 (by assumption) ?rest166
             case hy166 => (intro w hSw; (try dsimp only at hSw); go_simp; try with_reducible rfl))
        try simp only [Act.put, List.setIfInBounds_toArray, List.set_cons_zero, List.set_cons_succ]
        first
          | (refine held_skip 27 43 rfl (by kernel_rfl) (by kernel_rfl) (by kernel_rfl) rfl (fun _ _ _ h => h) (by rfl) (by assumption) ?_)
          | (refine held_take 27 43 ?vv167 rfl (by kernel_rfl) (by kernel_rfl) (by kernel_rfl) rfl (fun _ _ _ h => h) (by rfl) ?hy167 (by assumption) ?rest167
             case hy167 => (intro w hSw; (try dsimp only at hSw); go_simp; try with_reducible rfl))
        try simp only [Act.put, List.setIfInBounds_toArray, List.set_cons_zero, List.set_cons_succ]
        refine wpAnyH_done (by kernel_rfl) ?_ _
        have HB2 := hide hHeld.2.2
        clear hHeld
        go_wp2
        go_ret
        exact ⟨ret_bool HF.out.symm, HBW.out.trans (Below.mono HB2.out HBW.out.size)⟩
      · have HF := hide (sq_bad HZQ.out hlt (stepQ_out (wd := wd) (hg := hg) HX.out (by unfold inSq; rw [h1, h2]; rfl)))
        have Q1 := hide h1
        have Q2 := hide h2
        clear h1 h2
        refine wp_region_held_drew (S := fun w' => w'.cell? ⟨wr.heap.size, 0, none⟩ = some (.int .i64 x.a) ∧ w'.cell? ⟨wr.heap.size, 1, none⟩ = some (.int .i64 x.b) ∧ Below W.heap.size W w') (by kernel_rfl) ⟨e0, e1, (Below.refl _ _).drew⟩ (fun hHeld => ?_)
        first
          | (refine held_skip 0 16 rfl (by kernel_rfl) (by kernel_rfl) (by kernel_rfl) rfl (fun _ _ _ h => h) (by rfl) (by assumption) ?_)
          | (refine held_take 0 16 ?vv168 rfl (by kernel_rfl) (by kernel_rfl) (by kernel_rfl) rfl (fun _ _ _ h => h) (by rfl) ?hy168 (by assumption) ?rest168
             case hy168 => (intro w hSw; (try dsimp only at hSw); go_simp; try with_reducible rfl))
        try simp only [Act.put, List.setIfInBounds_toArray, List.set_cons_zero, List.set_cons_succ]
        first
          | (refine held_skip 1 17 rfl (by kernel_rfl) (by kernel_rfl) (by kernel_rfl) rfl (fun _ _ _ h => h) (by rfl) (by assumption) ?_)
          | (refine held_take 1 17 ?vv169 rfl (by kernel_rfl) (by kernel_rfl) (by kernel_rfl) rfl (fun _ _ _ h => h) (by rfl) ?hy169 (by assumption) ?rest169
             case hy169 => (intro w hSw; (try dsimp only at hSw); go_simp; try with_reducible rfl))
        try simp only [Act.put, List.setIfInBounds_toArray, List.set_cons_zero, List.set_cons_succ]
        first
          | (refine held_skip 2 18 rfl (by kernel_rfl) (by kernel_rfl) (by kernel_rfl) rfl (fun _ _ _ h => h) (by rfl) (by assumption) ?_)
          | (refine held_take 2 18 ?vv170 rfl (by kernel_rfl) (by kernel_rfl) (by kernel_rfl) rfl (fun _ _ _ h => h) (by rfl) ?hy170 (by assumption) ?rest170
             case hy170 => (intro w hSw; (try dsimp only at hSw); go_simp; try with_reducible rfl))
        try simp only [Act.put, List.setIfInBounds_toArray, List.set_cons_zero, List.set_cons_succ]
        first
          | (refine held_skip 3 19 rfl (by kernel_rfl) (by kernel_rfl) (by kernel_rfl) rfl (fun _ _ _ h => h) (by rfl) (by assumption) ?_)
          | (refine held_take 3 19 ?vv171 rfl (by kernel_rfl) (by kernel_rfl) (by kernel_rfl) rfl (fun _ _ _ h => h) (by rfl) ?hy171 (by assumption) ?rest171
             case hy171 => (intro w hSw; (try dsimp only at hSw); go_simp; try with_reducible rfl))
        try simp only [Act.put, List.setIfInBounds_toArray, List.set_cons_zero, List.set_cons_succ]
        refine wpAnyH_ready (rs := [4]) (by kernel_rfl) (by simp) ?_
        refine AllReadyH.cons rfl (fun K hK => ?_) AllReadyH.nil
        go_simp
        first
          | (refine (within_any _ _ _ _).mono ?_
             rintro e w2 ⟨rfl, hww⟩
             have hb := belowRefl_of hHeld.2.2
             subst hww
             first | rw [Q1.out] | rw [Q2.out])
        go_wp2_with fail
        have hq := Below.trans hHeld.2.2 (Below.mono hb hHeld.2.2.size)
        refine hK.out _ _ ⟨(hq.cell (p := ⟨wr.heap.size, 0, none⟩) g0).trans e0, (hq.cell (p := ⟨wr.heap.size, 1, none⟩) g0).trans e1, hq⟩ (fun hHeld => ?_)
        clear hq hb hK K
        try simp only [Act.put, List.setIfInBounds_toArray, List.set_cons_zero, List.set_cons_succ]
        first
          | (refine held_skip 5 21 rfl (by kernel_rfl) (by kernel_rfl) (by kernel_rfl) rfl (fun _ _ _ h => h) (by rfl) (by assumption) ?_)
          | (refine held_take 5 21 ?vv172 rfl (by kernel_rfl) (by kernel_rfl) (by kernel_rfl) rfl (fun _ _ _ h => h) (by rfl) ?hy172 (by assumption) ?rest172
             case hy172 => (intro w hSw; (try dsimp only at hSw); go_simp; try with_reducible rfl))
        try simp only [Act.put, List.setIfInBounds_toArray, List.set_cons_zero, List.set_cons_succ]
        first
          | (refine held_skip 6 22 rfl (by kernel_rfl) (by kernel_rfl) (by kernel_rfl) rfl (fun _ _ _ h => h) (by rfl) (by assumption) ?_)
          | (refine held_take 6 22 ?vv173 rfl (by kernel_rfl) (by kernel_rfl) (by kernel_rfl) rfl (fun _ _ _ h => h) (by rfl) ?hy173 (by assumption) ?rest173
             case hy173 => (intro w hSw; (try dsimp only at hSw); go_simp; try with_reducible rfl))
        try simp only [Act.put, List.setIfInBounds_toArray, List.set_cons_zero, List.set_cons_succ]
        first
          | (refine held_skip 7 23 rfl (by kernel_rfl) (by kernel_rfl) (by kernel_rfl) rfl (fun _ _ _ h => h) (by rfl) (by assumption) ?_)
          | (refine held_take 7 23 ?vv174 rfl (by kernel_rfl) (by kernel_rfl) (by kernel_rfl) rfl (fun _ _ _ h => h) (by rfl) ?hy174 (by assumption) ?rest174
             case hy174 => (intro w hSw; (try dsimp only at hSw); go_simp; try with_reducible rfl))
        try simp only [Act.put, List.setIfInBounds_toArray, List.set_cons_zero, List.set_cons_succ]
        first
          | (refine held_skip 8 24 rfl (by kernel_rfl) (by kernel_rfl) (by kernel_rfl) rfl (fun _ _ _ h => h) (by rfl) (by assumption) ?_)
          | (refine held_take 8 24 ?vv175 rfl (by kernel_rfl) (by kernel_rfl) (by kernel_rfl) rfl (fun _ _ _ h => h) (by rfl) ?hy175 (by assumption) ?rest175
             case hy175 => (intro w hSw; (try dsimp only at hSw); go_simp; try with_reducible rfl))
        try simp only [Act.put, List.setIfInBounds_toArray, List.set_cons_zero, List.set_cons_succ]
        first
          | (refine held_skip 9 25 rfl (by kernel_rfl) (by kernel_rfl) (by kernel_rfl) rfl (fun _ _ _ h => h) (by rfl) (by assumption) ?_)
          | (refine held_take 9 25 ?vv176 rfl (by kernel_rfl) (by kernel_rfl) (by kernel_rfl) rfl (fun _ _ _ h => h) (by rfl) ?hy176 (by assumption) ?rest176
             case hy176 => (intro w hSw; (try dsimp only at hSw); go_simp; try with_reducible rfl))
        try simp only [Act.put, List.setIfInBounds_toArray, List.set_cons_zero, List.set_cons_succ]
        first
          | (refine held_skip 10 26 rfl (by kernel_rfl) (by kernel_rfl) (by kernel_rfl) rfl (fun _ _ _ h => h) (by rfl) (by assumption) ?_)
          | (refine held_take 10 26 ?vv177 rfl (by kernel_rfl) (by kernel_rfl) (by kernel_rfl) rfl (fun _ _ _ h => h) (by rfl) ?hy177 (by assumption) ?rest177
             case hy177 => (intro w hSw; (try dsimp only at hSw); go_simp; try with_reducible rfl))
        try simp only [Act.put, List.setIfInBounds_toArray, List.set_cons_zero, List.set_cons_succ]
        refine wpAnyH_ready (rs := [11]) (by kernel_rfl) (by simp) ?_
        refine AllReadyH.cons rfl (fun K hK => ?_) AllReadyH.nil
        go_simp
        first
          | (refine (within_any _ _ _ _).mono ?_
             rintro e w2 ⟨rfl, hww⟩
             have hb := belowRefl_of hHeld.2.2
             subst hww
             first | rw [Q1.out] | rw [Q2.out])
        go_wp2_with fail
        have hq := Below.trans hHeld.2.2 (Below.mono hb hHeld.2.2.size)
        refine hK.out _ _ ⟨(hq.cell (p := ⟨wr.heap.size, 0, none⟩) g0).trans e0, (hq.cell (p := ⟨wr.heap.size, 1, none⟩) g0).trans e1, hq⟩ (fun hHeld => ?_)
        clear hq hb hK K
        try simp only [Act.put, List.setIfInBounds_toArray, List.set_cons_zero, List.set_cons_succ]
        first
          | (refine held_skip 12 28 rfl (by kernel_rfl) (by kernel_rfl) (by kernel_rfl) rfl (fun _ _ _ h => h) (by rfl) (by assumption) ?_)
          | (refine held_take 12 28 ?vv178 rfl (by kernel_rfl) (by kernel_rfl) (by kernel_rfl) rfl (fun _ _ _ h => h) (by rfl) ?hy178 (by assumption) ?rest178
             case hy178 => (intro w hSw; (try dsimp only at hSw); go_simp; try with_reducible rfl))
        try simp only [Act.put, List.setIfInBounds_toArray, List.set_cons_zero, List.set_cons_succ]
        first
          | (refine held_skip 13 29 rfl (by kernel_rfl) (by kernel_rfl) (by kernel_rfl) rfl (fun _ _ _ h => h) (by rfl) (by assumption) ?_)
          | (refine held_take 13 29 ?vv179 rfl (by kernel_rfl) (by kernel_rfl) (by kernel_rfl) rfl (fun _ _ _ h => h) (by rfl) ?hy179 (by assumption) ?rest179
             case hy179 => (intro w hSw; (try dsimp only at hSw); go_simp; try with_reducible rfl))
        try simp only [Act.put, List.setIfInBounds_toArray, List.set_cons_zero, List.set_cons_succ]
        first
          | (refine held_skip 14 30 rfl (by kernel_rfl) (by kernel_rfl) (by kernel_rfl) rfl (fun _ _ _ h => h) (by rfl) (by assumption) ?_)
          | (refine held_take 14 30 ?vv180 rfl (by kernel_rfl) (by kernel_rfl) (by kernel_rfl) rfl (fun _ _ _ h => h) (by rfl) ?hy180 (by assumption) ?rest180
             case hy180 => (intro w hSw; (try dsimp only at hSw); go_simp; try with_reducible rfl))
        try simp only [Act.put, List.setIfInBounds_toArray, List.set_cons_zero, List.set_cons_succ]
        first
          | (refine held_skip 15 31 rfl (by kernel_rfl) (by kernel_rfl) (by kernel_rfl) rfl (fun _ _ _ h => h) (by rfl) (by assumption) ?_)
          | (refine held_take 15 31 ?vv181 rfl (by kernel_rfl) (by kernel_rfl) (by kernel_rfl) rfl (fun _ _ _ h => h) (by rfl) ?hy181 (by assumption) ?rest181
             case hy181 => (intro w hSw; (try dsimp only at hSw); go_simp; try with_reducible rfl))
        try simp only [Act.put, List.setIfInBounds_toArray, List.set_cons_zero, List.set_cons_succ]
        first
          | (refine held_skip 16 32 rfl (by kernel_rfl) (by kernel_rfl) (by kernel_rfl) rfl (fun _ _ _ h => h) (by rfl) (by assumption) ?_)
          | (refine held_take 16 32 ?vv182 rfl (by kernel_rfl) (by kernel_rfl) (by kernel_rfl) rfl (fun _ _ _ h => h) (by rfl) ?hy182 (by assumption) ?rest182
             case hy182 => (intro w hSw; (try dsimp only at hSw); go_simp; try with_reducible rfl))
        try simp only [Act.put, List.setIfInBounds_toArray, List.set_cons_zero, List.set_cons_succ]
        first
          | (refine held_skip 17 33 rfl (by kernel_rfl) (by kernel_rfl) (by kernel_rfl) rfl (fun _ _ _ h => h) (by rfl) (by assumption) ?_)
          | (refine held_take 17 33 ?vv183 rfl (by kernel_rfl) (by kernel_rfl) (by kernel_rfl) rfl (fun _ _ _ h => h) (by rfl) ?hy183 (by assumption) ?rest183
             case hy183 => (intro w hSw; (try dsimp only at hSw); go_simp; try with_reducible rfl))
        try simp only [Act.put, List.setIfInBounds_toArray, List.set_cons_zero, List.set_cons_succ]
        first
          | (refine held_skip 18 34 rfl (by kernel_rfl) (by kernel_rfl) (by kernel_rfl) rfl (fun _ _ _ h => h) (by rfl) (by assumption) ?_)
          | (refine held_take 18 34 ?vv184 rfl (by kernel_rfl) (by kernel_rfl) (by kernel_rfl) rfl (fun _ _ _ h => h) (by rfl) ?hy184 (by assumption) ?rest184
             case hy184 => (intro w hSw; (try dsimp only at hSw); go_simp; try with_reducible rfl))
        try simp only [Act.put, List.setIfInBounds_toArray, List.set_cons_zero, List.set_cons_succ]
        first
          | (refine held_skip 19 35 rfl (by kernel_rfl) (by kernel_rfl) (by kernel_rfl) rfl (fun _ _ _ h => h) (by rfl) (by assumption) ?_)
          | (refine held_take 19 35 ?vv185 rfl (by kernel_rfl) (by kernel_rfl) (by kernel_rfl) rfl (fun _ _ _ h => h) (by rfl) ?hy185 (by assumption) ?rest185
             case hy185 => (intro w hSw; (try dsimp only at hSw); go_simp; try with_reducible rfl))
        try simp only [Act.put, List.setIfInBounds_toArray, List.set_cons_zero, List.set_cons_succ]
        first
          | (refine held_skip 20 36 rfl (by kernel_rfl) (by kernel_rfl) (by kernel_rfl) rfl (fun _ _ _ h => h) (by rfl) (by assumption) ?_)
          | (refine held_take 20 36 ?vv186 rfl (by kernel_rfl) (by kernel_rfl) (by kernel_rfl) rfl (fun _ _ _ h => h) (by rfl) ?hy186 (by assumption) ?rest186
             case hy186 => (intro w hSw; (try dsimp only at hSw); go_simp; try with_reducible rfl))
        try simp only [Act.put, List.setIfInBounds_toArray, List.set_cons_zero, List.set_cons_succ]
        first
          | (refine held_skip 21 37 rfl (by kernel_rfl) (by kernel_rfl) (by kernel_rfl) rfl (fun _ _ _ h => h) (by rfl) (by assumption) ?_)
          | (refine held_take 21 37 ?vv187 rfl (by kernel_rfl) (by kernel_rfl) (by kernel_rfl) rfl (fun _ _ _ h => h) (by rfl) ?hy187 (by assumption) ?rest187
             case hy187 => (intro w hSw; (try dsimp only at hSw); go_simp; try with_reducible rfl))
        try simp only [Act.put, List.setIfInBounds_toArray, List.set_cons_zero, List.set_cons_succ]
        first
          | (refine held_skip 22 38 rfl (by kernel_rfl) (by kernel_rfl) (by kernel_rfl) rfl (fun _ _ _ h => h) (by rfl) (by assumption) ?_)
          | (refine held_take 22 38 ?vv188 rfl (by kernel_rfl) (by kernel_rfl) (by kernel_rfl) rfl (fun _ _ _ h => h) (by rfl) ?hy188 (by assumption) ?rest188
             case hy188 => (intro w hSw; (try dsimp only at hSw); go_simp; try with_reducible rfl))
        try simp only [Act.put, List.setIfInBounds_toArray, List.set_cons_zero, List.set_cons_succ]
        first
          | (refine held_skip 23 39 rfl (by kernel_rfl) (by kernel_rfl) (by kernel_rfl) rfl (fun _ _ _ h => h) (by rfl) (by assumption) ?_)
          | (refine held_take 23 39 ?vv189 rfl (by kernel_rfl) (by kernel_rfl) (by kernel_rfl) rfl (fun _ _ _ h => h) (by rfl) ?hy189 (by assumption) ?rest189
             case hy189 => (intro w hSw; (try dsimp only at hSw); go_simp; try with_reducible rfl))
        try simp only [Act.put, List.setIfInBounds_toArray, List.set_cons_zero, List.set_cons_succ]
        first
          | (refine held_skip 24 40 rfl (by kernel_rfl) (by kernel_rfl) (by kernel_rfl) rfl (fun _ _ _ h => h) (by rfl) (by assumption) ?_)
          | (refine held_take 24 40 ?vv190 rfl (by kernel_rfl) (by kernel_rfl) (by kernel_rfl) rfl (fun _ _ _ h => h) (by rfl) ?hy190 (by assumption) ?rest190
             case hy190 => (intro w hSw; (try dsimp only at hSw); go_simp; try with_reducible rfl))
        try simp only [Act.put, List.setIfInBounds_toArray, List.set_cons_zero, List.set_cons_succ]
        first
          | (refine held_skip 25 41 rfl (by kernel_rfl) (by kernel_rfl) (by kernel_rfl) rfl (fun _ _ _ h => h) (by rfl) (by assumption) ?_)
          | (refine held_take 25 41 ?vv191 rfl (by kernel_rfl) (by kernel_rfl) (by kernel_rfl) rfl (fun _ _ _ h => h) (by rfl) ?hy191 (by assumption) ?rest191
             case hy191 => (intro w hSw; (try dsimp only at hSw); go_simp; try with_reducible rfl))
        try simp only [Act.put, List.setIfInBounds_toArray, List.set_cons_zero, List.set_cons_succ]
        first
          | (refine held_skip 26 42 rfl (by kernel_rfl) (by kernel_rfl) (by kernel_rfl) rfl (fun _ _ _ h => h) (by rfl) (by assumption) ?_)
          | (refine held_take 26 42 ?vv192 rfl (by kernel_rfl) (by kernel_rfl) (by kernel_rfl) rfl (fun _ _ _ h => h) (by rfl) ?hy192 (by assumption) ?rest192
             case hy192 => (intro w hSw; (try dsimp only at hSw); go_simp; try with_reducible rfl))
        try simp only [Act.put, List.setIfInBounds_toArray, List.set_cons_zero, List.set_cons_succ]
        first
          | (refine held_skip 27 43 rfl (by kernel_rfl) (by kernel_rfl) (by kernel_rfl) rfl (fun _ _ _ h => h) (by rfl) (by assumption) ?_)
          | (refine held_take 27 43 ?vv193 rfl (by kernel_rfl) (by kernel_rfl) (by kernel_rfl) rfl (fun _ _ _ h => h) (by rfl) ?hy193 (by assumption) ?rest193
             case hy193 => (intro w hSw; (try dsimp only at hSw); go_simp; try with_reducible rfl))
        try simp only [Act.put, List.setIfInBounds_toArray, List.set_cons_zero, List.set_cons_succ]
        refine wpAnyH_done (by kernel_rfl) ?_ _
        have HB2 := hide hHeld.2.2
        clear hHeld
        go_wp2
        go_ret
        exact ⟨ret_bool HF.out.symm, HBW.out.trans (Below.mono HB2.out HBW.out.size)⟩
      · have HIN : Hid (inSq wd hg x = true) := hide (by unfold inSq; rw [h1, h2]; rfl)
        have Q1 := hide h1
        have Q2 := hide h2
        clear h1 h2
        by_cases hk0 : k = 0
        · have k1 : decide (0 < k) = false := by simp [hk0]
          have HOK := hide (stepQ_0 HX.out HIN.out hk0)
          clear hk0
          refine wp_region_held_drew (S := fun w' => w'.cell? ⟨wr.heap.size, 0, none⟩ = some (.int .i64 x.a) ∧ w'.cell? ⟨wr.heap.size, 1, none⟩ = some (.int .i64 x.b) ∧ Below W.heap.size W w') (by kernel_rfl) ⟨e0, e1, (Below.refl _ _).drew⟩ (fun hHeld => ?_)
          first
            | (refine held_skip 0 16 rfl (by kernel_rfl) (by kernel_rfl) (by kernel_rfl) rfl (fun _ _ _ h => h) (by rfl) (by assumption) ?_)
            | (refine held_take 0 16 ?vv194 rfl (by kernel_rfl) (by kernel_rfl) (by kernel_rfl) rfl (fun _ _ _ h => h) (by rfl) ?hy194 (by assumption) ?rest194
               case hy194 => (intro w hSw; (try dsimp only at hSw); go_simp; try with_reducible rfl))
          try simp only [Act.put, List.setIfInBounds_toArray, List.set_cons_zero, List.set_cons_succ]
          first
            | (refine held_skip 1 17 rfl (by kernel_rfl) (by kernel_rfl) (by kernel_rfl) rfl (fun _ _ _ h => h) (by rfl) (by assumption) ?_)
            | (refine held_take 1 17 ?vv195 rfl (by kernel_rfl) (by kernel_rfl) (by kernel_rfl) rfl (fun _ _ _ h => h) (by rfl) ?hy195 (by assumption) ?rest195
               case hy195 => (intro w hSw; (try dsimp only at hSw); go_simp; try with_reducible rfl))
          try simp only [Act.put, List.setIfInBounds_toArray, List.set_cons_zero, List.set_cons_succ]
          first
            | (refine held_skip 2 18 rfl (by kernel_rfl) (by kernel_rfl) (by kernel_rfl) rfl (fun _ _ _ h => h) (by rfl) (by assumption) ?_)
            | (refine held_take 2 18 ?vv196 rfl (by kernel_rfl) (by kernel_rfl) (by kernel_rfl) rfl (fun _ _ _ h => h) (by rfl) ?hy196 (by assumption) ?rest196
               case hy196 => (intro w hSw; (try dsimp only at hSw); go_simp; try with_reducible rfl))
          try simp only [Act.put, List.setIfInBounds_toArray, List.set_cons_zero, List.set_cons_succ]
          first
            | (refine held_skip 3 19 rfl (by kernel_rfl) (by kernel_rfl) (by kernel_rfl) rfl (fun _ _ _ h => h) (by rfl) (by assumption) ?_)
            | (refine held_take 3 19 ?vv197 rfl (by kernel_rfl) (by kernel_rfl) (by kernel_rfl) rfl (fun _ _ _ h => h) (by rfl) ?hy197 (by assumption) ?rest197
               case hy197 => (intro w hSw; (try dsimp only at hSw); go_simp; try with_reducible rfl))
          try simp only [Act.put, List.setIfInBounds_toArray, List.set_cons_zero, List.set_cons_succ]
          refine wpAnyH_ready (rs := [4]) (by kernel_rfl) (by simp) ?_
          refine AllReadyH.cons rfl (fun K hK => ?_) AllReadyH.nil
          go_simp
          first
            | (refine (within_any _ _ _ _).mono ?_
               rintro e w2 ⟨rfl, hww⟩
               have hb := belowRefl_of hHeld.2.2
               subst hww
               first | rw [Q1.out] | rw [Q2.out])
          go_wp2_with fail
          have hq := Below.trans hHeld.2.2 (Below.mono hb hHeld.2.2.size)
          refine hK.out _ _ ⟨(hq.cell (p := ⟨wr.heap.size, 0, none⟩) g0).trans e0, (hq.cell (p := ⟨wr.heap.size, 1, none⟩) g0).trans e1, hq⟩ (fun hHeld => ?_)
          clear hq hb hK K
          try simp only [Act.put, List.setIfInBounds_toArray, List.set_cons_zero, List.set_cons_succ]
          first
            | (refine held_skip 5 21 rfl (by kernel_rfl) (by kernel_rfl) (by kernel_rfl) rfl (fun _ _ _ h => h) (by rfl) (by assumption) ?_)
            | (refine held_take 5 21 ?vv198 rfl (by kernel_rfl) (by kernel_rfl) (by kernel_rfl) rfl (fun _ _ _ h => h) (by rfl) ?hy198 (by assumption) ?rest198
               case hy198 => (intro w hSw; (try dsimp only at hSw); go_simp; try with_reducible rfl))
          try simp only [Act.put, List.setIfInBounds_toArray, List.set_cons_zero, List.set_cons_succ]
          first
            | (refine held_skip 6 22 rfl (by kernel_rfl) (by kernel_rfl) (by kernel_rfl) rfl (fun _ _ _ h => h) (by rfl) (by assumption) ?_)
            | (refine held_take 6 22 ?vv199 rfl (by kernel_rfl) (by kernel_rfl) (by kernel_rfl) rfl (fun _ _ _ h => h) (by rfl) ?hy199 (by assumption) ?rest199
               case hy199 => (intro w hSw; (try dsimp only at hSw); go_simp; try with_reducible rfl))
          try simp only [Act.put, List.setIfInBounds_toArray, List.set_cons_zero, List.set_cons_succ]
          first
            | (refine held_skip 7 23 rfl (by kernel_rfl) (by kernel_rfl) (by kernel_rfl) rfl (fun _ _ _ h => h) (by rfl) (by assumption) ?_)
            | (refine held_take 7 23 ?vv200 rfl (by kernel_rfl) (by kernel_rfl) (by kernel_rfl) rfl (fun _ _ _ h => h) (by rfl) ?hy200 (by assumption) ?rest200
               case hy200 => (intro w hSw; (try dsimp only at hSw); go_simp; try with_reducible rfl))
          try simp only [Act.put, List.setIfInBounds_toArray, List.set_cons_zero, List.set_cons_succ]
          first
            | (refine held_skip 8 24 rfl (by kernel_rfl) (by kernel_rfl) (by kernel_rfl) rfl (fun _ _ _ h => h) (by rfl) (by assumption) ?_)
            | (refine held_take 8 24 ?vv201 rfl (by kernel_rfl) (by kernel_rfl) (by kernel_rfl) rfl (fun _ _ _ h => h) (by rfl) ?hy201 (by assumption) ?rest201
               case hy201 => (intro w hSw; (try dsimp only at hSw); go_simp; try with_reducible rfl))
          try simp only [Act.put, List.setIfInBounds_toArray, List.set_cons_zero, List.set_cons_succ]
          first
            | (refine held_skip 9 25 rfl (by kernel_rfl) (by kernel_rfl) (by kernel_rfl) rfl (fun _ _ _ h => h) (by rfl) (by assumption) ?_)
            | (refine held_take 9 25 ?vv202 rfl (by kernel_rfl) (by kernel_rfl) (by kernel_rfl) rfl (fun _ _ _ h => h) (by rfl) ?hy202 (by assumption) ?rest202
               case hy202 => (intro w hSw; (try dsimp only at hSw); go_simp; try with_reducible rfl))
          try simp only [Act.put, List.setIfInBounds_toArray, List.set_cons_zero, List.set_cons_succ]
          first
            | (refine held_skip 10 26 rfl (by kernel_rfl) (by kernel_rfl) (by kernel_rfl) rfl (fun _ _ _ h => h) (by rfl) (by assumption) ?_)
            | (refine held_take 10 26 ?vv203 rfl (by kernel_rfl) (by kernel_rfl) (by kernel_rfl) rfl (fun _ _ _ h => h) (by rfl) ?hy203 (by assumption) ?rest203
               case hy203 => (intro w hSw; (try dsimp only at hSw); go_simp; try with_reducible rfl))
          try simp only [Act.put, List.setIfInBounds_toArray, List.set_cons_zero, List.set_cons_succ]
          refine wpAnyH_ready (rs := [11]) (by kernel_rfl) (by simp) ?_
          refine AllReadyH.cons rfl (fun K hK => ?_) AllReadyH.nil
          go_simp
          first
            | (refine (within_any _ _ _ _).mono ?_
               rintro e w2 ⟨rfl, hww⟩
               have hb := belowRefl_of hHeld.2.2
               subst hww
               first | rw [Q1.out] | rw [Q2.out])
          go_wp2_with fail
          have hq := Below.trans hHeld.2.2 (Below.mono hb hHeld.2.2.size)
          refine hK.out _ _ ⟨(hq.cell (p := ⟨wr.heap.size, 0, none⟩) g0).trans e0, (hq.cell (p := ⟨wr.heap.size, 1, none⟩) g0).trans e1, hq⟩ (fun hHeld => ?_)
          clear hq hb hK K
          try simp only [Act.put, List.setIfInBounds_toArray, List.set_cons_zero, List.set_cons_succ]
          first
            | (refine held_skip 12 28 rfl (by kernel_rfl) (by kernel_rfl) (by kernel_rfl) rfl (fun _ _ _ h => h) (by rfl) (by assumption) ?_)
            | (refine held_take 12 28 ?vv204 rfl (by kernel_rfl) (by kernel_rfl) (by kernel_rfl) rfl (fun _ _ _ h => h) (by rfl) ?hy204 (by assumption) ?rest204
               case hy204 => (intro w hSw; (try dsimp only at hSw); go_simp; try with_reducible rfl))
          try simp only [Act.put, List.setIfInBounds_toArray, List.set_cons_zero, List.set_cons_succ]
          first
            | (refine held_skip 13 29 rfl (by kernel_rfl) (by kernel_rfl) (by kernel_rfl) rfl (fun _ _ _ h => h) (by rfl) (by assumption) ?_)
            | (refine held_take 13 29 ?vv205 rfl (by kernel_rfl) (by kernel_rfl) (by kernel_rfl) rfl (fun _ _ _ h => h) (by rfl) ?hy205 (by assumption) ?rest205
               case hy205 => (intro w hSw; (try dsimp only at hSw); go_simp; try with_reducible rfl))
          try simp only [Act.put, List.setIfInBounds_toArray, List.set_cons_zero, List.set_cons_succ]
          first
            | (refine held_skip 14 30 rfl (by kernel_rfl) (by kernel_rfl) (by kernel_rfl) rfl (fun _ _ _ h => h) (by rfl) (by assumption) ?_)
            | (refine held_take 14 30 ?vv206 rfl (by kernel_rfl) (by kernel_rfl) (by kernel_rfl) rfl (fun _ _ _ h => h) (by rfl) ?hy206 (by assumption) ?rest206
               case hy206 => (intro w hSw; (try dsimp only at hSw); go_simp; try with_reducible rfl))
          try simp only [Act.put, List.setIfInBounds_toArray, List.set_cons_zero, List.set_cons_succ]
          first
            | (refine held_skip 15 31 rfl (by kernel_rfl) (by kernel_rfl) (by kernel_rfl) rfl (fun _ _ _ h => h) (by rfl) (by assumption) ?_)
            | (refine held_take 15 31 ?vv207 rfl (by kernel_rfl) (by kernel_rfl) (by kernel_rfl) rfl (fun _ _ _ h => h) (by rfl) ?hy207 (by assumption) ?rest207
               case hy207 => (intro w hSw; (try dsimp only at hSw); go_simp; try with_reducible rfl))
          try simp only [Act.put, List.setIfInBounds_toArray, List.set_cons_zero, List.set_cons_succ]
          first
            | (refine held_skip 16 32 rfl (by kernel_rfl) (by kernel_rfl) (by kernel_rfl) rfl (fun _ _ _ h => h) (by rfl) (by assumption) ?_)
            | (refine held_take 16 32 ?vv208 rfl (by kernel_rfl) (by kernel_rfl) (by kernel_rfl) rfl (fun _ _ _ h => h) (by rfl) ?hy208 (by assumption) ?rest208
               case hy208 => (intro w hSw; (try dsimp only at hSw); go_simp; try with_reducible rfl))
          try simp only [Act.put, List.setIfInBounds_toArray, List.set_cons_zero, List.set_cons_succ]
          first
            | (refine held_skip 17 33 rfl (by kernel_rfl) (by kernel_rfl) (by kernel_rfl) rfl (fun _ _ _ h => h) (by rfl) (by assumption) ?_)
            | (refine held_take 17 33 ?vv209 rfl (by kernel_rfl) (by kernel_rfl) (by kernel_rfl) rfl (fun _ _ _ h => h) (by rfl) ?hy209 (by assumption) ?rest209
               case hy209 => (intro w hSw; (try dsimp only at hSw); go_simp; try with_reducible rfl))
          try simp only [Act.put, List.setIfInBounds_toArray, List.set_cons_zero, List.set_cons_succ]
          first
            | (refine held_skip 18 34 rfl (by kernel_rfl) (by kernel_rfl) (by kernel_rfl) rfl (fun _ _ _ h => h) (by rfl) (by assumption) ?_)
            | (refine held_take 18 34 ?vv210 rfl (by kernel_rfl) (by kernel_rfl) (by kernel_rfl) rfl (fun _ _ _ h => h) (by rfl) ?hy210 (by assumption) ?rest210
               case hy210 => (intro w hSw; (try dsimp only at hSw); go_simp; try with_reducible rfl))
          try simp only [Act.put, List.setIfInBounds_toArray, List.set_cons_zero, List.set_cons_succ]
          first
            | (refine held_skip 19 35 rfl (by kernel_rfl) (by kernel_rfl) (by kernel_rfl) rfl (fun _ _ _ h => h) (by rfl) (by assumption) ?_)
            | (refine held_take 19 35 ?vv211 rfl (by kernel_rfl) (by kernel_rfl) (by kernel_rfl) rfl (fun _ _ _ h => h) (by rfl) ?hy211 (by assumption) ?rest211
               case hy211 => (intro w hSw; (try dsimp only at hSw); go_simp; try with_reducible rfl))
          try simp only [Act.put, List.setIfInBounds_toArray, List.set_cons_zero, List.set_cons_succ]
          first
            | (refine held_skip 20 36 rfl (by kernel_rfl) (by kernel_rfl) (by kernel_rfl) rfl (fun _ _ _ h => h) (by rfl) (by assumption) ?_)
            | (refine held_take 20 36 ?vv212 rfl (by kernel_rfl) (by kernel_rfl) (by kernel_rfl) rfl (fun _ _ _ h => h) (by rfl) ?hy212 (by assumption) ?rest212
               case hy212 => (intro w hSw; (try dsimp only at hSw); go_simp; try with_reducible rfl))
          try simp only [Act.put, List.setIfInBounds_toArray, List.set_cons_zero, List.set_cons_succ]
          first
            | (refine held_skip 21 37 rfl (by kernel_rfl) (by kernel_rfl) (by kernel_rfl) rfl (fun _ _ _ h => h) (by rfl) (by assumption) ?_)
            | (refine held_take 21 37 ?vv213 rfl (by kernel_rfl) (by kernel_rfl) (by kernel_rfl) rfl (fun _ _ _ h => h) (by rfl) ?hy213 (by assumption) ?rest213
               case hy213 => (intro w hSw; (try dsimp only at hSw); go_simp; try with_reducible rfl))
          try simp only [Act.put, List.setIfInBounds_toArray, List.set_cons_zero, List.set_cons_succ]
          first
            | (refine held_skip 22 38 rfl (by kernel_rfl) (by kernel_rfl) (by kernel_rfl) rfl (fun _ _ _ h => h) (by rfl) (by assumption) ?_)
            | (refine held_take 22 38 ?vv214 rfl (by kernel_rfl) (by kernel_rfl) (by kernel_rfl) rfl (fun _ _ _ h => h) (by rfl) ?hy214 (by assumption) ?rest214
               case hy214 => (intro w hSw; (try dsimp only at hSw); go_simp; try with_reducible rfl))
          try simp only [Act.put, List.setIfInBounds_toArray, List.set_cons_zero, List.set_cons_succ]
          first
            | (refine held_skip 23 39 rfl (by kernel_rfl) (by kernel_rfl) (by kernel_rfl) rfl (fun _ _ _ h => h) (by rfl) (by assumption) ?_)
            | (refine held_take 23 39 ?vv215 rfl (by kernel_rfl) (by kernel_rfl) (by kernel_rfl) rfl (fun _ _ _ h => h) (by rfl) ?hy215 (by assumption) ?rest215
               case hy215 => (intro w hSw; (try dsimp only at hSw); go_simp; try with_reducible rfl))
          try simp only [Act.put, List.setIfInBounds_toArray, List.set_cons_zero, List.set_cons_succ]
          first
            | (refine held_skip 24 40 rfl (by kernel_rfl) (by kernel_rfl) (by kernel_rfl) rfl (fun _ _ _ h => h) (by rfl) (by assumption) ?_)
            | (refine held_take 24 40 ?vv216 rfl (by kernel_rfl) (by kernel_rfl) (by kernel_rfl) rfl (fun _ _ _ h => h) (by rfl) ?hy216 (by assumption) ?rest216
               case hy216 => (intro w hSw; (try dsimp only at hSw); go_simp; try with_reducible rfl))
          try simp only [Act.put, List.setIfInBounds_toArray, List.set_cons_zero, List.set_cons_succ]
          first
            | (refine held_skip 25 41 rfl (by kernel_rfl) (by kernel_rfl) (by kernel_rfl) rfl (fun _ _ _ h => h) (by rfl) (by assumption) ?_)
            | (refine held_take 25 41 ?vv217 rfl (by kernel_rfl) (by kernel_rfl) (by kernel_rfl) rfl (fun _ _ _ h => h) (by rfl) ?hy217 (by assumption) ?rest217
               case hy217 => (intro w hSw; (try dsimp only at hSw); go_simp; try with_reducible rfl))
          try simp only [Act.put, List.setIfInBounds_toArray, List.set_cons_zero, List.set_cons_succ]
          first
            | (refine held_skip 26 42 rfl (by kernel_rfl) (by kernel_rfl) (by kernel_rfl) rfl (fun _ _ _ h => h) (by rfl) (by assumption) ?_)
            | (refine held_take 26 42 ?vv218 rfl (by kernel_rfl) (by kernel_rfl) (by kernel_rfl) rfl (fun _ _ _ h => h) (by rfl) ?hy218 (by assumption) ?rest218
               case hy218 => (intro w hSw; (try dsimp only at hSw); go_simp; try with_reducible rfl))
          try simp only [Act.put, List.setIfInBounds_toArray, List.set_cons_zero, List.set_cons_succ]
          first
            | (refine held_skip 27 43 rfl (by kernel_rfl) (by kernel_rfl) (by kernel_rfl) rfl (fun _ _ _ h => h) (by rfl) (by assumption) ?_)
            | (refine held_take 27 43 ?vv219 rfl (by kernel_rfl) (by kernel_rfl) (by kernel_rfl) rfl (fun _ _ _ h => h) (by rfl) ?hy219 (by assumption) ?rest219
               case hy219 => (intro w hSw; (try dsimp only at hSw); go_simp; try with_reducible rfl))
          try simp only [Act.put, List.setIfInBounds_toArray, List.set_cons_zero, List.set_cons_succ]
          refine wpAnyH_done (by kernel_rfl) ?_ _
          have HB2 := hide hHeld.2.2
          clear hHeld
          go_wp2
          go_roundg (m - (k + 1))
          case measure => omega
          case rel => exact ⟨k + 1, by omega, by omega, by go_num, HBW.out.trans (Below.mono HB2.out HBW.out.size), upto_succ A.out HOK.out⟩
        · have k1 : 0 < k := by omega
          obtain ⟨y, hy, hyc⟩ := HAT.out (k - 1) (by rw [HZQ.out]; omega)
          have HY := hide (getQ! hy)
          obtain ⟨hbW, p0, p1⟩ := hyc W HBW.out
          clear hy hyc
          have k2 : (1 : Int) ≤ (k : Int) := by omega
          have k3 : (0 : Int) ≤ (k : Int) - 1 := by omega
          have k4 : (k : Int) - 1 < (m : Int) := by omega
          have k5 : IntKind.i64.wrap ((k : Int) - 1) = (k : Int) - 1 := IntWalk.i64_in _ (by omega)
          have k6 : ((k : Int) - 1).toNat = k - 1 := by omega
          cases hl : ltS y x with
          | false =>
            have HF := hide (sq_bad HZQ.out hlt (stepQ_no (wd := wd) (hg := hg) HX.out HY.out k1 hl))
            have hge := cmpS_ge hl
            obtain ⟨cv, hcv⟩ : ∃ cv, cmpS y x = cv := ⟨_, rfl⟩
            rw [hcv] at hge
            have Q3 := hide hcv
            clear hcv hl
            refine wp_region_held_drew (S := fun w' => w'.cell? ⟨wr.heap.size, 0, none⟩ = some (.int .i64 x.a) ∧ w'.cell? ⟨wr.heap.size, 1, none⟩ = some (.int .i64 x.b) ∧ w'.cell? ⟨b, off + (k - 1) * 2, none⟩ = some (.int .i64 y.a) ∧ w'.cell? ⟨b, off + (k - 1) * 2 + 1, none⟩ = some (.int .i64 y.b) ∧ Below W.heap.size W w') (by kernel_rfl) ⟨e0, e1, p0, p1, (Below.refl _ _).drew⟩ (fun hHeld => ?_)
            first
              | (refine held_skip 0 16 rfl (by kernel_rfl) (by kernel_rfl) (by kernel_rfl) rfl (fun _ _ _ h => h) (by rfl) (by assumption) ?_)
              | (refine held_take 0 16 ?vv220 rfl (by kernel_rfl) (by kernel_rfl) (by kernel_rfl) rfl (fun _ _ _ h => h) (by rfl) ?hy220 (by assumption) ?rest220
                 case hy220 => (intro w hSw; (try dsimp only at hSw); go_simp; try with_reducible rfl))
            try simp only [Act.put, List.setIfInBounds_toArray, List.set_cons_zero, List.set_cons_succ]
            first
              | (refine held_skip 1 17 rfl (by kernel_rfl) (by kernel_rfl) (by kernel_rfl) rfl (fun _ _ _ h => h) (by rfl) (by assumption) ?_)
              | (refine held_take 1 17 ?vv221 rfl (by kernel_rfl) (by kernel_rfl) (by kernel_rfl) rfl (fun _ _ _ h => h) (by rfl) ?hy221 (by assumption) ?rest221
                 case hy221 => (intro w hSw; (try dsimp only at hSw); go_simp; try with_reducible rfl))
            try simp only [Act.put, List.setIfInBounds_toArray, List.set_cons_zero, List.set_cons_succ]
            first
              | (refine held_skip 2 18 rfl (by kernel_rfl) (by kernel_rfl) (by kernel_rfl) rfl (fun _ _ _ h => h) (by rfl) (by assumption) ?_)
              | (refine held_take 2 18 ?vv222 rfl (by kernel_rfl) (by kernel_rfl) (by kernel_rfl) rfl (fun _ _ _ h => h) (by rfl) ?hy222 (by assumption) ?rest222
                 case hy222 => (intro w hSw; (try dsimp only at hSw); go_simp; try with_reducible rfl))
            try simp only [Act.put, List.setIfInBounds_toArray, List.set_cons_zero, List.set_cons_succ]
            first
              | (refine held_skip 3 19 rfl (by kernel_rfl) (by kernel_rfl) (by kernel_rfl) rfl (fun _ _ _ h => h) (by rfl) (by assumption) ?_)
              | (refine held_take 3 19 ?vv223 rfl (by kernel_rfl) (by kernel_rfl) (by kernel_rfl) rfl (fun _ _ _ h => h) (by rfl) ?hy223 (by assumption) ?rest223
                 case hy223 => (intro w hSw; (try dsimp only at hSw); go_simp; try with_reducible rfl))
            try simp only [Act.put, List.setIfInBounds_toArray, List.set_cons_zero, List.set_cons_succ]
            refine wpAnyH_ready (rs := [4]) (by kernel_rfl) (by simp) ?_
            refine AllReadyH.cons rfl (fun K hK => ?_) AllReadyH.nil
            go_simp
            first
              | (refine (within_any _ _ _ _).mono ?_
                 rintro e w2 ⟨rfl, hww⟩
                 have hb := belowRefl_of hHeld.2.2.2.2
                 subst hww
                 first | rw [Q1.out] | rw [Q2.out])
              | (refine (CompareInts_any b wr.heap.size (off + (k - 1) * 2) 0 y x _ ?z0 ?z1 ?z2 ?z3).mono ?_
                 case z0 => exact hHeld.2.2.1
                 case z1 => exact hHeld.2.2.2.1
                 case z2 => exact hHeld.1
                 case z3 => exact hHeld.2.1
                 rintro e w2 ⟨rfl, hww⟩
                 have hb := belowRefl_of hHeld.2.2.2.2
                 subst hww
                 rw [Q3.out])
            go_wp2_with fail
            have hq := Below.trans hHeld.2.2.2.2 (Below.mono hb hHeld.2.2.2.2.size)
            refine hK.out _ _ ⟨(hq.cell (p := ⟨wr.heap.size, 0, none⟩) g0).trans e0, (hq.cell (p := ⟨wr.heap.size, 1, none⟩) g0).trans e1, (hq.cell (p := ⟨b, off + (k - 1) * 2, none⟩) hbW).trans p0, (hq.cell (p := ⟨b, off + (k - 1) * 2 + 1, none⟩) hbW).trans p1, hq⟩ (fun hHeld => ?_)
            clear hq hb hK K
            try simp only [Act.put, List.setIfInBounds_toArray, List.set_cons_zero, List.set_cons_succ]
            first
              | (refine held_skip 5 21 rfl (by kernel_rfl) (by kernel_rfl) (by kernel_rfl) rfl (fun _ _ _ h => h) (by rfl) (by assumption) ?_)
              | (refine held_take 5 21 ?vv224 rfl (by kernel_rfl) (by kernel_rfl) (by kernel_rfl) rfl (fun _ _ _ h => h) (by rfl) ?hy224 (by assumption) ?rest224
                 case hy224 => (intro w hSw; (try dsimp only at hSw); go_simp; try with_reducible rfl))
            try simp only [Act.put, List.setIfInBounds_toArray, List.set_cons_zero, List.set_cons_succ]
            first
              | (refine held_skip 6 22 rfl (by kernel_rfl) (by kernel_rfl) (by kernel_rfl) rfl (fun _ _ _ h => h) (by rfl) (by assumption) ?_)
              | (refine held_take 6 22 ?vv225 rfl (by kernel_rfl) (by kernel_rfl) (by kernel_rfl) rfl (fun _ _ _ h => h) (by rfl) ?hy225 (by assumption) ?rest225
                 case hy225 => (intro w hSw; (try dsimp only at hSw); go_simp; try with_reducible rfl))
            try simp only [Act.put, List.setIfInBounds_toArray, List.set_cons_zero, List.set_cons_succ]
            first
              | (refine held_skip 7 23 rfl (by kernel_rfl) (by kernel_rfl) (by kernel_rfl) rfl (fun _ _ _ h => h) (by rfl) (by assumption) ?_)
              | (refine held_take 7 23 ?vv226 rfl (by kernel_rfl) (by kernel_rfl) (by kernel_rfl) rfl (fun _ _ _ h => h) (by rfl) ?hy226 (by assumption) ?rest226
                 case hy226 => (intro w hSw; (try dsimp only at hSw); go_simp; try with_reducible rfl))
            try simp only [Act.put, List.setIfInBounds_toArray, List.set_cons_zero, List.set_cons_succ]
            first
              | (refine held_skip 8 24 rfl (by kernel_rfl) (by kernel_rfl) (by kernel_rfl) rfl (fun _ _ _ h => h) (by rfl) (by assumption) ?_)
              | (refine held_take 8 24 ?vv227 rfl (by kernel_rfl) (by kernel_rfl) (by kernel_rfl) rfl (fun _ _ _ h => h) (by rfl) ?hy227 (by assumption) ?rest227
                 case hy227 => (intro w hSw; (try dsimp only at hSw); go_simp; try with_reducible rfl))
            try simp only [Act.put, List.setIfInBounds_toArray, List.set_cons_zero, List.set_cons_succ]
            first
              | (refine held_skip 9 25 rfl (by kernel_rfl) (by kernel_rfl) (by kernel_rfl) rfl (fun _ _ _ h => h) (by rfl) (by assumption) ?_)
              | (refine held_take 9 25 ?vv228 rfl (by kernel_rfl) (by kernel_rfl) (by kernel_rfl) rfl (fun _ _ _ h => h) (by rfl) ?hy228 (by assumption) ?rest228
                 case hy228 => (intro w hSw; (try dsimp only at hSw); go_simp; try with_reducible rfl))
            try simp only [Act.put, List.setIfInBounds_toArray, List.set_cons_zero, List.set_cons_succ]
            first
              | (refine held_skip 10 26 rfl (by kernel_rfl) (by kernel_rfl) (by kernel_rfl) rfl (fun _ _ _ h => h) (by rfl) (by assumption) ?_)
              | (refine held_take 10 26 ?vv229 rfl (by kernel_rfl) (by kernel_rfl) (by kernel_rfl) rfl (fun _ _ _ h => h) (by rfl) ?hy229 (by assumption) ?rest229
                 case hy229 => (intro w hSw; (try dsimp only at hSw); go_simp; try with_reducible rfl))
            try simp only [Act.put, List.setIfInBounds_toArray, List.set_cons_zero, List.set_cons_succ]
            refine wpAnyH_ready (rs := [11]) (by kernel_rfl) (by simp) ?_
            refine AllReadyH.cons rfl (fun K hK => ?_) AllReadyH.nil
            go_simp
            first
              | (refine (within_any _ _ _ _).mono ?_
                 rintro e w2 ⟨rfl, hww⟩
                 have hb := belowRefl_of hHeld.2.2.2.2
                 subst hww
                 first | rw [Q1.out] | rw [Q2.out])
              | (refine (CompareInts_any b wr.heap.size (off + (k - 1) * 2) 0 y x _ ?z0 ?z1 ?z2 ?z3).mono ?_
                 case z0 => exact hHeld.2.2.1
                 case z1 => exact hHeld.2.2.2.1
                 case z2 => exact hHeld.1
                 case z3 => exact hHeld.2.1
                 rintro e w2 ⟨rfl, hww⟩
                 have hb := belowRefl_of hHeld.2.2.2.2
                 subst hww
                 rw [Q3.out])
            go_wp2_with fail
            have hq := Below.trans hHeld.2.2.2.2 (Below.mono hb hHeld.2.2.2.2.size)
            refine hK.out _ _ ⟨(hq.cell (p := ⟨wr.heap.size, 0, none⟩) g0).trans e0, (hq.cell (p := ⟨wr.heap.size, 1, none⟩) g0).trans e1, (hq.cell (p := ⟨b, off + (k - 1) * 2, none⟩) hbW).trans p0, (hq.cell (p := ⟨b, off + (k - 1) * 2 + 1, none⟩) hbW).trans p1, hq⟩ (fun hHeld => ?_)
            clear hq hb hK K
            try simp only [Act.put, List.setIfInBounds_toArray, List.set_cons_zero, List.set_cons_succ]
            first
              | (refine held_skip 12 28 rfl (by kernel_rfl) (by kernel_rfl) (by kernel_rfl) rfl (fun _ _ _ h => h) (by rfl) (by assumption) ?_)
              | (refine held_take 12 28 ?vv230 rfl (by kernel_rfl) (by kernel_rfl) (by kernel_rfl) rfl (fun _ _ _ h => h) (by rfl) ?hy230 (by assumption) ?rest230
                 case hy230 => (intro w hSw; (try dsimp only at hSw); go_simp; try with_reducible rfl))
            try simp only [Act.put, List.setIfInBounds_toArray, List.set_cons_zero, List.set_cons_succ]
            first
              | (refine held_skip 13 29 rfl (by kernel_rfl) (by kernel_rfl) (by kernel_rfl) rfl (fun _ _ _ h => h) (by rfl) (by assumption) ?_)
              | (refine held_take 13 29 ?vv231 rfl (by kernel_rfl) (by kernel_rfl) (by kernel_rfl) rfl (fun _ _ _ h => h) (by rfl) ?hy231 (by assumption) ?rest231
                 case hy231 => (intro w hSw; (try dsimp only at hSw); go_simp; try with_reducible rfl))
            try simp only [Act.put, List.setIfInBounds_toArray, List.set_cons_zero, List.set_cons_succ]
            first
              | (refine held_skip 14 30 rfl (by kernel_rfl) (by kernel_rfl) (by kernel_rfl) rfl (fun _ _ _ h => h) (by rfl) (by assumption) ?_)
              | (refine held_take 14 30 ?vv232 rfl (by kernel_rfl) (by kernel_rfl) (by kernel_rfl) rfl (fun _ _ _ h => h) (by rfl) ?hy232 (by assumption) ?rest232
                 case hy232 => (intro w hSw; (try dsimp only at hSw); go_simp; try with_reducible rfl))
            try simp only [Act.put, List.setIfInBounds_toArray, List.set_cons_zero, List.set_cons_succ]
            first
              | (refine held_skip 15 31 rfl (by kernel_rfl) (by kernel_rfl) (by kernel_rfl) rfl (fun _ _ _ h => h) (by rfl) (by assumption) ?_)
              | (refine held_take 15 31 ?vv233 rfl (by kernel_rfl) (by kernel_rfl) (by kernel_rfl) rfl (fun _ _ _ h => h) (by rfl) ?hy233 (by assumption) ?rest233
                 case hy233 => (intro w hSw; (try dsimp only at hSw); go_simp; try with_reducible rfl))
            try simp only [Act.put, List.setIfInBounds_toArray, List.set_cons_zero, List.set_cons_succ]
            first
              | (refine held_skip 16 32 rfl (by kernel_rfl) (by kernel_rfl) (by kernel_rfl) rfl (fun _ _ _ h => h) (by rfl) (by assumption) ?_)
              | (refine held_take 16 32 ?vv234 rfl (by kernel_rfl) (by kernel_rfl) (by kernel_rfl) rfl (fun _ _ _ h => h) (by rfl) ?hy234 (by assumption) ?rest234
                 case hy234 => (intro w hSw; (try dsimp only at hSw); go_simp; try with_reducible rfl))
            try simp only [Act.put, List.setIfInBounds_toArray, List.set_cons_zero, List.set_cons_succ]
            first
              | (refine held_skip 17 33 rfl (by kernel_rfl) (by kernel_rfl) (by kernel_rfl) rfl (fun _ _ _ h => h) (by rfl) (by assumption) ?_)
              | (refine held_take 17 33 ?vv235 rfl (by kernel_rfl) (by kernel_rfl) (by kernel_rfl) rfl (fun _ _ _ h => h) (by rfl) ?hy235 (by assumption) ?rest235
                 case hy235 => (intro w hSw; (try dsimp only at hSw); go_simp; try with_reducible rfl))
            try simp only [Act.put, List.setIfInBounds_toArray, List.set_cons_zero, List.set_cons_succ]
            first
              | (refine held_skip 18 34 rfl (by kernel_rfl) (by kernel_rfl) (by kernel_rfl) rfl (fun _ _ _ h => h) (by rfl) (by assumption) ?_)
              | (refine held_take 18 34 ?vv236 rfl (by kernel_rfl) (by kernel_rfl) (by kernel_rfl) rfl (fun _ _ _ h => h) (by rfl) ?hy236 (by assumption) ?rest236
                 case hy236 => (intro w hSw; (try dsimp only at hSw); go_simp; try with_reducible rfl))
            try simp only [Act.put, List.setIfInBounds_toArray, List.set_cons_zero, List.set_cons_succ]
            first
              | (refine held_skip 19 35 rfl (by kernel_rfl) (by kernel_rfl) (by kernel_rfl) rfl (fun _ _ _ h => h) (by rfl) (by assumption) ?_)
              | (refine held_take 19 35 ?vv237 rfl (by kernel_rfl) (by kernel_rfl) (by kernel_rfl) rfl (fun _ _ _ h => h) (by rfl) ?hy237 (by assumption) ?rest237
                 case hy237 => (intro w hSw; (try dsimp only at hSw); go_simp; try with_reducible rfl))
            try simp only [Act.put, List.setIfInBounds_toArray, List.set_cons_zero, List.set_cons_succ]
            first
              | (refine held_skip 20 36 rfl (by kernel_rfl) (by kernel_rfl) (by kernel_rfl) rfl (fun _ _ _ h => h) (by rfl) (by assumption) ?_)
              | (refine held_take 20 36 ?vv238 rfl (by kernel_rfl) (by kernel_rfl) (by kernel_rfl) rfl (fun _ _ _ h => h) (by rfl) ?hy238 (by assumption) ?rest238
                 case hy238 => (intro w hSw; (try dsimp only at hSw); go_simp; try with_reducible rfl))
            try simp only [Act.put, List.setIfInBounds_toArray, List.set_cons_zero, List.set_cons_succ]
            first
              | (refine held_skip 21 37 rfl (by kernel_rfl) (by kernel_rfl) (by kernel_rfl) rfl (fun _ _ _ h => h) (by rfl) (by assumption) ?_)
              | (refine held_take 21 37 ?vv239 rfl (by kernel_rfl) (by kernel_rfl) (by kernel_rfl) rfl (fun _ _ _ h => h) (by rfl) ?hy239 (by assumption) ?rest239
                 case hy239 => (intro w hSw; (try dsimp only at hSw); go_simp; try with_reducible rfl))
            try simp only [Act.put, List.setIfInBounds_toArray, List.set_cons_zero, List.set_cons_succ]
            first
              | (refine held_skip 22 38 rfl (by kernel_rfl) (by kernel_rfl) (by kernel_rfl) rfl (fun _ _ _ h => h) (by rfl) (by assumption) ?_)
              | (refine held_take 22 38 ?vv240 rfl (by kernel_rfl) (by kernel_rfl) (by kernel_rfl) rfl (fun _ _ _ h => h) (by rfl) ?hy240 (by assumption) ?rest240
                 case hy240 => (intro w hSw; (try dsimp only at hSw); go_simp; try with_reducible rfl))
            try simp only [Act.put, List.setIfInBounds_toArray, List.set_cons_zero, List.set_cons_succ]
            first
              | (refine held_skip 23 39 rfl (by kernel_rfl) (by kernel_rfl) (by kernel_rfl) rfl (fun _ _ _ h => h) (by rfl) (by assumption) ?_)
              | (refine held_take 23 39 ?vv241 rfl (by kernel_rfl) (by kernel_rfl) (by kernel_rfl) rfl (fun _ _ _ h => h) (by rfl) ?hy241 (by assumption) ?rest241
                 case hy241 => (intro w hSw; (try dsimp only at hSw); go_simp; try with_reducible rfl))
            try simp only [Act.put, List.setIfInBounds_toArray, List.set_cons_zero, List.set_cons_succ]
            refine wpAnyH_ready (rs := [24]) (by kernel_rfl) (by simp) ?_
            refine AllReadyH.cons rfl (fun K hK => ?_) AllReadyH.nil
            go_simp
            first
              | (refine (within_any _ _ _ _).mono ?_
                 rintro e w2 ⟨rfl, hww⟩
                 have hb := belowRefl_of hHeld.2.2.2.2
                 subst hww
                 first | rw [Q1.out] | rw [Q2.out])
              | (refine (CompareInts_any b wr.heap.size (off + (k - 1) * 2) 0 y x _ ?z0 ?z1 ?z2 ?z3).mono ?_
                 case z0 => exact hHeld.2.2.1
                 case z1 => exact hHeld.2.2.2.1
                 case z2 => exact hHeld.1
                 case z3 => exact hHeld.2.1
                 rintro e w2 ⟨rfl, hww⟩
                 have hb := belowRefl_of hHeld.2.2.2.2
                 subst hww
                 rw [Q3.out])
            go_wp2_with fail
            have hq := Below.trans hHeld.2.2.2.2 (Below.mono hb hHeld.2.2.2.2.size)
            refine hK.out _ _ ⟨(hq.cell (p := ⟨wr.heap.size, 0, none⟩) g0).trans e0, (hq.cell (p := ⟨wr.heap.size, 1, none⟩) g0).trans e1, (hq.cell (p := ⟨b, off + (k - 1) * 2, none⟩) hbW).trans p0, (hq.cell (p := ⟨b, off + (k - 1) * 2 + 1, none⟩) hbW).trans p1, hq⟩ (fun hHeld => ?_)
            clear hq hb hK K
            try simp only [Act.put, List.setIfInBounds_toArray, List.set_cons_zero, List.set_cons_succ]
            first
              | (refine held_skip 25 41 rfl (by kernel_rfl) (by kernel_rfl) (by kernel_rfl) rfl (fun _ _ _ h => h) (by rfl) (by assumption) ?_)
              | (refine held_take 25 41 ?vv242 rfl (by kernel_rfl) (by kernel_rfl) (by kernel_rfl) rfl (fun _ _ _ h => h) (by rfl) ?hy242 (by assumption) ?rest242
                 case hy242 => (intro w hSw; (try dsimp only at hSw); go_simp; try with_reducible rfl))
            try simp only [Act.put, List.setIfInBounds_toArray, List.set_cons_zero, List.set_cons_succ]
            first
              | (refine held_skip 26 42 rfl (by kernel_rfl) (by kernel_rfl) (by kernel_rfl) rfl (fun _ _ _ h => h) (by rfl) (by assumption) ?_)
              | (refine held_take 26 42 ?vv243 rfl (by kernel_rfl) (by kernel_rfl) (by kernel_rfl) rfl (fun _ _ _ h => h) (by rfl) ?hy243 (by assumption) ?rest243
                 case hy243 => (intro w hSw; (try dsimp only at hSw); go_simp; try with_reducible rfl))
            try simp only [Act.put, List.setIfInBounds_toArray, List.set_cons_zero, List.set_cons_succ]
            first
              | (refine held_skip 27 43 rfl (by kernel_rfl) (by kernel_rfl) (by kernel_rfl) rfl (fun _ _ _ h => h) (by rfl) (by assumption) ?_)
              | (refine held_take 27 43 ?vv244 rfl (by kernel_rfl) (by kernel_rfl) (by kernel_rfl) rfl (fun _ _ _ h => h) (by rfl) ?hy244 (by assumption) ?rest244
                 case hy244 => (intro w hSw; (try dsimp only at hSw); go_simp; try with_reducible rfl))
            try simp only [Act.put, List.setIfInBounds_toArray, List.set_cons_zero, List.set_cons_succ]
            refine wpAnyH_done (by kernel_rfl) ?_ _
            have HB2 := hide hHeld.2.2.2.2
            clear hHeld
            go_wp2
            go_ret
            exact ⟨ret_bool HF.out.symm, HBW.out.trans (Below.mono HB2.out HBW.out.size)⟩
          | true =>
            have HOK := hide (stepQ_1 HX.out HY.out HIN.out hl)
            have Q3 := hide (cmpS_lt hl)
            clear hl
            refine wp_region_held_drew (S := fun w' => w'.cell? ⟨wr.heap.size, 0, none⟩ = some (.int .i64 x.a) ∧ w'.cell? ⟨wr.heap.size, 1, none⟩ = some (.int .i64 x.b) ∧ w'.cell? ⟨b, off + (k - 1) * 2, none⟩ = some (.int .i64 y.a) ∧ w'.cell? ⟨b, off + (k - 1) * 2 + 1, none⟩ = some (.int .i64 y.b) ∧ Below W.heap.size W w') (by kernel_rfl) ⟨e0, e1, p0, p1, (Below.refl _ _).drew⟩ (fun hHeld => ?_)
            first
              | (refine held_skip 0 16 rfl (by kernel_rfl) (by kernel_rfl) (by kernel_rfl) rfl (fun _ _ _ h => h) (by rfl) (by assumption) ?_)
              | (refine held_take 0 16 ?vv245 rfl (by kernel_rfl) (by kernel_rfl) (by kernel_rfl) rfl (fun _ _ _ h => h) (by rfl) ?hy245 (by assumption) ?rest245
                 case hy245 => (intro w hSw; (try dsimp only at hSw); go_simp; try with_reducible rfl))
            try simp only [Act.put, List.setIfInBounds_toArray, List.set_cons_zero, List.set_cons_succ]
            first
              | (refine held_skip 1 17 rfl (by kernel_rfl) (by kernel_rfl) (by kernel_rfl) rfl (fun _ _ _ h => h) (by rfl) (by assumption) ?_)
              | (refine held_take 1 17 ?vv246 rfl (by kernel_rfl) (by kernel_rfl) (by kernel_rfl) rfl (fun _ _ _ h => h) (by rfl) ?hy246 (by assumption) ?rest246
                 case hy246 => (intro w hSw; (try dsimp only at hSw); go_simp; try with_reducible rfl))
            try simp only [Act.put, List.setIfInBounds_toArray, List.set_cons_zero, List.set_cons_succ]
            first
              | (refine held_skip 2 18 rfl (by kernel_rfl) (by kernel_rfl) (by kernel_rfl) rfl (fun _ _ _ h => h) (by rfl) (by assumption) ?_)
              | (refine held_take 2 18 ?vv247 rfl (by kernel_rfl) (by kernel_rfl) (by kernel_rfl) rfl (fun _ _ _ h => h) (by rfl) ?hy247 (by assumption) ?rest247
                 case hy247 => (intro w hSw; (try dsimp only at hSw); go_simp; try with_reducible rfl))
            try simp only [Act.put, List.setIfInBounds_toArray, List.set_cons_zero, List.set_cons_succ]
            first
              | (refine held_skip 3 19 rfl (by kernel_rfl) (by kernel_rfl) (by kernel_rfl) rfl (fun _ _ _ h => h) (by rfl) (by assumption) ?_)
              | (refine held_take 3 19 ?vv248 rfl (by kernel_rfl) (by kernel_rfl) (by kernel_rfl) rfl (fun _ _ _ h => h) (by rfl) ?hy248 (by assumption) ?rest248
                 case hy248 => (intro w hSw; (try dsimp only at hSw); go_simp; try with_reducible rfl))
            try simp only [Act.put, List.setIfInBounds_toArray, List.set_cons_zero, List.set_cons_succ]
            refine wpAnyH_ready (rs := [4]) (by kernel_rfl) (by simp) ?_
            refine AllReadyH.cons rfl (fun K hK => ?_) AllReadyH.nil
            go_simp
            first
              | (refine (within_any _ _ _ _).mono ?_
                 rintro e w2 ⟨rfl, hww⟩
                 have hb := belowRefl_of hHeld.2.2.2.2
                 subst hww
                 first | rw [Q1.out] | rw [Q2.out])
              | (refine (CompareInts_any b wr.heap.size (off + (k - 1) * 2) 0 y x _ ?z0 ?z1 ?z2 ?z3).mono ?_
                 case z0 => exact hHeld.2.2.1
                 case z1 => exact hHeld.2.2.2.1
                 case z2 => exact hHeld.1
                 case z3 => exact hHeld.2.1
                 rintro e w2 ⟨rfl, hww⟩
                 have hb := belowRefl_of hHeld.2.2.2.2
                 subst hww
                 rw [Q3.out])
            go_wp2_with fail
            have hq := Below.trans hHeld.2.2.2.2 (Below.mono hb hHeld.2.2.2.2.size)
            refine hK.out _ _ ⟨(hq.cell (p := ⟨wr.heap.size, 0, none⟩) g0).trans e0, (hq.cell (p := ⟨wr.heap.size, 1, none⟩) g0).trans e1, (hq.cell (p := ⟨b, off + (k - 1) * 2, none⟩) hbW).trans p0, (hq.cell (p := ⟨b, off + (k - 1) * 2 + 1, none⟩) hbW).trans p1, hq⟩ (fun hHeld => ?_)
            clear hq hb hK K
            try simp only [Act.put, List.setIfInBounds_toArray, List.set_cons_zero, List.set_cons_succ]
            first
              | (refine held_skip 5 21 rfl (by kernel_rfl) (by kernel_rfl) (by kernel_rfl) rfl (fun _ _ _ h => h) (by rfl) (by assumption) ?_)
              | (refine held_take 5 21 ?vv249 rfl (by kernel_rfl) (by kernel_rfl) (by kernel_rfl) rfl (fun _ _ _ h => h) (by rfl) ?hy249 (by assumption) ?rest249
                 case hy249 => (intro w hSw; (try dsimp only at hSw); go_simp; try with_reducible rfl))
            try simp only [Act.put, List.setIfInBounds_toArray, List.set_cons_zero, List.set_cons_succ]
            first
              | (refine held_skip 6 22 rfl (by kernel_rfl) (by kernel_rfl) (by kernel_rfl) rfl (fun _ _ _ h => h) (by rfl) (by assumption) ?_)
              | (refine held_take 6 22 ?vv250 rfl (by kernel_rfl) (by kernel_rfl) (by kernel_rfl) rfl (fun _ _ _ h => h) (by rfl) ?hy250 (by assumption) ?rest250
                 case hy250 => (intro w hSw; (try dsimp only at hSw); go_simp; try with_reducible rfl))
            try simp only [Act.put, List.setIfInBounds_toArray, List.set_cons_zero, List.set_cons_succ]
            first
              | (refine held_skip 7 23 rfl (by kernel_rfl) (by kernel_rfl) (by kernel_rfl) rfl (fun _ _ _ h => h) (by rfl) (by assumption) ?_)
              | (refine held_take 7 23 ?vv251 rfl (by kernel_rfl) (by kernel_rfl) (by kernel_rfl) rfl (fun _ _ _ h => h) (by rfl) ?hy251 (by assumption) ?rest251
                 case hy251 => (intro w hSw; (try dsimp only at hSw); go_simp; try with_reducible rfl))
            try simp only [Act.put, List.setIfInBounds_toArray, List.set_cons_zero, List.set_cons_succ]
            first
              | (refine held_skip 8 24 rfl (by kernel_rfl) (by kernel_rfl) (by kernel_rfl) rfl (fun _ _ _ h => h) (by rfl) (by assumption) ?_)
              | (refine held_take 8 24 ?vv252 rfl (by kernel_rfl) (by kernel_rfl) (by kernel_rfl) rfl (fun _ _ _ h => h) (by rfl) ?hy252 (by assumption) ?rest252
                 case hy252 => (intro w hSw; (try dsimp only at hSw); go_simp; try with_reducible rfl))
            try simp only [Act.put, List.setIfInBounds_toArray, List.set_cons_zero, List.set_cons_succ]
            first
              | (refine held_skip 9 25 rfl (by kernel_rfl) (by kernel_rfl) (by kernel_rfl) rfl (fun _ _ _ h => h) (by rfl) (by assumption) ?_)
              | (refine held_take 9 25 ?vv253 rfl (by kernel_rfl) (by kernel_rfl) (by kernel_rfl) rfl (fun _ _ _ h => h) (by rfl) ?hy253 (by assumption) ?rest253
                 case hy253 => (intro w hSw; (try dsimp only at hSw); go_simp; try with_reducible rfl))
            try simp only [Act.put, List.setIfInBounds_toArray, List.set_cons_zero, List.set_cons_succ]
            first
              | (refine held_skip 10 26 rfl (by kernel_rfl) (by kernel_rfl) (by kernel_rfl) rfl (fun _ _ _ h => h) (by rfl) (by assumption) ?_)
              | (refine held_take 10 26 ?vv254 rfl (by kernel_rfl) (by kernel_rfl) (by kernel_rfl) rfl (fun _ _ _ h => h) (by rfl) ?hy254 (by assumption) ?rest254
                 case hy254 => (intro w hSw; (try dsimp only at hSw); go_simp; try with_reducible rfl))
            try simp only [Act.put, List.setIfInBounds_toArray, List.set_cons_zero, List.set_cons_succ]
            refine wpAnyH_ready (rs := [11]) (by kernel_rfl) (by simp) ?_
            refine AllReadyH.cons rfl (fun K hK => ?_) AllReadyH.nil
            go_simp
            first
              | (refine (within_any _ _ _ _).mono ?_
                 rintro e w2 ⟨rfl, hww⟩
                 have hb := belowRefl_of hHeld.2.2.2.2
                 subst hww
                 first | rw [Q1.out] | rw [Q2.out])
              | (refine (CompareInts_any b wr.heap.size (off + (k - 1) * 2) 0 y x _ ?z0 ?z1 ?z2 ?z3).mono ?_
                 case z0 => exact hHeld.2.2.1
                 case z1 => exact hHeld.2.2.2.1
                 case z2 => exact hHeld.1
                 case z3 => exact hHeld.2.1
                 rintro e w2 ⟨rfl, hww⟩
                 have hb := belowRefl_of hHeld.2.2.2.2
                 subst hww
                 rw [Q3.out])
            go_wp2_with fail
            have hq := Below.trans hHeld.2.2.2.2 (Below.mono hb hHeld.2.2.2.2.size)
            refine hK.out _ _ ⟨(hq.cell (p := ⟨wr.heap.size, 0, none⟩) g0).trans e0, (hq.cell (p := ⟨wr.heap.size, 1, none⟩) g0).trans e1, (hq.cell (p := ⟨b, off + (k - 1) * 2, none⟩) hbW).trans p0, (hq.cell (p := ⟨b, off + (k - 1) * 2 + 1, none⟩) hbW).trans p1, hq⟩ (fun hHeld => ?_)
            clear hq hb hK K
            try simp only [Act.put, List.setIfInBounds_toArray, List.set_cons_zero, List.set_cons_succ]
            first
              | (refine held_skip 12 28 rfl (by kernel_rfl) (by kernel_rfl) (by kernel_rfl) rfl (fun _ _ _ h => h) (by rfl) (by assumption) ?_)
              | (refine held_take 12 28 ?vv255 rfl (by kernel_rfl) (by kernel_rfl) (by kernel_rfl) rfl (fun _ _ _ h => h) (by rfl) ?hy255 (by assumption) ?rest255
                 case hy255 => (intro w hSw; (try dsimp only at hSw); go_simp; try with_reducible rfl))
            try simp only [Act.put, List.setIfInBounds_toArray, List.set_cons_zero, List.set_cons_succ]
            first
              | (refine held_skip 13 29 rfl (by kernel_rfl) (by kernel_rfl) (by kernel_rfl) rfl (fun _ _ _ h => h) (by rfl) (by assumption) ?_)
              | (refine held_take 13 29 ?vv256 rfl (by kernel_rfl) (by kernel_rfl) (by kernel_rfl) rfl (fun _ _ _ h => h) (by rfl) ?hy256 (by assumption) ?rest256
                 case hy256 => (intro w hSw; (try dsimp only at hSw); go_simp; try with_reducible rfl))
            try simp only [Act.put, List.setIfInBounds_toArray, List.set_cons_zero, List.set_cons_succ]
            first
              | (refine held_skip 14 30 rfl (by kernel_rfl) (by kernel_rfl) (by kernel_rfl) rfl (fun _ _ _ h => h) (by rfl) (by assumption) ?_)
              | (refine held_take 14 30 ?vv257 rfl (by kernel_rfl) (by kernel_rfl) (by kernel_rfl) rfl (fun _ _ _ h => h) (by rfl) ?hy257 (by assumption) ?rest257
                 case hy257 => (intro w hSw; (try dsimp only at hSw); go_simp; try with_reducible rfl))
            try simp only [Act.put, List.setIfInBounds_toArray, List.set_cons_zero, List.set_cons_succ]
            first
              | (refine held_skip 15 31 rfl (by kernel_rfl) (by kernel_rfl) (by kernel_rfl) rfl (fun _ _ _ h => h) (by rfl) (by assumption) ?_)
              | (refine held_take 15 31 ?vv258 rfl (by kernel_rfl) (by kernel_rfl) (by kernel_rfl) rfl (fun _ _ _ h => h) (by rfl) ?hy258 (by assumption) ?rest258
                 case hy258 => (intro w hSw; (try dsimp only at hSw); go_simp; try with_reducible rfl))
            try simp only [Act.put, List.setIfInBounds_toArray, List.set_cons_zero, List.set_cons_succ]
            first
              | (refine held_skip 16 32 rfl (by kernel_rfl) (by kernel_rfl) (by kernel_rfl) rfl (fun _ _ _ h => h) (by rfl) (by assumption) ?_)
              | (refine held_take 16 32 ?vv259 rfl (by kernel_rfl) (by kernel_rfl) (by kernel_rfl) rfl (fun _ _ _ h => h) (by rfl) ?hy259 (by assumption) ?rest259
                 case hy259 => (intro w hSw; (try dsimp only at hSw); go_simp; try with_reducible rfl))
            try simp only [Act.put, List.setIfInBounds_toArray, List.set_cons_zero, List.set_cons_succ]
            first
              | (refine held_skip 17 33 rfl (by kernel_rfl) (by kernel_rfl) (by kernel_rfl) rfl (fun _ _ _ h => h) (by rfl) (by assumption) ?_)
              | (refine held_take 17 33 ?vv260 rfl (by kernel_rfl) (by kernel_rfl) (by kernel_rfl) rfl (fun _ _ _ h => h) (by rfl) ?hy260 (by assumption) ?rest260
                 case hy260 => (intro w hSw; (try dsimp only at hSw); go_simp; try with_reducible rfl))
            try simp only [Act.put, List.setIfInBounds_toArray, List.set_cons_zero, List.set_cons_succ]
            first
              | (refine held_skip 18 34 rfl (by kernel_rfl) (by kernel_rfl) (by kernel_rfl) rfl (fun _ _ _ h => h) (by rfl) (by assumption) ?_)
              | (refine held_take 18 34 ?vv261 rfl (by kernel_rfl) (by kernel_rfl) (by kernel_rfl) rfl (fun _ _ _ h => h) (by rfl) ?hy261 (by assumption) ?rest261
                 case hy261 => (intro w hSw; (try dsimp only at hSw); go_simp; try with_reducible rfl))
            try simp only [Act.put, List.setIfInBounds_toArray, List.set_cons_zero, List.set_cons_succ]
            first
              | (refine held_skip 19 35 rfl (by kernel_rfl) (by kernel_rfl) (by kernel_rfl) rfl (fun _ _ _ h => h) (by rfl) (by assumption) ?_)
              | (refine held_take 19 35 ?vv262 rfl (by kernel_rfl) (by kernel_rfl) (by kernel_rfl) rfl (fun _ _ _ h => h) (by rfl) ?hy262 (by assumption) ?rest262
                 case hy262 => (intro w hSw; (try dsimp only at hSw); go_simp; try with_reducible rfl))
            try simp only [Act.put, List.setIfInBounds_toArray, List.set_cons_zero, List.set_cons_succ]
            first
              | (refine held_skip 20 36 rfl (by kernel_rfl) (by kernel_rfl) (by kernel_rfl) rfl (fun _ _ _ h => h) (by rfl) (by assumption) ?_)
              | (refine held_take 20 36 ?vv263 rfl (by kernel_rfl) (by kernel_rfl) (by kernel_rfl) rfl (fun _ _ _ h => h) (by rfl) ?hy263 (by assumption) ?rest263
                 case hy263 => (intro w hSw; (try dsimp only at hSw); go_simp; try with_reducible rfl))
            try simp only [Act.put, List.setIfInBounds_toArray, List.set_cons_zero, List.set_cons_succ]
            first
              | (refine held_skip 21 37 rfl (by kernel_rfl) (by kernel_rfl) (by kernel_rfl) rfl (fun _ _ _ h => h) (by rfl) (by assumption) ?_)
              | (refine held_take 21 37 ?vv264 rfl (by kernel_rfl) (by kernel_rfl) (by kernel_rfl) rfl (fun _ _ _ h => h) (by rfl) ?hy264 (by assumption) ?rest264
                 case hy264 => (intro w hSw; (try dsimp only at hSw); go_simp; try with_reducible rfl))
            try simp only [Act.put, List.setIfInBounds_toArray, List.set_cons_zero, List.set_cons_succ]
            first
              | (refine held_skip 22 38 rfl (by kernel_rfl) (by kernel_rfl) (by kernel_rfl) rfl (fun _ _ _ h => h) (by rfl) (by assumption) ?_)
              | (refine held_take 22 38 ?vv265 rfl (by kernel_rfl) (by kernel_rfl) (by kernel_rfl) rfl (fun _ _ _ h => h) (by rfl) ?hy265 (by assumption) ?rest265
                 case hy265 => (intro w hSw; (try dsimp only at hSw); go_simp; try with_reducible rfl))
            try simp only [Act.put, List.setIfInBounds_toArray, List.set_cons_zero, List.set_cons_succ]
            first
              | (refine held_skip 23 39 rfl (by kernel_rfl) (by kernel_rfl) (by kernel_rfl) rfl (fun _ _ _ h => h) (by rfl) (by assumption) ?_)
              | (refine held_take 23 39 ?vv266 rfl (by kernel_rfl) (by kernel_rfl) (by kernel_rfl) rfl (fun _ _ _ h => h) (by rfl) ?hy266 (by assumption) ?rest266
                 case hy266 => (intro w hSw; (try dsimp only at hSw); go_simp; try with_reducible rfl))
            try simp only [Act.put, List.setIfInBounds_toArray, List.set_cons_zero, List.set_cons_succ]
            refine wpAnyH_ready (rs := [24]) (by kernel_rfl) (by simp) ?_
            refine AllReadyH.cons rfl (fun K hK => ?_) AllReadyH.nil
            go_simp
            first
              | (refine (within_any _ _ _ _).mono ?_
                 rintro e w2 ⟨rfl, hww⟩
                 have hb := belowRefl_of hHeld.2.2.2.2
                 subst hww
                 first | rw [Q1.out] | rw [Q2.out])
              | (refine (CompareInts_any b wr.heap.size (off + (k - 1) * 2) 0 y x _ ?z0 ?z1 ?z2 ?z3).mono ?_
                 case z0 => exact hHeld.2.2.1
                 case z1 => exact hHeld.2.2.2.1
                 case z2 => exact hHeld.1
                 case z3 => exact hHeld.2.1
                 rintro e w2 ⟨rfl, hww⟩
                 have hb := belowRefl_of hHeld.2.2.2.2
                 subst hww
                 rw [Q3.out])
            go_wp2_with fail
            have hq := Below.trans hHeld.2.2.2.2 (Below.mono hb hHeld.2.2.2.2.size)
            refine hK.out _ _ ⟨(hq.cell (p := ⟨wr.heap.size, 0, none⟩) g0).trans e0, (hq.cell (p := ⟨wr.heap.size, 1, none⟩) g0).trans e1, (hq.cell (p := ⟨b, off + (k - 1) * 2, none⟩) hbW).trans p0, (hq.cell (p := ⟨b, off + (k - 1) * 2 + 1, none⟩) hbW).trans p1, hq⟩ (fun hHeld => ?_)
            clear hq hb hK K
            try simp only [Act.put, List.setIfInBounds_toArray, List.set_cons_zero, List.set_cons_succ]
            first
              | (refine held_skip 25 41 rfl (by kernel_rfl) (by kernel_rfl) (by kernel_rfl) rfl (fun _ _ _ h => h) (by rfl) (by assumption) ?_)
              | (refine held_take 25 41 ?vv267 rfl (by kernel_rfl) (by kernel_rfl) (by kernel_rfl) rfl (fun _ _ _ h => h) (by rfl) ?hy267 (by assumption) ?rest267
                 case hy267 => (intro w hSw; (try dsimp only at hSw); go_simp; try with_reducible rfl))
            try simp only [Act.put, List.setIfInBounds_toArray, List.set_cons_zero, List.set_cons_succ]
            first
              | (refine held_skip 26 42 rfl (by kernel_rfl) (by kernel_rfl) (by kernel_rfl) rfl (fun _ _ _ h => h) (by rfl) (by assumption) ?_)
              | (refine held_take 26 42 ?vv268 rfl (by kernel_rfl) (by kernel_rfl) (by kernel_rfl) rfl (fun _ _ _ h => h) (by rfl) ?hy268 (by assumption) ?rest268
                 case hy268 => (intro w hSw; (try dsimp only at hSw); go_simp; try with_reducible rfl))
            try simp only [Act.put, List.setIfInBounds_toArray, List.set_cons_zero, List.set_cons_succ]
            first
              | (refine held_skip 27 43 rfl (by kernel_rfl) (by kernel_rfl) (by kernel_rfl) rfl (fun _ _ _ h => h) (by rfl) (by assumption) ?_)
              | (refine held_take 27 43 ?vv269 rfl (by kernel_rfl) (by kernel_rfl) (by kernel_rfl) rfl (fun _ _ _ h => h) (by rfl) ?hy269 (by assumption) ?rest269
                 case hy269 => (intro w hSw; (try dsimp only at hSw); go_simp; try with_reducible rfl))
            try simp only [Act.put, List.setIfInBounds_toArray, List.set_cons_zero, List.set_cons_succ]
            refine wpAnyH_done (by kernel_rfl) ?_ _
            have HB2 := hide hHeld.2.2.2.2
            clear hHeld
            go_wp2
            go_roundg (m - (k + 1))
            case measure => omega
            case rel => exact ⟨k + 1, by omega, by omega, by go_num, HBW.out.trans (Below.mono HB2.out HBW.out.size), upto_succ A.out HOK.out⟩
    · have hge : ¬ (k : Int) < (m : Int) := by omega
      go_wp2
      go_ret
      exact ⟨ret_bool (by rw [sq_end HZQ.out A.out (by omega), Bool.eq_iff_iff]; simp; omega), BW.out⟩

end Go.Proofs.Ytpdfbijfklmonaa
