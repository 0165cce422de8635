/- The page at a place. -/
import Derived.Test.YtdgalehipgdhiaaDoorSmall
import Derived.Test.YtdgalehipgdhiaaDoorFPage
namespace Go.Proofs.YtdgalehipgdhiaaDoor
open Go.RowKit
set_option linter.unusedVariables false
set_option linter.unusedSimpArgs false

set_option maxRecDepth 100000 in
/-- slices.IndexFunc on Page, at a closure that only reads and makes memory of its own -/
theorem IndexFuncPage_any (g : Nat) (lb : Array Value) (p : Pg → Bool) (eg : ∀ args w, (callFunc g args).run Tryd.prog w = .ok (.enter g args) w) (ao : Option Addr) (n c : Nat) (zs : List Pg) (w : World) (hz : zs.length = n) (hn : n ≤ 1048576) (hr : Rd encPg 4 w.heap.size w ao zs)
    (hp : ∀ (W : World) (x : Pg), Below w.heap.size w W → Calls Tryd.prog g (#[.agg #[.int .i64 x.n, .int .i64 x.r, .int .i64 x.c, .int .i64 x.l]] ++ lb) W fun e w' => e = .returned (.bool (p x)) ∧ Below W.heap.size W w') :
    Calls Tryd.prog 63 #[.slice ao n c, .func (.func g) #[] lb] w fun e w' => e = .returned (.int .i64 (idxB p zs)) ∧ Below w.heap.size w w' := by
  have HZ := hide hz
  have HR := hide hr
  have HP := hide hp
  clear hz hr hp
  go_enter Tryd.func63, Tryd.ntmps63
  go_wp2
  go_loopg [5, 8] n (fun gk _ i wr => ∃ k : Nat, k ≤ n ∧ n - k ≤ gk ∧ i = .int .i64 k ∧ Aside (Below w.heap.size w wr) ∧ Aside (∀ j, j < k → ∀ y, zs[j]? = some y → p y = false))
  case atStart => exact ⟨0, Nat.zero_le _, by omega, rfl, Below.refl _ w, fun j hj => absurd hj (Nat.not_lt_zero _)⟩
  case round =>
    obtain ⟨k, hk, hg, rfl, BW, A⟩ := hrel
    by_cases hlt : k < n
    · have hltz : (k : Int) < (n : Int) := by omega
      obtain ⟨b, off, rfl, hb1, hat⟩ := rdPg HR.out (by rw [HZ.out]; omega)
      obtain ⟨x, hx, hxc⟩ := hat k (by rw [HZ.out]; exact hlt)
      have HX := hide hx
      obtain ⟨hbr, c0, c1, c2, c3⟩ := hxc wr BW.out
      have hcall := HP.out wr x BW.out
      clear hx hxc hat
      cases hq : p x with
      | true =>
        rw [hq] at hcall
        have HQ := hide hq
        clear hq
        go_wp2_with fail
        refine hcall.mono ?_
        rintro e w' ⟨rfl, hb'⟩
        have HB' := hide hb'
        clear hb'
        go_wp2
        go_ret
        exact ⟨ret_int (idx_hit HX.out HQ.out A.out).1.symm, BW.out.trans (HB'.out.mono BW.out.size)⟩
      | false =>
        rw [hq] at hcall
        have HQ := hide hq
        clear hq
        go_wp2_with fail
        refine hcall.mono ?_
        rintro e w' ⟨rfl, hb'⟩
        have HB' := hide hb'
        clear hb'
        go_wp2
        go_roundg (n - (k + 1))
        case measure => omega
        case rel => exact ⟨k + 1, by omega, by omega, by go_num, BW.out.trans (HB'.out.mono BW.out.size), none_succ A.out HX.out HQ.out⟩
    · have hltz : ¬ (k : Int) < (n : Int) := by omega
      go_wp2
      go_ret
      exact ⟨ret_int (idx_miss fun j y hy => A.out j (by have := (List.getElem?_eq_some_iff.1 hy).1; rw [HZ.out] at this; omega) y hy).1.symm, BW.out⟩

def placeB (r c : Int) : Bool := inB r 0 99 && inB c 0 99
theorem l13Place_any (a b : Int) (w : World) : Calls Tryd.prog 32 #[.int .i64 a, .int .i64 b] w fun e w' => e = .returned (.bool (placeB a b)) ∧ w = w' := by
  rcases first2 (inB a 0 99) (inB b 0 99) with h1 | ⟨h1, h2⟩ | ⟨h1, h2⟩
  all_goals
    have HO := hide (show placeB a b = _ from (by unfold placeB; simp only [*]; rfl))
    go_enter Tryd.func32, Tryd.ntmps32
    go_wp2_with (go_at_call 33; refine (l1In_any _ _ _ _).mono ?_; rintro e w' ⟨rfl, rfl⟩)
    go_ret
    exact ⟨ret_bool HO.out.symm, rfl⟩
def isP (r c : Int) (x : Pg) : Bool := x.r == r && x.c == c
theorem pageOn1_any (p q : Nat) (r c : Int) (x : Pg) (W : World) (e1 : W.cell? ⟨p, 0, none⟩ = some (.int .i64 r)) (e2 : W.cell? ⟨q, 0, none⟩ = some (.int .i64 c)) (l1 : p < W.heap.size) (l2 : q < W.heap.size) :
    Calls Tryd.prog 64 #[.agg #[.int .i64 x.n, .int .i64 x.r, .int .i64 x.c, .int .i64 x.l], .pointer (some ⟨p, 0, none⟩), .pointer (some ⟨q, 0, none⟩)] W fun e w' => e = .returned (.bool (isP r c x)) ∧ Below W.heap.size W w' := by
  rcases first2 (x.r == r) (x.c == c) with h1 | ⟨h1, h2⟩ | ⟨h1, h2⟩
  all_goals
    have HO := hide (show isP r c x = _ from (by unfold isP; simp only [*]; rfl))
    go_enter Tryd.func64, Tryd.ntmps64
    go_wp2
    go_ret
    exact ⟨ret_bool HO.out.symm, (Below.refl _ _).alloc (Nat.le_refl _) _⟩
set_option maxRecDepth 100000 in
theorem pageOn_any (ao : Option Addr) (n c : Nat) (zs : List Pg) (r s : Int) (w : World) (hz : zs.length = n) (hn : n ≤ 1048576) (hr : Rd encPg 4 w.heap.size w ao zs) :
    Calls Tryd.prog 49 #[.slice ao n c, .int .i64 r, .int .i64 s] w fun e w' => e = .returned (.int .i64 (idxB (isP r s) zs)) ∧ Below w.heap.size w w' := by
  have eg : ∀ args w, (callFunc 64 args).run Tryd.prog w = .ok (.enter 64 args) w := enters_at Tryd.func64 (by kernel_rfl) rfl
  obtain ⟨V1, hV1⟩ : ∃ V1, V1 = w.alloc (.cells #[.int .i64 r] 3) := ⟨_, rfl⟩
  have s1 : V1.heap.size = w.heap.size + 1 := by rw [hV1]; simp
  have c1 : V1.cell? ⟨w.heap.size, 0, none⟩ = some (.int .i64 r) := by rw [hV1]; simp
  have b1 : Below w.heap.size w V1 := by rw [hV1]; exact (Below.refl _ _).alloc (Nat.le_refl _) _
  obtain ⟨V, hV⟩ : ∃ V, V = V1.alloc (.cells #[.int .i64 s] 3) := ⟨_, rfl⟩
  have b2 : Below V1.heap.size V1 V := by rw [hV]; exact (Below.refl _ _).alloc (Nat.le_refl _) _
  have s2 : V.heap.size = w.heap.size + 2 := by rw [hV]; simp [s1]
  have c2 : V.cell? ⟨w.heap.size + 1, 0, none⟩ = some (.int .i64 s) := by rw [hV, ← s1]; simp
  have c1' : V.cell? ⟨w.heap.size, 0, none⟩ = some (.int .i64 r) := (b2.cell (p := ⟨w.heap.size, 0, none⟩) (by show w.heap.size < V1.heap.size; omega)).trans c1
  have bV : Below w.heap.size w V := b1.trans (b2.mono (by omega))
  have H := hide (IndexFuncPage_any 64 #[.pointer (some ⟨w.heap.size, 0, none⟩), .pointer (some ⟨w.heap.size + 1, 0, none⟩)] (isP r s) eg ao n c zs V hz hn (rd_step hr bV) (fun W x hb => by
    have := hb.size
    exact pageOn1_any w.heap.size (w.heap.size + 1) r s x W ((hb.cell (p := ⟨w.heap.size, 0, none⟩) (by show w.heap.size < V.heap.size; omega)).trans c1') ((hb.cell (p := ⟨w.heap.size + 1, 0, none⟩) (by show w.heap.size + 1 < V.heap.size; omega)).trans c2) (by omega) (by omega)))
  have BV := hide bV
  clear hz hr eg c1 c2 c1' b1 b2 bV s2
  go_enter Tryd.func49, Tryd.ntmps49
  go_wp2_with fail
  try simp only [World.size_alloc]
  first | rw [← hV1] | skip
  first | rw [← hV] | skip
  first | rw [s1] | skip
  refine H.out.mono ?_
  rintro e w' ⟨rfl, hb⟩
  go_wp2
  go_ret
  exact ⟨rfl, bl_step BV.out hb⟩
set_option maxRecDepth 100000 in
theorem l13At_any (ao : Option Addr) (n c : Nat) (zs : List Pg) (r s : Int) (w : World) (hz : zs.length = n) (hn : n ≤ 1048576) (hr : Rd encPg 4 w.heap.size w ao zs) :
    Calls Tryd.prog 53 #[.slice ao n c, .int .i64 r, .int .i64 s] w fun e w' => e = .returned (.int .i64 (idxB (isP r s) zs)) ∧ w = w' := by
  have HZ := hide hz
  have HR := hide hr
  clear hz hr
  go_enter Tryd.func53, Tryd.ntmps53
  go_wp2
  go_loopg [7] n (fun gk i wr => ∃ k : Nat, k ≤ n ∧ n - k ≤ gk ∧ i = .int .i64 k ∧ w = wr ∧ Aside (∀ j, j < k → ∀ y, zs[j]? = some y → isP r s y = false))
  case atStart => exact ⟨0, Nat.zero_le _, by omega, rfl, rfl, fun j hj => absurd hj (Nat.not_lt_zero _)⟩
  case round =>
    obtain ⟨k, hk, hg, rfl, rfl, A⟩ := hrel
    by_cases hlt : k < n
    · have hltz : (k : Int) < (n : Int) := by omega
      obtain ⟨b, off, rfl, hb1, hat⟩ := rdPg HR.out (by rw [HZ.out]; omega)
      obtain ⟨x, hx, hxc⟩ := hat k (by rw [HZ.out]; exact hlt)
      have HX := hide hx
      obtain ⟨hbr, c0, c1, c2, c3⟩ := hxc w (Below.refl _ _)
      clear hx hxc hat
      rcases first2 (x.r == r) (x.c == s) with h1 | ⟨h1, h2⟩ | ⟨h1, h2⟩
      iterate 2
        · have HQ : Hid (isP r s x = false) := hide (by unfold isP; simp only [*]; rfl)
          go_wp2
          go_roundg (n - (k + 1))
          case measure => omega
          case rel => exact ⟨k + 1, by omega, by omega, by go_num, rfl, none_succ (p := isP r s) A.out HX.out HQ.out⟩
      · have HQ : Hid (isP r s x = true) := hide (by unfold isP; simp only [*]; rfl)
        go_wp2
        go_ret
        exact ⟨ret_int (idx_hit (p := isP r s) HX.out HQ.out A.out).1.symm, rfl⟩
    · have hltz : ¬ (k : Int) < (n : Int) := by omega
      go_wp2
      go_ret
      exact ⟨ret_int (idx_miss fun j y hy => A.out j (by have := (List.getElem?_eq_some_iff.1 hy).1; rw [HZ.out] at this; omega) y hy).1.symm, rfl⟩

def okPg (zs : List Pg) (k : Nat) (x : Pg) : Bool := decide (x.n = (k : Int) + 1) && inB x.r 0 99 && inB x.c 0 99 && inB x.l 0 40 && decide (idxB (isP x.r x.c) zs = (k : Int))
def stepPg (zs : List Pg) (k : Nat) : Bool := okPg zs k zs[k]!
def atlasB (zs : List Pg) : Bool := allB zs.length (stepPg zs) && decide (zs.length ≤ 12)
theorem atlas_false {zs : List Pg} {n k : Nat} {x : Pg} (hz : zs.length = n) (hk : k < n) (hx : zs[k]! = x) (h : okPg zs k x = false) : atlasB zs = false := by
  unfold atlasB; rw [hz, allB_false k hk (by unfold stepPg; rw [hx, h])]; rfl
theorem atlas_end {zs : List Pg} {n k : Nat} (hz : zs.length = n) (h : ∀ j, j < k → stepPg zs j = true) (hk : n ≤ k) : atlasB zs = decide (n ≤ 12) := by
  unfold atlasB; rw [hz, allB_true (fun j hj => h j (by omega)), Bool.true_and]
theorem atlas_long {zs : List Pg} {n : Nat} (hz : zs.length = n) (h : 12 < n) : atlasB zs = false := by unfold atlasB; rw [hz]; simp; intro; omega
theorem step_ok {zs : List Pg} {k : Nat} {x : Pg} (hx : zs[k]! = x) (h : okPg zs k x = true) : stepPg zs k = true := by unfold stepPg; rw [hx, h]
theorem isP_self (x : Pg) : isP x.r x.c x = true := by simp [isP]
/-- no page ahead at the same place -/
theorem idx_take {zs : List Pg} {k : Nat} {x : Pg} (hx : zs[k]? = some x) : (0 ≤ idxB (isP x.r x.c) (zs.take k) ∧ idxB (isP x.r x.c) zs ≠ (k : Int)) ∨ (¬ 0 ≤ idxB (isP x.r x.c) (zs.take k) ∧ idxB (isP x.r x.c) zs = (k : Int)) := by
  have T : ∀ j, j < k → (zs.take k)[j]? = zs[j]? := fun j hj => by rw [List.getElem?_take]; simp [hj]
  rcases idx_cases (isP x.r x.c) (zs.take k) with ⟨h1, _, h3⟩ | ⟨j, y, hj, hy, hp, h1, _, _⟩
  · refine .inr ⟨by omega, ?_⟩
    exact (idx_hit hx (isP_self x) (fun j hj y hy => h3 j y (by rw [T j hj]; exact hy))).1
  · refine .inl ⟨by omega, ?_⟩
    have hjk : j < k := by simp at hj; omega
    rw [T j hjk] at hy
    rcases idx_cases (isP x.r x.c) zs with ⟨g1, _, _⟩ | ⟨i, z, hi, hz, hq, g1, _, g3⟩
    · omega
    · intro he
      have : i = k := by omega
      subst this
      have := g3 j hjk y hy
      rw [hp] at this; cases this
theorem idx_le {p : Pg → Bool} {zs : List Pg} {n : Nat} (hz : zs.length = n) : -1 ≤ idxB p zs ∧ idxB p zs < n ∨ idxB p zs = -1 := by
  rcases idx_cases p zs with ⟨h1, _, _⟩ | ⟨k, x, hk, _, _, h1, _, _⟩
  · exact .inr h1
  · left; omega
theorem Rd.take {B : Nat} {w : World} {ao : Option Addr} {zs : List Pg} (k : Nat) (h : Rd encPg 4 B w ao zs) : Rd encPg 4 B w ao (zs.take k) := by
  rcases h with h | ⟨b, off, rfl, h1, h2, h3⟩
  · exact .inl (by simp [h])
  · refine .inr ⟨b, off, rfl, h1, h2, fun j x hx => h3 j x ?_⟩
    rw [List.getElem?_take] at hx
    split at hx
    · exact hx
    · cases hx

end Go.Proofs.YtdgalehipgdhiaaDoor
