/- Loans: the plain law; one loan. -/
import Derived.Test.YtojahihkoaabdaaDoorSmall
import Derived.Test.YtojahihkoaabdaaDoorFLoan
namespace Go.Proofs.YtojahihkoaabdaaDoor
open Go.RowKit
set_option linter.unusedVariables false
set_option linter.unusedSimpArgs false

def backB (x : Ln) : Bool := decide (x.b = -1) || (inB x.b 0 4000 && decide (x.o ≤ x.b))
def okLn (x : Ln) : Bool := inB x.s 1 999 && inB x.r 1 999 && inB x.o 0 4000 && inB x.d 0 4000 && decide (x.o ≤ x.d) && backB x
def clash (y x : Ln) : Bool := y.s == x.s && (y.b == -1 || decide (x.o < y.b))
def anyC (zs : List Ln) (k : Nat) (x : Ln) : Bool := (zs.take k).any (fun y => clash y x)
def stepLn (zs : List Ln) (k : Nat) : Bool := okLn zs[k]! && (decide (k = 0) || decide (zs[k - 1]!.o ≤ zs[k]!.o)) && !anyC zs k zs[k]!
def loansB (zs : List Ln) : Bool := allB zs.length (stepLn zs) && decide (zs.length ≤ 15)
theorem okLn_bd {x : Ln} (h : okLn x = true) : (1 ≤ x.s ∧ x.s ≤ 999) ∧ (1 ≤ x.r ∧ x.r ≤ 999) ∧ (0 ≤ x.o ∧ x.o ≤ 4000) ∧ (0 ≤ x.d ∧ x.d ≤ 4000) ∧ x.o ≤ x.d ∧ (x.b = -1 ∨ (0 ≤ x.b ∧ x.b ≤ 4000 ∧ x.o ≤ x.b)) := by
  unfold okLn backB at h; simp only [Bool.and_eq_true, Bool.or_eq_true, decide_eq_true_eq] at h
  obtain ⟨⟨⟨⟨⟨h1, h2⟩, h3⟩, h4⟩, h5⟩, h6⟩ := h
  have a1 := inB_iff.1 h1; have a2 := inB_iff.1 h2; have a3 := inB_iff.1 h3; have a4 := inB_iff.1 h4
  refine ⟨a1, a2, a3, a4, h5, ?_⟩
  rcases h6 with h6 | ⟨h6, h7⟩
  · exact .inl h6
  · have a6 := inB_iff.1 h6; exact .inr ⟨a6.1, a6.2, h7⟩
theorem stepLn_bad0 {zs : List Ln} {k : Nat} {x : Ln} (hx : zs[k]! = x) (h : okLn x = false) : stepLn zs k = false := by unfold stepLn; rw [hx, h]; rfl
theorem stepLn_bad {zs : List Ln} {k : Nat} {x y : Ln} (hx : zs[k]! = x) (hy : zs[k - 1]! = y) (hk : 0 < k) (hs : x.o < y.o) : stepLn zs k = false := by
  unfold stepLn; rw [hx, hy]
  have a : decide (k = 0) = false := by simp; omega
  have b : decide (y.o ≤ x.o) = false := by simp; omega
  rw [a, b]; simp
theorem stepLn_clash {zs : List Ln} {k : Nat} {x : Ln} (hx : zs[k]! = x) (h : anyC zs k x = true) : stepLn zs k = false := by unfold stepLn; rw [hx, h]; simp
theorem stepLn_ok {zs : List Ln} {k : Nat} {x y : Ln} (hx : zs[k]! = x) (hy : zs[k - 1]! = y) (h : okLn x = true) (hs : k = 0 ∨ y.o ≤ x.o) (hc : anyC zs k x = false) : stepLn zs k = true := by
  unfold stepLn; rw [hx, hy, h, hc]; simp; exact hs
theorem loans_false {zs : List Ln} {n k : Nat} (hz : zs.length = n) (hk : k < n) (h : stepLn zs k = false) : loansB zs = false := by unfold loansB; rw [hz, allB_false k hk h]; rfl
theorem loans_end {zs : List Ln} {n k : Nat} (hz : zs.length = n) (h : ∀ j, j < k → stepLn zs j = true) (hk : n ≤ k) : loansB zs = decide (n ≤ 15) := by
  unfold loansB; rw [hz, allB_true (fun j hj => h j (by omega)), Bool.true_and]
theorem loans_long {zs : List Ln} {n : Nat} (hz : zs.length = n) (h : 15 < n) : loansB zs = false := by unfold loansB; rw [hz]; simp; intro; omega
theorem loans_15 {zs : List Ln} (h : loansB zs = true) : zs.length ≤ 15 := by unfold loansB at h; simp only [Bool.and_eq_true, decide_eq_true_eq] at h; exact h.2
theorem step_okLn {zs : List Ln} {k : Nat} {x : Ln} (hx : zs[k]? = some x) (h : stepLn zs k = true) : okLn x = true := by
  unfold stepLn at h; rw [getB hx] at h; simp only [Bool.and_eq_true] at h; exact h.1.1
theorem loans_at {zs : List Ln} (h : loansB zs = true) {k : Nat} {x : Ln} (hx : zs[k]? = some x) : okLn x = true := by
  unfold loansB at h; simp only [Bool.and_eq_true] at h
  exact step_okLn hx (allB_at h.1 k (List.getElem?_eq_some_iff.1 hx).1)
theorem loans_clash {zs : List Ln} (h : loansB zs = true) {i k : Nat} {x y : Ln} (hik : i < k) (hy : zs[i]? = some y) (hx : zs[k]? = some x) : clash y x = false := by
  unfold loansB at h; simp only [Bool.and_eq_true] at h
  have := allB_at h.1 k (List.getElem?_eq_some_iff.1 hx).1
  unfold stepLn at this; rw [getB hx] at this; simp only [Bool.and_eq_true, Bool.not_eq_true'] at this
  have := this.2
  unfold anyC at this; rw [List.any_eq_false] at this
  have hm : y ∈ zs.take k := List.mem_of_getElem? (i := i) (by rw [List.getElem?_take]; simp [hik, hy])
  have := this y hm; simpa using this
theorem anyC_0 (zs : List Ln) (x : Ln) : anyC zs 0 x = false := by simp [anyC]
theorem anyC_succ {zs : List Ln} {j : Nat} {x y : Ln} (hy : zs[j]? = some y) (h : anyC zs j x = false) : anyC zs (j + 1) x = clash y x := by
  unfold anyC at *; rw [List.take_add_one, hy, List.any_append, h]; simp
theorem anyC_hit {zs : List Ln} {j k : Nat} {x y : Ln} (hj : j < k) (hy : zs[j]? = some y) (h : clash y x = true) : anyC zs k x = true := by
  unfold anyC; rw [List.any_eq_true]
  exact ⟨y, List.mem_of_getElem? (i := j) (by rw [List.getElem?_take]; simp [hj, hy]), h⟩
theorem Rd.takeL {B : Nat} {w : World} {ao : Option Addr} {zs : List Ln} (k : Nat) (h : Rd encLn 5 B w ao zs) : Rd encLn 5 B w ao (zs.take k) := by
  rcases h with h | ⟨b, off, rfl, h1, h2, h3⟩
  · exact .inl (by simp [h])
  · refine .inr ⟨b, off, rfl, h1, h2, fun j x hx => h3 j x ?_⟩
    rw [List.getElem?_take] at hx
    split at hx
    · exact hx
    · cases hx
theorem first6 (a b c d e f : Bool) : a = false ∨ (a = true ∧ b = false) ∨ (a = true ∧ b = true ∧ c = false) ∨ (a = true ∧ b = true ∧ c = true ∧ d = false) ∨ (a = true ∧ b = true ∧ c = true ∧ d = true ∧ e = false) ∨ (a = true ∧ b = true ∧ c = true ∧ d = true ∧ e = true ∧ f = false) ∨
    (a = true ∧ b = true ∧ c = true ∧ d = true ∧ e = true ∧ f = true) := by
  cases a <;> cases b <;> cases c <;> cases d <;> cases e <;> cases f <;> simp
theorem back_cases (x : Ln) : (x.b = -1 ∧ backB x = true) ∨ (x.b ≠ -1 ∧ inB x.b 0 4000 = false ∧ backB x = false) ∨ (x.b ≠ -1 ∧ inB x.b 0 4000 = true ∧ x.o ≤ x.b ∧ backB x = true) ∨ (x.b ≠ -1 ∧ inB x.b 0 4000 = true ∧ ¬ x.o ≤ x.b ∧ backB x = false) := by
  unfold backB
  by_cases h1 : x.b = -1
  · left; simp [h1]
  · cases h2 : inB x.b 0 4000 with
    | false => right; left; simp [h1]
    | true =>
      by_cases h3 : x.o ≤ x.b
      · right; right; left; simp [h1, h3]
      · right; right; right; simp [h1, h3]

set_option maxHeartbeats 4000000 in
theorem isLoan_any (x : Ln) (w : World) : Calls Tryd.prog 9 #[.agg #[.int .i64 x.s, .int .i64 x.r, .int .i64 x.o, .int .i64 x.d, .int .i64 x.b]] w fun e w' => e = .returned (.bool (okLn x)) ∧ Below w.heap.size w w' := by
  rcases first5 (inB x.s 1 999) (inB x.r 1 999) (inB x.o 0 4000) (inB x.d 0 4000) (decide (x.o ≤ x.d)) with h1 | ⟨h1, h2⟩ | ⟨h1, h2, h3⟩ | ⟨h1, h2, h3, h4⟩ | ⟨h1, h2, h3, h4, h5⟩ | ⟨h1, h2, h3, h4, h5⟩
  all_goals
    rcases back_cases x with ⟨k1, k4⟩ | ⟨k1, k2, k4⟩ | ⟨k1, k2, k3, k4⟩ | ⟨k1, k2, k3, k4⟩
  all_goals
    have HO := hide (show okLn x = _ from (by unfold okLn; simp only [*]; rfl))
    clear k4
    try simp only [decide_eq_true_eq, decide_eq_false_iff_not] at h5
    go_enter Tryd.func9, Tryd.ntmps9
    go_wp2_with (first | (go_at_call 14; refine (isId_any _ _).mono ?_; rintro e w' ⟨rfl, rfl⟩) | (go_at_call 13; refine (isDay_any _ _).mono ?_; rintro e w' ⟨rfl, rfl⟩) | (go_at_call 17; refine (within_any _ _ _ _).mono ?_; rintro e w' ⟨rfl, rfl⟩))
    go_ret
    exact ⟨by first | exact ret_bool HO.out.symm | exact ret_bool (by rw [HO.out]; simp [k1] <;> omega), (Below.refl _ _).alloc (Nat.le_refl _) _⟩
set_option maxHeartbeats 4000000 in
theorem l11One_any (x : Ln) (w : World) : Calls Tryd.prog 7 #[.agg #[.int .i64 x.s, .int .i64 x.r, .int .i64 x.o, .int .i64 x.d, .int .i64 x.b]] w fun e w' => e = .returned (.bool (okLn x)) ∧ Below w.heap.size w w' := by
  rcases first5 (inB x.s 1 999) (inB x.r 1 999) (inB x.o 0 4000) (inB x.d 0 4000) (decide (x.o ≤ x.d)) with h1 | ⟨h1, h2⟩ | ⟨h1, h2, h3⟩ | ⟨h1, h2, h3, h4⟩ | ⟨h1, h2, h3, h4, h5⟩ | ⟨h1, h2, h3, h4, h5⟩
  iterate 5
    · have HO := hide (show okLn x = _ from (by unfold okLn; simp only [*]; rfl))
      try simp only [decide_eq_true_eq, decide_eq_false_iff_not] at h5
      try have h6 : x.d < x.o := by omega
      go_enter Tryd.func7, Tryd.ntmps7
      go_wp2_with (first | (go_at_call 11; refine (l11Id_any _ _).mono ?_; rintro e w' ⟨rfl, rfl⟩) | (go_at_call 12; refine (l2Day_any _ _).mono ?_; rintro e w' ⟨rfl, rfl⟩) | (go_at_call 16; refine (l1In_any _ _ _ _).mono ?_; rintro e w' ⟨rfl, rfl⟩))
      go_ret
      exact ⟨ret_bool HO.out.symm, (Below.refl _ _).alloc (Nat.le_refl _) _⟩
  rcases back_cases x with ⟨k1, k4⟩ | ⟨k1, k2, k4⟩ | ⟨k1, k2, k3, k4⟩ | ⟨k1, k2, k3, k4⟩
  all_goals
    have HO := hide (show okLn x = _ from (by unfold okLn; simp only [*]; rfl))
    clear k4
    simp only [decide_eq_true_eq] at h5
    have h6 : ¬ x.d < x.o := by omega
    go_enter Tryd.func7, Tryd.ntmps7
    go_wp2_with (first | (go_at_call 11; refine (l11Id_any _ _).mono ?_; rintro e w' ⟨rfl, rfl⟩) | (go_at_call 12; refine (l2Day_any _ _).mono ?_; rintro e w' ⟨rfl, rfl⟩) | (go_at_call 16; refine (l1In_any _ _ _ _).mono ?_; rintro e w' ⟨rfl, rfl⟩))
    go_ret
    exact ⟨by first | exact ret_bool HO.out.symm | exact ret_bool (by rw [HO.out]; simp [k1] <;> omega), (Below.refl _ _).alloc (Nat.le_refl _) _⟩

end Go.Proofs.YtojahihkoaabdaaDoor
