/- Open loans: the plain law; small contracts. -/
import Derived.Test.YtojahihkoaabdaaN1
import Derived.Test.YtojahihkoaabdaaKit2
namespace Go.Proofs.Ytojahihkoaabdaa
open Go.RowKit
set_option linter.unusedVariables false
set_option linter.unusedSimpArgs false

theorem ret_ib {a b : Int} {c d : Bool} (h1 : a = b) (h2 : c = d) : Ending.returned (.tuple #[.int .i64 a, .bool c]) = .returned (.tuple #[.int .i64 b, .bool d]) := by rw [h1, h2]
def openB (x : Ln) (d : Int) : Bool := decide (x.o ≤ d) && (x.b == -1 || decide (d < x.b))
def openS (x : Ln) (d : Int) : Bool := decide (x.o ≤ d) && (decide (x.b < 0) || decide (d < x.b))
theorem open_eq {x : Ln} (h : okLn x = true) (d : Int) : openS x d = openB x d := by
  have := okLn_bd h
  unfold openS openB; rw [Bool.eq_iff_iff]; simp; omega
def has (s d : Int) (x : Ln) : Bool := x.s == s && openB x d
theorem has_one {zs : List Ln} (h : loansB zs = true) {s d : Int} {i k : Nat} {x y : Ln} (hik : i < k) (hy : zs[i]? = some y) (hx : zs[k]? = some x) (h1 : has s d y = true) (h2 : has s d x = true) : False := by
  have a := loans_clash h hik hy hx
  have b := okLn_bd (loans_at h hx)
  unfold has openB at h1 h2
  unfold clash at a
  simp only [Bool.and_eq_true, Bool.or_eq_true, decide_eq_true_eq, beq_iff_eq] at h1 h2
  have hs : y.s = x.s := by omega
  rw [hs] at a
  simp only [beq_self_eq_true, Bool.true_and, Bool.or_eq_false_iff, decide_eq_false_iff_not, beq_eq_false_iff_ne] at a
  omega
def okWho (zs : List Ln) (s d : Int) : Bool := loansB zs && inB s 1 999 && inB d 0 4000
def whoL (zs : List Ln) (s d : Int) : Int := match zs.find? (has s d) with | some x => x.r | none => 0
def whoV (zs : List Ln) (s d : Int) : Int := if okWho zs s d then whoL zs s d else 0
theorem who_miss {zs : List Ln} {s d : Int} {k : Nat} {x : Ln} (hx : zs[k]? = some x) (h : has s d x = false) : whoL (zs.take (k + 1)) s d = whoL (zs.take k) s d := by
  unfold whoL; rw [List.take_add_one, hx, List.find?_append]
  simp [h]
theorem who_hit {zs : List Ln} (hg : loansB zs = true) {s d : Int} {k : Nat} {x : Ln} (hx : zs[k]? = some x) (h : has s d x = true) : whoL (zs.take (k + 1)) s d = x.r := by
  have hn : (zs.take k).find? (has s d) = none := by
    rw [List.find?_eq_none]
    intro y hy hh
    obtain ⟨i, hi⟩ := List.getElem?_of_mem hy
    rw [List.getElem?_take] at hi
    split at hi
    · exact has_one hg (by assumption) hi hx hh h
    · cases hi
  unfold whoL; rw [List.take_add_one, hx, List.find?_append, hn]
  simp [h]
theorem who_zero (zs : List Ln) (s d : Int) : whoL (zs.take 0) s d = 0 := by simp [whoL]
theorem who_all {zs : List Ln} {s d : Int} {k : Nat} (hk : zs.length ≤ k) : whoL (zs.take k) s d = whoL zs s d := by rw [List.take_of_length_le hk]
theorem who_first {zs : List Ln} {s d : Int} {k : Nat} {x : Ln} (hx : zs[k]? = some x) (h : has s d x = true) (hb : ∀ j, j < k → ∀ y, zs[j]? = some y → has s d y = false) : whoL zs s d = x.r := by
  unfold whoL; rw [(idx_hit hx h hb).2]
theorem who_none {zs : List Ln} {s d : Int} (hb : ∀ (j : Nat) (y : Ln), zs[j]? = some y → has s d y = false) : whoL zs s d = 0 := by
  unfold whoL; rw [(idx_miss hb).2]
theorem isOpen_any (x : Ln) (d : Int) (w : World) : Calls Try.prog 29 #[.agg #[.int .i64 x.s, .int .i64 x.r, .int .i64 x.o, .int .i64 x.d, .int .i64 x.b], .int .i64 d] w fun e w' => e = .returned (.bool (openB x d)) ∧ Below w.heap.size w w' := by
  have H : (¬ x.o ≤ d) ∨ (x.o ≤ d ∧ x.b = -1) ∨ (x.o ≤ d ∧ x.b ≠ -1 ∧ ¬ d < x.b) ∨ (x.o ≤ d ∧ x.b ≠ -1 ∧ d < x.b) := by omega
  rcases H with h1 | ⟨h1, h2⟩ | ⟨h1, h2, h3⟩ | ⟨h1, h2, h3⟩
  all_goals
    have HO := hide (show openB x d = _ from (by unfold openB; simp [*]; rfl))
    go_enter Try.func29, Try.ntmps29
    go_wp2
    go_ret
    exact ⟨ret_bool HO.out.symm, (Below.refl _ _).alloc (Nat.le_refl _) _⟩
theorem l11IsOpen_any (x : Ln) (d : Int) (w : World) : Calls Try.prog 24 #[.agg #[.int .i64 x.s, .int .i64 x.r, .int .i64 x.o, .int .i64 x.d, .int .i64 x.b], .int .i64 d] w fun e w' => e = .returned (.bool (openS x d)) ∧ Below w.heap.size w w' := by
  have H : (¬ x.o ≤ d) ∨ (x.o ≤ d ∧ x.b < 0) ∨ (x.o ≤ d ∧ ¬ x.b < 0 ∧ ¬ d < x.b) ∨ (x.o ≤ d ∧ ¬ x.b < 0 ∧ d < x.b) := by omega
  rcases H with h1 | ⟨h1, h2⟩ | ⟨h1, h2, h3⟩ | ⟨h1, h2, h3⟩
  all_goals
    have HO := hide (show openS x d = _ from (by unfold openS; simp [*]; rfl))
    go_enter Try.func24, Try.ntmps24
    go_wp2
    go_ret
    exact ⟨ret_bool HO.out.symm, (Below.refl _ _).alloc (Nat.le_refl _) _⟩

end Go.Proofs.Ytojahihkoaabdaa
