/- Pages beside each other. -/
import Derived.Test.YtdgalehipgdhiaaDoorA3
namespace Go.Proofs.YtdgalehipgdhiaaDoor
open Go.RowKit
set_option linter.unusedVariables false
set_option linter.unusedSimpArgs false

theorem sq_bd (d : Int) (h : -99 ≤ d ∧ d ≤ 99) : 0 ≤ d * d ∧ d * d ≤ 9801 := by
  rw [← Int.natAbs_mul_self]
  have : d.natAbs * d.natAbs ≤ 99 * 99 := Nat.mul_le_mul (by omega) (by omega)
  omega
def besB (x y : Pg) : Bool := decide ((x.r - y.r).natAbs + (x.c - y.c).natAbs = 1)
theorem sq_one (m n : Nat) : m * m + n * n = 1 ↔ m + n = 1 := by
  match m, n with
  | 0, 0 => simp
  | 0, 1 => simp
  | 1, 0 => simp
  | 1, 1 => simp
  | 0, n + 2 => have := Nat.mul_le_mul (show 2 ≤ n + 2 by omega) (show 2 ≤ n + 2 by omega); omega
  | 1, n + 2 => have := Nat.mul_le_mul (show 2 ≤ n + 2 by omega) (show 2 ≤ n + 2 by omega); omega
  | m + 2, n => have := Nat.mul_le_mul (show 2 ≤ m + 2 by omega) (show 2 ≤ m + 2 by omega); omega
theorem bes_sq (x y : Pg) : besB x y = decide ((x.r - y.r) * (x.r - y.r) + (x.c - y.c) * (x.c - y.c) = 1) := by
  unfold besB; rw [decide_eq_decide, ← Int.natAbs_mul_self, ← Int.natAbs_mul_self (a := x.c - y.c), ← sq_one]; omega
def ruf (zs : List Pg) : Nat → Int | 0 => 0 | k + 1 => ruf zs k + if besB zs[k]! zs[k + 1]! then 0 else 1
theorem ruf_bd (zs : List Pg) : ∀ k : Nat, 0 ≤ ruf zs k ∧ ruf zs k ≤ k
  | 0 => by simp [ruf]
  | k + 1 => by have := ruf_bd zs k; unfold ruf; split <;> omega
theorem ruf_y {zs : List Pg} {k : Nat} {x y : Pg} (hk : 1 ≤ k) (hx : zs[k - 1]! = x) (hy : zs[k]! = y) (h : besB x y = true) : ruf zs k = ruf zs (k - 1) := by
  obtain ⟨j, rfl⟩ : ∃ j, k = j + 1 := ⟨k - 1, by omega⟩
  rw [Nat.add_sub_cancel] at hx ⊢
  rw [ruf, hx, hy, h]; simp
theorem ruf_n {zs : List Pg} {k : Nat} {x y : Pg} (hk : 1 ≤ k) (hx : zs[k - 1]! = x) (hy : zs[k]! = y) (h : besB x y = false) : ruf zs k = ruf zs (k - 1) + 1 := by
  obtain ⟨j, rfl⟩ : ∃ j, k = j + 1 := ⟨k - 1, by omega⟩
  rw [Nat.add_sub_cancel] at hx ⊢
  rw [ruf, hx, hy, h]; simp
theorem atlas_at {zs : List Pg} (h : atlasB zs = true) {k : Nat} {x : Pg} (hx : zs[k]? = some x) : 0 ≤ x.r ∧ x.r ≤ 99 ∧ 0 ≤ x.c ∧ x.c ≤ 99 := by
  unfold atlasB at h; simp only [Bool.and_eq_true] at h
  have := allB_at h.1 k (List.getElem?_eq_some_iff.1 hx).1
  unfold stepPg okPg at this; rw [getB hx] at this; simp only [Bool.and_eq_true] at this
  have a := inB_iff.1 this.1.1.1.2; have b := inB_iff.1 this.1.1.2; omega
theorem abs_any (a : Int) (ha : -1000 ≤ a ∧ a ≤ 1000) (w : World) : Calls Tryd.prog 54 #[.int .i64 a] w fun e w' => e = .returned (.int .i64 a.natAbs) ∧ w = w' := by
  have k5 : IntKind.i64.wrap (-a) = -a := IntWalk.i64_in _ (by omega)
  go_enter Tryd.func54, Tryd.ntmps54
  go_wp2
  all_goals
    go_ret
    exact ⟨ret_int (by omega), rfl⟩

set_option maxRecDepth 100000 in
theorem areBeside_any (x y : Pg) (hx : 0 ≤ x.r ∧ x.r ≤ 99 ∧ 0 ≤ x.c ∧ x.c ≤ 99) (hy : 0 ≤ y.r ∧ y.r ≤ 99 ∧ 0 ≤ y.c ∧ y.c ≤ 99) (w : World) :
    Calls Tryd.prog 36 #[.agg #[.int .i64 x.n, .int .i64 x.r, .int .i64 x.c, .int .i64 x.l], .agg #[.int .i64 y.n, .int .i64 y.r, .int .i64 y.c, .int .i64 y.l]] w fun e w' => e = .returned (.bool (besB x y)) ∧ Below w.heap.size w w' := by
  have k1 : IntKind.i64.wrap (x.r - y.r) = x.r - y.r := IntWalk.i64_in _ (by omega)
  have k2 : IntKind.i64.wrap (x.c - y.c) = x.c - y.c := IntWalk.i64_in _ (by omega)
  have k3 : IntKind.i64.wrap ((x.r - y.r).natAbs + (x.c - y.c).natAbs) = (x.r - y.r).natAbs + (x.c - y.c).natAbs := IntWalk.i64_in _ (by omega)
  have q1 : -1000 ≤ x.r - y.r ∧ x.r - y.r ≤ 1000 := by omega
  have q2 : -1000 ≤ x.c - y.c ∧ x.c - y.c ≤ 1000 := by omega
  clear hx hy
  go_enter Tryd.func36, Tryd.ntmps36
  go_wp2_with fail
  go_quiet ((first | (go_at_call 54; exact quiet_left (abs_any _ q1 _)) | (go_at_call 54; exact quiet_left (abs_any _ q2 _))))
  go_wp2
  go_ret
  exact ⟨ret_bool (by unfold besB; rw [Bool.eq_iff_iff]; simp; omega), below_drewN (((Below.refl _ w).alloc (Nat.le_refl _) _).alloc (by simp) _) _⟩
set_option maxRecDepth 100000 in
theorem l13Beside_any (x y : Pg) (hx : 0 ≤ x.r ∧ x.r ≤ 99 ∧ 0 ≤ x.c ∧ x.c ≤ 99) (hy : 0 ≤ y.r ∧ y.r ≤ 99 ∧ 0 ≤ y.c ∧ y.c ≤ 99) (w : World) :
    Calls Tryd.prog 44 #[.agg #[.int .i64 x.n, .int .i64 x.r, .int .i64 x.c, .int .i64 x.l], .agg #[.int .i64 y.n, .int .i64 y.r, .int .i64 y.c, .int .i64 y.l]] w fun e w' => e = .returned (.bool (besB x y)) ∧ Below w.heap.size w w' := by
  have k1 : IntKind.i64.wrap (x.r - y.r) = x.r - y.r := IntWalk.i64_in _ (by omega)
  have k2 : IntKind.i64.wrap (x.c - y.c) = x.c - y.c := IntWalk.i64_in _ (by omega)
  have s1 := sq_bd (x.r - y.r) (by omega)
  have s2 := sq_bd (x.c - y.c) (by omega)
  have k3 : IntKind.i64.wrap ((x.r - y.r) * (x.r - y.r)) = (x.r - y.r) * (x.r - y.r) := IntWalk.i64_in _ (by omega)
  have k4 : IntKind.i64.wrap ((x.c - y.c) * (x.c - y.c)) = (x.c - y.c) * (x.c - y.c) := IntWalk.i64_in _ (by omega)
  have k6 : IntKind.i64.wrap ((x.r - y.r) * (x.r - y.r) + (x.c - y.c) * (x.c - y.c)) = (x.r - y.r) * (x.r - y.r) + (x.c - y.c) * (x.c - y.c) := IntWalk.i64_in _ (by omega)
  clear hx hy s1 s2
  go_enter Tryd.func44, Tryd.ntmps44
  go_wp2_with fail
  go_quiet (fail)
  go_wp2
  go_ret
  exact ⟨ret_bool (by rw [bes_sq, Bool.eq_iff_iff]; simp), below_drewN (((Below.refl _ w).alloc (Nat.le_refl _) _).alloc (by simp) _) _⟩

end Go.Proofs.YtdgalehipgdhiaaDoor
