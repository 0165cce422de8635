/- Generic: sums over a list, wrapped as Go wraps them. No program. -/
import Derived.Test.YtojahihkoaabdaaKit
namespace Go.Proofs.Ytojahihkoaabdaa
open Go.RowKit
section
variable {α : Type}
/-- the sum of f over the elements of which c holds, each step wrapped -/
def sumI (f : α → Int) (c : α → Bool) (zs : List α) : Int := zs.foldl (fun t x => if c x then wrap64 (t + f x) else t) 0
theorem sum_yes {f : α → Int} {c : α → Bool} {zs : List α} {k : Nat} {x : α} (hx : zs[k]? = some x) (hc : c x = true) : sumI f c (zs.take (k + 1)) = wrap64 (sumI f c (zs.take k) + f x) := by
  unfold sumI; rw [List.take_add_one, hx]; simp [hc]
theorem sum_no {f : α → Int} {c : α → Bool} {zs : List α} {k : Nat} {x : α} (hx : zs[k]? = some x) (hc : c x = false) : sumI f c (zs.take (k + 1)) = sumI f c (zs.take k) := by
  unfold sumI; rw [List.take_add_one, hx]; simp [hc]
theorem sum_all {f : α → Int} {c : α → Bool} {zs : List α} {k : Nat} (hk : zs.length ≤ k) : sumI f c (zs.take k) = sumI f c zs := by rw [List.take_of_length_le hk]
theorem sum_zero {f : α → Int} {c : α → Bool} {zs : List α} : sumI f c (zs.take 0) = 0 := by simp [sumI]
theorem sum_congr {f : α → Int} {c d : α → Bool} (zs : List α) (h : ∀ x, c x = d x) : sumI f c zs = sumI f d zs := by
  have : c = d := funext h
  rw [this]
theorem wrap_in {a : Int} (h0 : -9223372036854775808 ≤ a) (h1 : a ≤ 9223372036854775807) : wrap64 a = a := IntWalk.wrap64_in a ⟨h0, h1⟩
/-- where all parts lie in 0 .. m, the sum is exact and lies in 0 .. m times the length -/
theorem sum_bd {f : α → Int} {c : α → Bool} {m : Nat} (zs : List α) (hm : m ≤ 1000000) (hl : zs.length ≤ 1000000) (h : ∀ x ∈ zs, 0 ≤ f x ∧ f x ≤ m) : 0 ≤ sumI f c zs ∧ sumI f c zs ≤ zs.length * m := by
  suffices H : ∀ k, k ≤ zs.length → 0 ≤ sumI f c (zs.take k) ∧ sumI f c (zs.take k) ≤ k * m by
    have := H zs.length (Nat.le_refl _); rw [List.take_length] at this; exact this
  intro k
  induction k with
  | zero => intro _; rw [sum_zero]; omega
  | succ k ih =>
    intro hk
    obtain ⟨h0, h1⟩ := ih (by omega)
    have hx := List.getElem?_eq_getElem (show k < zs.length by omega)
    have hb := h zs[k] (List.getElem_mem _)
    have hkm : (k : Int) * m ≤ 1000000 * 1000000 := Int.mul_le_mul (by omega) (by omega) (by omega) (by omega)
    have e : ((k + 1 : Nat) : Int) * m = (k : Int) * m + m := by rw [Int.natCast_add, Int.add_mul]; simp
    cases hc : c zs[k] with
    | true => rw [sum_yes hx hc, wrap_in (by omega) (by omega)]; omega
    | false => rw [sum_no hx hc]; omega
end
end Go.Proofs.Ytojahihkoaabdaa
