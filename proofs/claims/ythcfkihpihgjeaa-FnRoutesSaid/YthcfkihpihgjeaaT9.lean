/- PlainRoute: the plain law. -/
import Derived.Test.YthcfkihpihgjeaaT6
import Derived.Test.YthcfkihpihgjeaaKit4
import Derived.Test.YthcfkihpihgjeaaOwn
namespace Go.Proofs.Ythcfkihpihgjeaa
open Go.RowKit
set_option linter.unusedVariables false
set_option linter.unusedSimpArgs false

def mrg (y x : Lg) : Lg := ⟨x.w, wrap64 (y.u + x.u), wrap64 (y.c + x.c)⟩
def plS (acc : List Lg) (x : Lg) : List Lg := match acc[acc.length - 1]? with | some y => if y.w == x.w then acc.set (acc.length - 1) (mrg y x) else acc ++ [x] | none => acc ++ [x]
def plL (zs : List Lg) : List Lg := zs.foldl plS []
def okPl (zs : List Lg) : Bool := routeB zs && routeB (plL zs)
def plV (zs : List Lg) : List Lg := if okPl zs then plL zs else []
theorem pl_len12 {zs : List Lg} : (plV zs).length ≤ 12 := by
  unfold plV
  split
  · rename_i h
    unfold okPl at h; simp only [Bool.and_eq_true] at h
    exact route_12 h.2
  · simp
theorem plS_len (acc : List Lg) (x : Lg) : (plS acc x).length ≤ acc.length + 1 := by
  unfold plS; split
  · split <;> simp
  · simp
theorem pl_succ {zs : List Lg} {k : Nat} {x : Lg} (hx : zs[k]? = some x) : plL (zs.take (k + 1)) = plS (plL (zs.take k)) x := by
  unfold plL; rw [List.take_add_one, hx]; simp
theorem pl_len (zs : List Lg) : ∀ k, (plL (zs.take k)).length ≤ k
  | 0 => by simp [plL]
  | k + 1 => by
    by_cases h : k < zs.length
    · rw [pl_succ (List.getElem?_eq_getElem h)]
      have := plS_len (plL (zs.take k)) zs[k]; have := pl_len zs k; omega
    · have := pl_len zs k
      rw [List.take_of_length_le (by omega)] at this ⊢; omega
theorem plS_nil {acc : List Lg} (h : acc.length = 0) (x : Lg) : plS acc x = acc ++ [x] := by
  have : acc = [] := List.eq_nil_of_length_eq_zero h
  subst this; rfl
theorem plS_no {acc : List Lg} {i : Nat} {x y : Lg} (hl : acc.length = i + 1) (hy : acc[i]? = some y) (h : (y.w == x.w) = false) : plS acc x = acc ++ [x] := by
  unfold plS; rw [hl, Nat.add_sub_cancel, hy]; simp only [h]; rfl
theorem plS_yes {acc : List Lg} {i : Nat} {x y : Lg} (hl : acc.length = i + 1) (hy : acc[i]? = some y) (h : (y.w == x.w) = true) : plS acc x = acc.set i (mrg y x) := by
  unfold plS; rw [hl, Nat.add_sub_cancel, hy]; simp only [h]; rfl
theorem take_set1 {α : Type} {enc : α → List Value} {k : Nat} (hk : ∀ x, (enc x).length = k) {zs : List α} {cs : Array Value} {n : Nat} (ht : cs.toList.take (n * k) = zs.flatMap enc) (i j : Nat) (x x' : α) (u : Value) (hx : zs[i]? = some x) (he : enc x' = (enc x).set j u) (hj : j < k) :
    (cs.setIfInBounds (i * k + j) u).toList.take (n * k) = (zs.set i x').flatMap enc := by
  rw [Array.toList_setIfInBounds, List.take_set, ht, flat_set hk zs i x x' hx j u he hj]
theorem encLg_one : ∀ x, ∀ u ∈ encLg x, u.oneCell' = true := by
  intro x u hu
  simp [encLg] at hu
  rcases hu with rfl | rfl | rfl <;> rfl

end Go.Proofs.Ythcfkihpihgjeaa
