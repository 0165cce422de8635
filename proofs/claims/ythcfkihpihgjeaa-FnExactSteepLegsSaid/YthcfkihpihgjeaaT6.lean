/- StretchRoute: the plain law. -/
import Derived.Test.YthcfkihpihgjeaaT1
import Derived.Test.YthcfkihpihgjeaaFInt
namespace Go.Proofs.Ythcfkihpihgjeaa
open Go.RowKit
set_option linter.unusedVariables false
set_option linter.unusedSimpArgs false

def strX (a b : Int) (x : Lg) : Lg := ⟨x.w, x.u * a / b, x.c⟩
def strC (a b : Int) (x : Lg) : Bool := x.u * a % b == 0
def strL (zs : List Lg) (a b : Int) : List Lg := zs.map (strX a b)
def okStr0 (zs : List Lg) (a b : Int) : Bool := routeB zs && inB a 1 100 && inB b 1 100
def okStr (zs : List Lg) (a b : Int) : Bool := okStr0 zs a b && zs.all (strC a b) && routeB (strL zs a b)
def strV (zs : List Lg) (a b : Int) : List Lg := if okStr zs a b then strL zs a b else []
theorem str_len {zs : List Lg} {a b : Int} : (strV zs a b).length ≤ 12 := by
  unfold strV
  split
  · rename_i h
    unfold okStr at h; simp only [Bool.and_eq_true] at h
    exact route_12 h.2
  · simp
theorem str_no {zs : List Lg} {a b : Int} {k : Nat} {x : Lg} (hx : zs[k]? = some x) (h : strC a b x = false) : okStr zs a b = false := by
  have : zs.all (strC a b) = false := by
    rw [List.all_eq_false]; exact ⟨x, List.mem_of_getElem? hx, by simp [h]⟩
  unfold okStr; rw [this]; simp
theorem str_end {zs : List Lg} {n k : Nat} {a b : Int} (hz : zs.length = n) (hk : n ≤ k) (h : ∀ j, j < k → ∀ y, zs[j]? = some y → strC a b y = true) (h0 : okStr0 zs a b = true) : okStr zs a b = routeB (strL zs a b) := by
  have : zs.all (strC a b) = true := by
    rw [List.all_eq_true]; intro x hx
    obtain ⟨j, hj⟩ := List.getElem?_of_mem hx
    have hl := (List.getElem?_eq_some_iff.1 hj).1
    exact h j (by omega) x hj
  unfold okStr; rw [this, h0]; simp
theorem str_succ {zs : List Lg} {a b : Int} {k : Nat} {x : Lg} (hx : zs[k]? = some x) : strL (zs.take (k + 1)) a b = strL (zs.take k) a b ++ [strX a b x] := by
  unfold strL; rw [List.take_add_one, hx]; simp
theorem all_succ {zs : List Lg} {p : Lg → Bool} {k : Nat} {x : Lg} (h : ∀ j, j < k → ∀ y, zs[j]? = some y → p y = true) (hx : zs[k]? = some x) (hp : p x = true) : ∀ j, j < k + 1 → ∀ y, zs[j]? = some y → p y = true := by
  intro j hj y hy
  rcases Nat.lt_succ_iff_lt_or_eq.1 hj with h' | h'
  · exact h j h' y hy
  · subst h'; rw [hx] at hy; injection hy with hy; rw [← hy]; exact hp
theorem strL_len {zs : List Lg} {a b : Int} {k n : Nat} (hz : zs.length = n) (h : k ≤ n) : (strL (zs.take k) a b).length = k := by unfold strL; rw [List.length_map, List.length_take, hz]; omega
theorem prod_bd {u a : Int} (hu : 1 ≤ u ∧ u ≤ 999) (ha : 1 ≤ a ∧ a ≤ 100) : 1 ≤ u * a ∧ u * a ≤ 99900 := by
  have h1 : 1 * 1 ≤ u * a := Int.mul_le_mul hu.1 ha.1 (by omega) (by omega)
  have h2 : u * a ≤ 999 * 100 := Int.mul_le_mul hu.2 ha.2 (by omega) (by omega)
  omega
theorem tdiv_bd {p b : Int} (hp : 1 ≤ p ∧ p ≤ 99900) (hb : 1 ≤ b ∧ b ≤ 100) : 0 ≤ p / b ∧ p / b ≤ 99900 := by
  exact ⟨Int.ediv_nonneg (by omega) (by omega), Int.le_trans (Int.ediv_le_self _ (by omega)) hp.2⟩
theorem ret_vb {u : Value} {c d : Bool} (h2 : c = d) : Ending.returned (.tuple #[u, .bool c]) = .returned (.tuple #[u, .bool d]) := by rw [h2]
theorem own_base {w : World} {b b2 n k : Nat} {e : TypeId} {v : Value} {xs : List Value} (ho : w.ownsRow b e k v n xs) (h : b2 ≤ b) : w.ownsRow b2 e k v n xs := ⟨ho.1, ho.2.imp id (fun ⟨g, cap, cur, h1, h2, r⟩ => ⟨g, cap, cur, h1, Nat.le_trans h h2, r⟩)⟩

end Go.Proofs.Ythcfkihpihgjeaa
