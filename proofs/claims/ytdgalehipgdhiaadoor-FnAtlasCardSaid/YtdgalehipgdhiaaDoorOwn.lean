/- Slices that a call made, compared, marked, held. -/
import Derived.Test.YtdgalehipgdhiaaDoorFInt
import Derived.Test.YtdgalehipgdhiaaDoorFPage
namespace Go.Proofs.YtdgalehipgdhiaaDoor
open Go.RowKit

theorem eqPageS_own {b1 b2 : Nat} (v u : Value) (n : Nat) (zs : List Pg) (w : World) (h1 : w.ownsRow b1 58 4 v n (zs.flatMap encPg)) (h2 : w.ownsRow b2 58 4 u n (zs.flatMap encPg)) (hz : zs.length = n) (hn : n ≤ 1048576) :
    Calls Tryd.prog 26 #[v, u] w fun e w' => e = .returned (.bool true) ∧ Below w.heap.size w w' := by
  obtain ⟨a, c, rfl, _, _, hr⟩ := own_rd encPg_len h1 hz
  obtain ⟨a2, c2, rfl, _, _, hr2⟩ := own_rd encPg_len h2 hz
  exact eqPageS_same _ _ _ _ _ zs w hz hn hr hr2

/-! ### one step of a law whose result is a slice -/
theorem own_lt {w : World} {base n k : Nat} {e : TypeId} {v : Value} {xs : List Value} (h : w.ownsRow base e k v n xs) : ∀ j, v.ownBlock = some j → base ≤ j ∧ j < w.heap.size := fun j hj => h.lt j hj
theorem own_only {w w' : World} {base n k : Nat} {e : TypeId} {v x : Value} {xs : List Value} (h : w.ownsRow base e k v n xs) (hg : w.grownBy w' x.ownBlock) (hne : ∀ j i, v.ownBlock = some j → x.ownBlock = some i → j ≠ i) : w'.ownsRow base e k v n xs := by
  refine h.kept hg ?_
  cases hv : v.ownBlock with
  | none => exact .inl rfl
  | some j =>
    right
    intro he
    exact hne j j hv he.symm rfl
theorem bl_own {a w w' : World} {x : Value} (h : Below a.heap.size a w) (hg : w.grownBy w' x.ownBlock) (hx : ∀ j, x.ownBlock = some j → a.heap.size ≤ j) : Below a.heap.size a w' := h.grown hg h.size hx
theorem rd_at0 {α : Type} {enc : α → List Value} {k : Nat} {w w' : World} {ao : Option Addr} {zs : List α} (h : Rd enc k w.heap.size w ao zs) (hb : Below w.heap.size w w') : Rd enc k w'.heap.size w' ao zs := (h.below hb (Nat.le_refl _)).mono hb.size
theorem ob_some (g n c : Nat) : (Value.slice (some ⟨g, 0, none⟩) n c).ownBlock = some g := rfl

end Go.Proofs.YtdgalehipgdhiaaDoor
