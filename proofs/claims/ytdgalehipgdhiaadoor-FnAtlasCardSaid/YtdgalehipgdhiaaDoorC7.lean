/- A list that a draw gathers: more frames. -/
import Derived.Test.YtdgalehipgdhiaaDoorC5
namespace Go.Proofs.YtdgalehipgdhiaaDoor
open Go.RowKit
set_option linter.unusedVariables false
set_option linter.unusedSimpArgs false

theorem own_ne {v : Value} {X N : Nat} (hX : N ≤ X) (h : ∀ j, v.ownBlock = some j → j < N) : ∀ j, v.ownBlock = some j → j ≠ X := fun j hj => by have := h j hj; omega
theorem own_ap {w : World} {base n k N : Nat} {e : TypeId} {v u : Value} {xs : List Value} (h : ∀ j, v.ownBlock = some j → j < N) (ho : w.ownsRow base e k u n xs) (hN : N ≤ base := by omega) : ∀ j i, v.ownBlock = some j → u.ownBlock = some i → j ≠ i := fun j i hj hi => by have := h j hj; have := (ho.lt i hi).1; omega
theorem blk_ap {w : World} {base n k g : Nat} {e : TypeId} {u : Value} {xs : List Value} (ho : w.ownsRow base e k u n xs) (hg : g < base) : some g ≠ u.ownBlock := fun e => by have := (ho.lt g e.symm).1; omega
theorem own_lt2 {w : World} {base n k : Nat} {e : TypeId} {v : Value} {xs : List Value} (h : w.ownsRow base e k v n xs) {N : Nat} (hN : w.heap.size ≤ N) : ∀ j, v.ownBlock = some j → j < N := fun j hj => by have := h.lt j hj; omega

end Go.Proofs.YtdgalehipgdhiaaDoor
