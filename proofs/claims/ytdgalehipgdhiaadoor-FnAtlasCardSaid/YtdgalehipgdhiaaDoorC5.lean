/- A list that a draw gathers: frames. -/
import Derived.Test.YtdgalehipgdhiaaDoorC2
import Derived.Test.YtdgalehipgdhiaaDoorOwn
namespace Go.Proofs.YtdgalehipgdhiaaDoor
open Go.RowKit
set_option linter.unusedVariables false
set_option linter.unusedSimpArgs false

theorem own_set {w : World} {base n k : Nat} {e : TypeId} {v : Value} {xs : List Value} (h : w.ownsRow base e k v n xs) {p : Addr} (hp : ∀ j, v.ownBlock = some j → j ≠ p.block) (u : Value) : (w.setCell p u).ownsRow base e k v n xs :=
  ⟨h.1, h.2.imp id (fun ⟨g, cap, cur, h1, h2, hg, r⟩ => ⟨g, cap, cur, h1, h2, (Blk.far (show Blk w g e cur from hg) (hp g (by rw [h1]; rfl)) u), r⟩)⟩
theorem news_atN {w : World} {t : TypeId} {H : Nat} (cs : Array Value) (hH : w.heap.size = H) : ∀ j u, cs.toList[j]? = some u → (w.alloc (.cells cs t)).cell? ((⟨H, 0, none⟩ : Addr).add j) = some u := by
  subst hH; exact news_at cs
theorem own_ltN {w : World} {base n k : Nat} {e : TypeId} {v : Value} {xs : List Value} (h : w.ownsRow base e k v n xs) {N : Nat} (hN : w.heap.size ≤ N) : ∀ j, v.ownBlock = some j → j ≠ N := fun j hj => by have := h.lt j hj; omega
/-- behind an append to the list that is gathered -/
theorem cur_app {B g m base n k : Nat} {w w' : World} {e : TypeId} {v : Value} {xs : List Value} (h : Cur B w g m) (ho : w.ownsRow base e k v n xs) (hb : w.grownBy w' v.ownBlock) (hg : g < base) : Cur B w' g m :=
  h.grown hb (fun j hj => by have := (ho.lt j hj).1; have := h.base; omega)
theorem gr_app {a w w' : World} {base n k : Nat} {row : Option Nat} {e : TypeId} {v : Value} {xs : List Value} (h : a.grownBy w row) (ho : w.ownsRow base e k v n xs) (hb : w.grownBy w' v.ownBlock) (hg : a.heap.size ≤ base) : a.grownBy w' row :=
  gr_own h hb (fun j hj => Nat.le_trans hg (ho.lt j hj).1)

end Go.Proofs.YtdgalehipgdhiaaDoor
