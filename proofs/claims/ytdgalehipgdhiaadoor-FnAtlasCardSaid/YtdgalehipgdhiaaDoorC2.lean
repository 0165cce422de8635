/- The drawer: frames. -/
import Derived.Test.YtdgalehipgdhiaaDoorC1
import Derived.Test.YtdgalehipgdhiaaDoorKit4
namespace Go.Proofs.YtdgalehipgdhiaaDoor
open Go.RowKit
set_option linter.unusedVariables false
set_option linter.unusedSimpArgs false

theorem Bytes.far {B n : Nat} {w : World} {ao : Option Addr} (h : Bytes B w ao n) {p : Addr} (hp : B ≤ p.block) (u : Value) : Bytes B (w.setCell p u) ao n :=
  h.keep (by simp [World.setCell]) (fun j hj _ => Below.heap_setCell w p u j (by omega))
theorem Cur.alloc {B g m : Nat} {w : World} (h : Cur B w g m) (o : Obj) : Cur B (w.alloc o) g m := h.below ((Below.refl _ _).alloc (Nat.le_refl _) _)
theorem Cur.set {B g m : Nat} {w : World} (h : Cur B w g m) {p : Addr} (hp : B ≤ p.block ∧ p.block ≠ g) (u : Value) : Cur B (w.setCell p u) g m := by
  obtain ⟨ao, n, c, t, sd, h1, h2, h3, h4, h5, h6⟩ := h
  exact ⟨ao, n, c, t, sd, h1.far (Ne.symm hp.2) u, h2, h3, h4, h5, h6.far hp.1 u⟩
theorem gr_alloc {a w : World} {row : Option Nat} (h : a.grownBy w row) (o : Obj) : a.grownBy (w.alloc o) row := gr_step h ((Below.refl _ _).alloc (Nat.le_refl _) _)
theorem gr_far {a w : World} {row : Option Nat} (h : a.grownBy w row) {p : Addr} (hp : a.heap.size ≤ p.block) (u : Value) : a.grownBy (w.setCell p u) row :=
  ⟨h.os, h.tape, h.output, by simpa [World.setCell] using h.size, fun j hj hn => (Below.heap_setCell w p u j (by omega)).trans (h.block j hj hn)⟩
theorem Blk.gr {w w' : World} {b g : Nat} {t : TypeId} {cs : Array Value} (h : Blk w b t cs) (hg : w.grownBy w' (some g)) (hn : b ≠ g) : Blk w' b t cs := h.grown hg (fun e => hn (by injection e))
theorem own_gr {w w' : World} {base n k g : Nat} {e : TypeId} {v : Value} {xs : List Value} (h : w.ownsRow base e k v n xs) (hg : w.grownBy w' (some g)) (hb : g < base) : w'.ownsRow base e k v n xs := by
  refine h.kept hg ?_
  cases hv : v.ownBlock with
  | none => exact .inl rfl
  | some j => exact .inr (fun he => by injection he with he; have := h.lt j hv; omega)
theorem own_bl {w w' : World} {base n k : Nat} {e : TypeId} {v : Value} {xs : List Value} (h : w.ownsRow base e k v n xs) (hb : Below w.heap.size w w') : w'.ownsRow base e k v n xs := own_step h hb

end Go.Proofs.YtdgalehipgdhiaaDoor
