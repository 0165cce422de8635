/- Slices of int: contracts; what a call gathers by append. -/
import Derived.Test.YtdgalehipgdhiaaDoorKit
import Derived.Test.YtdgalehipgdhiaaDoorChecked
import Derived.StillTailTactics
import Derived.Deep.RegionHeld3
namespace Go.Proofs.YtdgalehipgdhiaaDoor
open Go.RowKit
set_option linter.unusedVariables false

/-! ### what a call gathers by append -/
section
variable {α β : Type}
/-- f of the elements of which c holds, in order -/
def gather (f : α → β) (c : α → Bool) (zs : List α) : List β := (zs.filter c).map f
theorem gather_yes {f : α → β} {c : α → Bool} {zs : List α} {k : Nat} {x : α} (hx : zs[k]? = some x) (hc : c x = true) : gather f c (zs.take (k + 1)) = gather f c (zs.take k) ++ [f x] := by
  unfold gather; rw [List.take_add_one, hx]; simp [List.filter_append, hc]
theorem gather_no {f : α → β} {c : α → Bool} {zs : List α} {k : Nat} {x : α} (hx : zs[k]? = some x) (hc : c x = false) : gather f c (zs.take (k + 1)) = gather f c (zs.take k) := by
  unfold gather; rw [List.take_add_one, hx]; simp [List.filter_append, hc]
theorem gather_all {f : α → β} {c : α → Bool} {zs : List α} {k : Nat} (hk : zs.length ≤ k) : gather f c (zs.take k) = gather f c zs := by rw [List.take_of_length_le hk]
theorem gather_zero {f : α → β} {c : α → Bool} {zs : List α} : gather f c (zs.take 0) = [] := by simp [gather]
theorem gather_len {f : α → β} {c : α → Bool} {zs : List α} : (gather f c zs).length ≤ zs.length := by unfold gather; rw [List.length_map]; exact List.length_filter_le ..
end
theorem news_at {w : World} {t : TypeId} (cs : Array Value) : ∀ j u, cs.toList[j]? = some u → (w.alloc (.cells cs t)).cell? ((⟨w.heap.size, 0, none⟩ : Addr).add j) = some u := by
  intro j u hu
  rw [Addr.add_lit, Nat.zero_add]
  simpa using hu
theorem flat_snoc {α : Type} {enc : α → List Value} (l : List α) (x : α) : (l ++ [x]).flatMap enc = l.flatMap enc ++ enc x := by simp
theorem bl_grown {a w w' : World} {v : Value} {base n k : Nat} {e : TypeId} {xs : List Value} (h : Below a.heap.size a w) (ho : w.ownsRow base e k v n xs) (hb : a.heap.size ≤ base) (hg : w.grownBy w' v.ownBlock) : Below a.heap.size a w' :=
  h.grown hg h.size fun j hj => Nat.le_trans hb (ho.lt j hj).1
/-- an own slice in its form -/
theorem own_form {α : Type} {enc : α → List Value} {k : Nat} (hk : ∀ x, (enc x).length = k) {w : World} {base n : Nat} {e : TypeId} {v : Value} {zs : List α} (h : w.ownsRow base e k v n (zs.flatMap enc)) (hz : zs.length = n) :
    (v = .slice none 0 0 ∧ n = 0 ∧ zs = []) ∨ ∃ g cap cs, v = .slice (some ⟨g, 0, none⟩) n cap ∧ base ≤ g ∧ Blk w g e cs ∧ cs.size = cap * k ∧ n ≤ cap ∧ cap ≤ maxLen ∧ cs.toList.take (n * k) = zs.flatMap enc := by
  rcases h.2 with ⟨rfl, rfl⟩ | ⟨g, cap, cs, rfl, hb, hB, h1, h2, h3, h4⟩
  · exact .inl ⟨rfl, rfl, List.eq_nil_of_length_eq_zero hz⟩
  · exact .inr ⟨g, cap, cs, rfl, hb, hB, h3, h1, h2, h4⟩
/-- the cells that marks left -/
theorem marks_cells {w : World} {g : Nat} {e : TypeId} {cs : Array Value} {N : Nat} {q : Int} (h : Blk w g e cs) (ht : cs.toList.take N = marks q N) : ∀ i, i < N → w.cell? ⟨g, 0 + i, none⟩ = some (.int .i64 (q + (i : Nat))) := by
  intro i hi
  rw [Nat.zero_add, h.cell_list]
  have := marks_at q N i hi
  rw [← ht, List.getElem?_take, if_pos hi] at this
  exact this
/-- a slice in other blocks still reads the same behind writes to block g -/
theorem rd_grown {α : Type} {enc : α → List Value} {k B : Nat} {w w' : World} {ao : Option Addr} {zs : List α} {g : Nat} (h : Rd enc k B w ao zs) (hg : w.grownBy w' (some g)) (hB : B ≤ g) : Rd enc k B w' ao zs := by
  rcases h with h | ⟨b, off, rfl, hlt, hlt2, hc⟩
  · exact .inl h
  · exact .inr ⟨b, off, rfl, hlt, Nat.lt_of_lt_of_le hlt2 hg.size, fun j x hx i v hv => (World.cell?_of_block (a := ⟨b, _, none⟩) (hg.block b hlt2 (fun e => by injection e with e; omega))).trans (hc j x hx i v hv)⟩
theorem bl_only {a w w' : World} {g : Nat} (h : Below a.heap.size a w) (hg : w.grownBy w' (some g)) (ha : a.heap.size ≤ g) : Below a.heap.size a w' :=
  h.grown hg h.size fun j hj => by injection hj with hj; omega

def encI (x : Int) : List Value := [.int .i64 x]
theorem encI_len : ∀ x, (encI x).length = 1 := fun _ => rfl
/-- element j of a []int that reads as zs, in every later world -/
theorem rdI {w : World} {ao : Option Addr} {zs : List Int} (h : Rd encI 1 w.heap.size w ao zs) (hn : 0 < zs.length) :
    ∃ b off, ao = some ⟨b, off, none⟩ ∧ b < w.heap.size ∧ ∀ j, j < zs.length → ∃ x, zs[j]? = some x ∧ ∀ wr, Below w.heap.size w wr → b < wr.heap.size ∧ wr.cell? ⟨b, off + j, none⟩ = some (.int .i64 x) := by
  obtain ⟨b, off, rfl, h1, h2, hc⟩ := h.at_ hn
  refine ⟨b, off, rfl, h1, fun j hj => ⟨zs[j], List.getElem?_eq_getElem hj, fun wr hb => ⟨Nat.lt_of_lt_of_le h2 hb.size, ?_⟩⟩⟩
  have := (hb.cell (p := ⟨b, off + j * 1 + 0, none⟩) h1).trans (hc j _ (List.getElem?_eq_getElem hj) 0 _ rfl)
  simpa using this
theorem infoI : (Tryd.prog.info? 3).map (fun i => (i.zero, i.size, i.bytes)) = some (some (.int .i64 0), 1, 8) := by kernel_rfl

end Go.Proofs.YtdgalehipgdhiaaDoor
