/- Insertion from the right: the plain law. -/
import Derived.Test.YtpghdjehagamlaaR9
import Derived.Test.YtpghdjehagamlaaRA
import Derived.Test.YtpghdjehagamlaaOwn
import Derived.Test.YtpghdjehagamlaaKit4
namespace Go.Proofs.Ytpghdjehagamlaa
open Go.RowKit
set_option linter.unusedVariables false
set_option linter.unusedSimpArgs false

section
variable {α : Type} [Inhabited α]
/-- how far a value s comes to the left, through the first k of ord -/
def refk (E : α → Int) (ord : List α) (s : Int) : Nat → Nat
  | 0 => 0
  | k + 1 => if E ord[k]! < s then refk E ord s k else k + 1
theorem refk_le (E : α → Int) (ord : List α) (s : Int) : ∀ k, refk E ord s k ≤ k
  | 0 => Nat.le_refl _
  | k + 1 => by
    have := refk_le E ord s k
    unfold refk
    split <;> omega
theorem refk_go {E : α → Int} {ord : List α} {s : Int} {k : Nat} (h : E ord[k]! < s) : refk E ord s (k + 1) = refk E ord s k := by show (if _ then _ else _) = _; rw [if_pos h]
theorem refk_stop {E : α → Int} {ord : List α} {s : Int} {k : Nat} (h : ¬ E ord[k]! < s) : refk E ord s (k + 1) = k + 1 := by show (if _ then _ else _) = _; rw [if_neg h]
end
section
variable {α : Type}
/-- x at place j of ord -/
def rowE (ord : List α) (x : α) (rest : List α) (j : Nat) : List α := ord.take j ++ x :: (ord.drop j ++ rest)
end
section
variable {α : Type} [Inhabited α]
def insE (E : α → Int) (ord : List α) (x : α) : List α := rowE ord x [] (refk E ord (E x) ord.length)
def sortE (E : α → Int) (l : List α) : List α := l.foldl (insE E) []
end
section
variable {α : Type}
theorem rowE_len (ord : List α) (x : α) (rest : List α) (j : Nat) : (rowE ord x rest j).length = ord.length + 1 + rest.length := by
  unfold rowE; simp; omega
end
section
variable {α : Type} [Inhabited α]
theorem insE_len (E : α → Int) (ord : List α) (x : α) : (insE E ord x).length = ord.length + 1 := by unfold insE; rw [rowE_len]; rfl
theorem sortE_succ {E : α → Int} {l : List α} {k : Nat} {x : α} (h : l[k]? = some x) : sortE E (l.take (k + 1)) = insE E (sortE E (l.take k)) x := by
  unfold sortE; rw [List.take_add_one, h]; simp
theorem sortE_zero {E : α → Int} {l : List α} : sortE E (l.take 0) = [] := by simp [sortE]
theorem sortE_lenk (E : α → Int) (l : List α) : ∀ k, k ≤ l.length → (sortE E (l.take k)).length = k
  | 0, _ => by simp [sortE]
  | k + 1, h => by rw [sortE_succ (List.getElem?_eq_getElem (by omega)), insE_len, sortE_lenk E l k (by omega)]
theorem sortE_len (E : α → Int) (l : List α) : (sortE E l).length = l.length := by
  have := sortE_lenk E l l.length (Nat.le_refl _); rw [List.take_length] at this; exact this
theorem sortE_all {E : α → Int} {l : List α} {k : Nat} (h : l.length ≤ k) : sortE E (l.take k) = sortE E l := by rw [List.take_of_length_le h]
end
section
variable {α : Type}
theorem rowE_end (ord : List α) (x : α) (rest : List α) (j : Nat) : rowE ord x rest j = rowE ord x [] j ++ rest := by unfold rowE; simp
theorem rowE_start (ord : List α) (x : α) (rest : List α) : rowE ord x rest ord.length = ord ++ x :: rest := by unfold rowE; simp
theorem rowE_at {ord : List α} {x : α} {rest : List α} {j : Nat} (h : j ≤ ord.length) : (rowE ord x rest j)[j]? = some x := by
  unfold rowE
  rw [List.getElem?_append_right (by rw [List.length_take]; omega)]
  simp [Nat.min_eq_left h]
theorem rowE_before {ord : List α} {x : α} {rest : List α} {j i : Nat} (h : i < j) (hj : j ≤ ord.length) : (rowE ord x rest j)[i]? = ord[i]? := by
  unfold rowE
  rw [List.getElem?_append_left (by simp; omega), List.getElem?_take, if_pos h]
/-- the exchange of the places j and j + 1 -/
theorem rowE_swap {ord : List α} {x y : α} {rest : List α} {j : Nat} (h : ord[j]? = some y) : ((rowE ord x rest (j + 1)).set (j + 1) y).set j x = rowE ord x rest j := by
  have hj : j < ord.length := (List.getElem?_eq_some_iff.1 h).1
  have e1 : ord.take (j + 1) = ord.take j ++ [y] := by rw [List.take_add_one, h]; rfl
  have e2 : ord.drop j = y :: ord.drop (j + 1) := by rw [List.drop_eq_getElem_cons hj]; congr 1; exact (List.getElem?_eq_some_iff.1 h).2
  have hl : (ord.take j).length = j := by simp; omega
  unfold rowE
  rw [e1, e2]
  generalize ord.take j = p at hl ⊢
  subst hl
  rw [List.append_assoc]
  rw [List.set_append_right _ _ (by omega), show p.length + 1 - p.length = 1 from by omega]
  rw [List.set_append_right _ _ (by omega), Nat.sub_self]
  simp
end
theorem row_start {E : Int → Int} (zs : List Int) : sortE E (zs.take 1) ++ zs.drop 1 = zs := by
  cases zs with
  | nil => rfl
  | cons z zs => simp [sortE, insE, rowE, refk]
theorem row_swap {cs : Array Value} {n j : Nat} {ord rest : List Int} {x y : Int} (ht : cs.toList.take n = (rowE ord x rest (j + 1)).map (Value.int .i64)) (h : ord[j]? = some y) :
    ((cs.setIfInBounds (j + 1) (.int .i64 y)).setIfInBounds j (.int .i64 x)).toList.take n = (rowE ord x rest j).map (Value.int .i64) := by
  rw [Array.toList_setIfInBounds, Array.toList_setIfInBounds, List.take_set, List.take_set, ht, ← List.map_set, ← List.map_set, rowE_swap h]
theorem row_cell {w : World} {g n : Nat} {t : TypeId} {cs : Array Value} {zs : List Int} {i : Nat} {x : Int} (hB : Blk w g t cs) (ht : cs.toList.take n = zs.map (Value.int .i64)) (h : zs[i]? = some x) : w.cell? ⟨g, i, none⟩ = some (.int .i64 x) := by
  have hi : i < zs.length := (List.getElem?_eq_some_iff.1 h).1
  have h2 : (cs.toList.take n)[i]? = some (.int .i64 x) := by rw [ht, List.getElem?_map, h]; rfl
  rw [List.getElem?_take] at h2
  split at h2
  · rw [hB.cell_list]; exact h2
  · cases h2
theorem grown_below {a w w' : World} {g : Nat} (h : a.grownBy w (some g)) (hb : Below w.heap.size w w') : a.grownBy w' (some g) :=
  ⟨hb.os.trans h.os, hb.tape.trans h.tape, hb.output.trans h.output, Nat.le_trans h.size hb.size, fun j hj hne => (hb.block j (Nat.lt_of_lt_of_le hj h.size)).trans (h.block j hj hne)⟩
theorem grown_drew {a w : World} {g : Nat} (h : a.grownBy w (some g)) : a.grownBy w.drew (some g) := ⟨h.os, h.tape, h.output, h.size, h.block⟩

end Go.Proofs.Ytpghdjehagamlaa
