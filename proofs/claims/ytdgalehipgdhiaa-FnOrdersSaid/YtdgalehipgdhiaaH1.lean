/- OrderedAtlas: the plain law. -/
import Derived.Test.YtdgalehipgdhiaaA4
import Derived.Test.YtdgalehipgdhiaaD1
namespace Go.Proofs.Ytdgalehipgdhiaa
open Go.RowKit
set_option linter.unusedVariables false
set_option linter.unusedSimpArgs false

section
variable {α : Type} [Inhabited α]
/-- how far a value s comes to the left, through the first k of ord -/
def refk (E : α → Int) (ord : List α) (s : Int) : Nat → Nat
  | 0 => 0
  | k + 1 => if E ord[k]! < s then refk E ord s k else k + 1
theorem refk_le (E : α → Int) (ord : List α) (s : Int) : ∀ k, refk E ord s k ≤ k
  | 0 => Nat.le_refl _
  | k + 1 => by
    have := refk_le E ord s k
    unfold refk
    split <;> omega
theorem refk_go {E : α → Int} {ord : List α} {s : Int} {k : Nat} (h : E ord[k]! < s) : refk E ord s (k + 1) = refk E ord s k := by show (if _ then _ else _) = _; rw [if_pos h]
theorem refk_stop {E : α → Int} {ord : List α} {s : Int} {k : Nat} (h : ¬ E ord[k]! < s) : refk E ord s (k + 1) = k + 1 := by show (if _ then _ else _) = _; rw [if_neg h]
end
section
variable {α : Type}
/-- x at place j of ord -/
def rowE (ord : List α) (x : α) (rest : List α) (j : Nat) : List α := ord.take j ++ x :: (ord.drop j ++ rest)
end
section
variable {α : Type} [Inhabited α]
def insE (E : α → Int) (ord : List α) (x : α) : List α := rowE ord x [] (refk E ord (E x) ord.length)
def sortE (E : α → Int) (l : List α) : List α := l.foldl (insE E) []
end
section
variable {α : Type}
theorem rowE_len (ord : List α) (x : α) (rest : List α) (j : Nat) : (rowE ord x rest j).length = ord.length + 1 + rest.length := by
  unfold rowE; simp; omega
end
section
variable {α : Type} [Inhabited α]
theorem insE_len (E : α → Int) (ord : List α) (x : α) : (insE E ord x).length = ord.length + 1 := by unfold insE; rw [rowE_len]; rfl
theorem sortE_succ {E : α → Int} {l : List α} {k : Nat} {x : α} (h : l[k]? = some x) : sortE E (l.take (k + 1)) = insE E (sortE E (l.take k)) x := by
  unfold sortE; rw [List.take_add_one, h]; simp
theorem sortE_zero {E : α → Int} {l : List α} : sortE E (l.take 0) = [] := by simp [sortE]
theorem sortE_lenk (E : α → Int) (l : List α) : ∀ k, k ≤ l.length → (sortE E (l.take k)).length = k
  | 0, _ => by simp [sortE]
  | k + 1, h => by rw [sortE_succ (List.getElem?_eq_getElem (by omega)), insE_len, sortE_lenk E l k (by omega)]
theorem sortE_len (E : α → Int) (l : List α) : (sortE E l).length = l.length := by
  have := sortE_lenk E l l.length (Nat.le_refl _); rw [List.take_length] at this; exact this
theorem sortE_all {E : α → Int} {l : List α} {k : Nat} (h : l.length ≤ k) : sortE E (l.take k) = sortE E l := by rw [List.take_of_length_le h]
end
section
variable {α : Type}
theorem rowE_end (ord : List α) (x : α) (rest : List α) (j : Nat) : rowE ord x rest j = rowE ord x [] j ++ rest := by unfold rowE; simp
theorem rowE_start (ord : List α) (x : α) (rest : List α) : rowE ord x rest ord.length = ord ++ x :: rest := by unfold rowE; simp
theorem rowE_at {ord : List α} {x : α} {rest : List α} {j : Nat} (h : j ≤ ord.length) : (rowE ord x rest j)[j]? = some x := by
  unfold rowE
  rw [List.getElem?_append_right (by rw [List.length_take]; omega)]
  simp [Nat.min_eq_left h]
theorem rowE_before {ord : List α} {x : α} {rest : List α} {j i : Nat} (h : i < j) (hj : j ≤ ord.length) : (rowE ord x rest j)[i]? = ord[i]? := by
  unfold rowE
  rw [List.getElem?_append_left (by simp; omega), List.getElem?_take, if_pos h]
/-- the exchange of the places j and j + 1 -/
theorem rowE_swap {ord : List α} {x y : α} {rest : List α} {j : Nat} (h : ord[j]? = some y) : ((rowE ord x rest (j + 1)).set (j + 1) y).set j x = rowE ord x rest j := by
  have hj : j < ord.length := (List.getElem?_eq_some_iff.1 h).1
  have e1 : ord.take (j + 1) = ord.take j ++ [y] := by rw [List.take_add_one, h]; rfl
  have e2 : ord.drop j = y :: ord.drop (j + 1) := by rw [List.drop_eq_getElem_cons hj]; congr 1; exact (List.getElem?_eq_some_iff.1 h).2
  have hl : (ord.take j).length = j := by simp; omega
  unfold rowE
  rw [e1, e2]
  generalize ord.take j = p at hl ⊢
  subst hl
  rw [List.append_assoc]
  rw [List.set_append_right _ _ (by omega), show p.length + 1 - p.length = 1 from by omega]
  rw [List.set_append_right _ _ (by omega), Nat.sub_self]
  simp
end

set_option linter.unusedSectionVars false
section
variable {α : Type} [Inhabited α]
theorem insE_perm (E : α → Int) (ord : List α) (x : α) : (insE E ord x).Perm (x :: ord) := by
  unfold insE rowE
  rw [List.append_nil]
  refine List.perm_middle.trans ?_
  rw [List.take_append_drop]
theorem sortE_permk (E : α → Int) (l : List α) : ∀ k, k ≤ l.length → (sortE E (l.take k)).Perm (l.take k)
  | 0, _ => by simp [sortE]
  | k + 1, h => by
    have hx := List.getElem?_eq_getElem (show k < l.length by omega)
    rw [sortE_succ hx, List.take_add_one, hx]
    refine (insE_perm E _ _).trans ?_
    refine ((sortE_permk E l k (by omega)).cons _).trans ?_
    exact (List.perm_append_comm (l₁ := l.take k) (l₂ := [l[k]])).symm
theorem sortE_perm (E : α → Int) (l : List α) : (sortE E l).Perm l := by
  have := sortE_permk E l l.length (Nat.le_refl _); rw [List.take_length] at this; exact this
theorem refk_right (E : α → Int) (ord : List α) (s : Int) : ∀ k i, refk E ord s k ≤ i → i < k → E ord[i]! < s
  | 0, i, _, h => absurd h (Nat.not_lt_zero _)
  | k + 1, i, h1, h2 => by
    by_cases hq : E ord[k]! < s
    · rw [refk_go hq] at h1
      rcases Nat.lt_succ_iff_lt_or_eq.1 h2 with h3 | rfl
      · exact refk_right E ord s k i h1 h3
      · exact hq
    · rw [refk_stop hq] at h1; omega
theorem refk_left (E : α → Int) (ord : List α) (s : Int) : ∀ k, 0 < refk E ord s k → s ≤ E ord[refk E ord s k - 1]!
  | 0, h => absurd h (Nat.not_lt_zero _)
  | k + 1, h => by
    by_cases hq : E ord[k]! < s
    · rw [refk_go hq] at h ⊢; exact refk_left E ord s k h
    · rw [refk_stop hq, Nat.add_sub_cancel]; omega
theorem bang_at {l : List α} {i : Nat} {x : α} (h : l[i]? = some x) : l[i]! = x := by rw [List.getElem!_eq_getElem?_getD, h]; rfl
theorem insE_sorted (E : α → Int) (ord : List α) (x : α) (h : ord.Pairwise fun a b => E b ≤ E a) : (insE E ord x).Pairwise fun a b => E b ≤ E a := by
  unfold insE rowE
  rw [List.append_nil]
  generalize hj : refk E ord (E x) ord.length = j
  have hle : j ≤ ord.length := by rw [← hj]; exact refk_le E ord (E x) ord.length
  have hR : ∀ b ∈ ord.drop j, E b < E x := by
    intro b hb
    obtain ⟨i, hi⟩ := List.getElem?_of_mem hb
    rw [List.getElem?_drop] at hi
    have hlt := (List.getElem?_eq_some_iff.1 hi).1
    have := refk_right E ord (E x) ord.length (j + i) (by omega) hlt
    rw [bang_at hi] at this; exact this
  have hL : ∀ a ∈ ord.take j, E x ≤ E a := by
    intro a ha
    obtain ⟨i, hi⟩ := List.getElem?_of_mem ha
    rw [List.getElem?_take] at hi
    split at hi
    · rename_i hij
      have h1 := refk_left E ord (E x) ord.length (by omega)
      rw [hj] at h1
      have hlt := (List.getElem?_eq_some_iff.1 hi).1
      by_cases he : i = j - 1
      · subst he; rw [bang_at hi] at h1; exact h1
      · have hg := List.getElem?_eq_getElem (show j - 1 < ord.length by omega)
        rw [bang_at hg] at h1
        have := List.pairwise_iff_getElem.1 h i (j - 1) hlt (by omega) (by omega)
        have hi2 := (List.getElem?_eq_some_iff.1 hi).2
        rw [hi2] at this
        exact Int.le_trans h1 this
    · cases hi
  rw [List.pairwise_append]
  refine ⟨h.sublist (List.take_sublist _ _), List.pairwise_cons.2 ⟨fun b hb => Int.le_of_lt (hR b hb), h.sublist (List.drop_sublist _ _)⟩, fun a ha b hb => ?_⟩
  rw [List.mem_cons] at hb
  rcases hb with rfl | hb
  · exact hL a ha
  · exact Int.le_trans (Int.le_of_lt (hR b hb)) (hL a ha)
theorem sortE_sortedk (E : α → Int) (l : List α) : ∀ k, k ≤ l.length → (sortE E (l.take k)).Pairwise fun a b => E b ≤ E a
  | 0, _ => by simp [sortE]
  | k + 1, h => by
    rw [sortE_succ (List.getElem?_eq_getElem (show k < l.length by omega))]
    exact insE_sorted E _ _ (sortE_sortedk E l k (by omega))
theorem sortE_sorted (E : α → Int) (l : List α) : (sortE E l).Pairwise fun a b => E b ≤ E a := by
  have := sortE_sortedk E l l.length (Nat.le_refl _); rw [List.take_length] at this; exact this
/-- two orders of the same, where the keys part whatever two -/
theorem sorted_one (E : α → Int) : ∀ (l m : List α), l.Perm m → (∀ a ∈ l, ∀ b ∈ l, E a = E b → a = b) → (l.Pairwise fun a b => E b ≤ E a) → (m.Pairwise fun a b => E b ≤ E a) → l = m
  | [], m, hp, _, _, _ => (List.nil_perm.1 hp).symm
  | a :: l, [], hp, _, _, _ => absurd (List.perm_nil.1 hp) (by simp)
  | a :: l, b :: m, hp, hi, h1, h2 => by
    rw [List.pairwise_cons] at h1 h2
    have ha : a ∈ b :: m := hp.subset (by simp)
    have hb : b ∈ a :: l := hp.symm.subset (by simp)
    have hab : a = b := by
      rw [List.mem_cons] at ha hb
      rcases ha with ha | ha
      · exact ha
      · rcases hb with hb | hb
        · exact hb.symm
        · exact hi a (by simp) b (List.mem_cons_of_mem _ hb) (Int.le_antisymm (h2.1 a ha) (h1.1 b hb))
    subst hab
    rw [sorted_one E l m hp.cons_inv (fun x hx y hy => hi x (List.mem_cons_of_mem _ hx) y (List.mem_cons_of_mem _ hy)) h1.2 h2.2]
end
/-- the place of a page, the later the less -/
def kyP (x : Pg) : Int := -(x.r * 1000 + x.c)
def ltP (x y : Pg) : Bool := decide (x.r < y.r) || (decide (x.r = y.r) && decide (x.c < y.c))
def inP (x : Pg) : Prop := 0 ≤ x.r ∧ x.r ≤ 99 ∧ 0 ≤ x.c ∧ x.c ≤ 99
theorem ltP_key {x y : Pg} (hx : inP x) (hy : inP y) : ltP x y = true ↔ kyP y < kyP x := by
  unfold inP at hx hy; unfold ltP kyP
  simp only [Bool.or_eq_true, Bool.and_eq_true, decide_eq_true_eq]
  omega
theorem ltP_no {x y : Pg} (hx : inP x) (hy : inP y) (h : ltP x y = false) : ¬ kyP y < kyP x := fun h2 => by rw [(ltP_key hx hy).2 h2] at h; cases h
theorem atlas_in {zs : List Pg} (h : atlasB zs = true) : ∀ x ∈ zs, inP x := by
  intro x hx
  obtain ⟨k, hk⟩ := List.getElem?_of_mem hx
  exact atlas_at h hk
theorem atlas_idx {zs : List Pg} (h : atlasB zs = true) {k : Nat} {x : Pg} (hx : zs[k]? = some x) : idxB (isP x.r x.c) zs = (k : Int) := by
  unfold atlasB at h; simp only [Bool.and_eq_true] at h
  have := allB_at h.1 k (List.getElem?_eq_some_iff.1 hx).1
  unfold stepPg okPg at this; rw [getB hx] at this; simp only [Bool.and_eq_true, decide_eq_true_eq] at this
  exact this.2
theorem atlas_inj {zs : List Pg} (h : atlasB zs = true) : ∀ a ∈ zs, ∀ b ∈ zs, kyP a = kyP b → a = b := by
  intro a ha b hb he
  have h1 := atlas_in h a ha
  have h2 := atlas_in h b hb
  obtain ⟨i, hi⟩ := List.getElem?_of_mem ha
  obtain ⟨j, hj⟩ := List.getElem?_of_mem hb
  unfold inP at h1 h2; unfold kyP at he
  have h3 := atlas_idx h hi
  have h4 := atlas_idx h hj
  have e1 : a.r = b.r := by omega
  have e2 : a.c = b.c := by omega
  rw [e1, e2, h4] at h3
  have : i = j := by omega
  subst this
  rw [hi] at hj; exact Option.some.inj hj
def ordA (zs : List Pg) : List Pg := numL (sortE kyP zs)
def oaV (zs : List Pg) : List Pg := if atlasB zs then ordA zs else []
theorem ordA_len (zs : List Pg) : (ordA zs).length = zs.length := by unfold ordA; rw [num_len, sortE_len]
theorem oa_len {zs : List Pg} : (oaV zs).length ≤ zs.length := by unfold oaV; split; exact Nat.le_of_eq (ordA_len zs); exact Nat.zero_le _
theorem atlas_12 {zs : List Pg} (h : atlasB zs = true) : zs.length ≤ 12 := by unfold atlasB at h; simp only [Bool.and_eq_true, decide_eq_true_eq] at h; exact h.2
/-- a sorted order of the pages of an atlas is that one -/
theorem sorted_is {zs m : List Pg} (h : atlasB zs = true) (hp : m.Perm zs) (hs : m.Pairwise fun a b => kyP b ≤ kyP a) : m = sortE kyP zs :=
  (sorted_one kyP (sortE kyP zs) m ((sortE_perm kyP zs).trans hp.symm) (fun a ha b hb => atlas_inj h a ((sortE_perm kyP zs).subset ha) b ((sortE_perm kyP zs).subset hb)) (sortE_sorted kyP zs) hs).symm

end Go.Proofs.Ytdgalehipgdhiaa
