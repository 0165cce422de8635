/- Sheets in order; the favorite sheet: the plain laws. -/
import Derived.Test.YtojahihkoaabdaaN4
import Derived.Test.YtojahihkoaabdaaFInt
namespace Go.Proofs.Ytojahihkoaabdaa
open Go.RowKit
set_option linter.unusedVariables false
set_option linter.unusedSimpArgs false

/-! ### numbers put to their places, each once -/
def putK (l : List Int) (n : Int) : Nat := l.findIdx (fun y => !decide (y < n))
def putL (l : List Int) (n : Int) : List Int := if l[putK l n]? = some n then l else l.take (putK l n) ++ n :: l.drop (putK l n)
def Asc (l : List Int) : Prop := l.Pairwise (fun a b => a < b)
theorem putK_le (l : List Int) (n : Int) : putK l n ≤ l.length := List.findIdx_le_length
theorem putK_at {l : List Int} {n : Int} {k : Nat} (hk : k ≤ l.length) (hb : ∀ j y, j < k → l[j]? = some y → y < n) (he : ∀ y, l[k]? = some y → ¬ y < n) : putK l n = k := by
  unfold putK
  have h1 : ¬ l.findIdx (fun y => !decide (y < n)) < k := by
    intro h
    have hl : l.findIdx (fun y => !decide (y < n)) < l.length := by omega
    have h2 := List.findIdx_getElem (w := hl)
    have h3 := hb _ _ h (List.getElem?_eq_getElem hl)
    simp at h2; omega
  rcases Nat.lt_or_ge k l.length with h | h
  · have h2 := he _ (List.getElem?_eq_getElem h)
    rcases Nat.lt_or_ge k (l.findIdx (fun y => !decide (y < n))) with h3 | h3
    · have h4 := List.not_of_lt_findIdx (p := fun y => !decide (y < n)) (xs := l) (i := k) h3
      simp at h4; omega
    · omega
  · have := putK_le l n
    unfold putK at this; omega
theorem put_in {l : List Int} {n : Int} (h : l[putK l n]? = some n) : putL l n = l := by unfold putL; rw [if_pos h]
theorem put_new {l : List Int} {n : Int} (h : ¬ l[putK l n]? = some n) : putL l n = l.take (putK l n) ++ n :: l.drop (putK l n) := by unfold putL; rw [if_neg h]
theorem put_len (l : List Int) (n : Int) : (putL l n).length ≤ l.length + 1 := by
  unfold putL
  split
  · omega
  · simp; omega
theorem put_before {l : List Int} {n : Int} : ∀ y ∈ l.take (putK l n), y < n := by
  intro y hy
  obtain ⟨j, hj⟩ := List.getElem?_of_mem hy
  rw [List.getElem?_take] at hj
  split at hj
  · rename_i hlt
    have hl : j < l.length := (List.getElem?_eq_some_iff.1 hj).1
    have := List.not_of_lt_findIdx (p := fun y => !decide (y < n)) (xs := l) (i := j) hlt
    rw [(List.getElem?_eq_some_iff.1 hj).2] at this
    simpa using this
  · cases hj
theorem put_behind {l : List Int} {n : Int} (ha : Asc l) (hn : n ∉ l) : ∀ y ∈ l.drop (putK l n), n < y := by
  intro y hy
  rcases Nat.lt_or_ge (putK l n) l.length with h | h
  · have h2 : ¬ l[putK l n] < n := by
      have h5 := List.findIdx_getElem (p := fun y => !decide (y < n)) (xs := l) (w := h)
      intro h6
      have h7 : (!decide (l[putK l n] < n)) = true := h5
      rw [decide_eq_true h6] at h7; cases h7
    have h3 : l[putK l n] ≠ n := fun e => hn (e ▸ List.getElem_mem h)
    rw [List.drop_eq_getElem_cons h] at hy
    have hd : (l.drop (putK l n)).Pairwise (fun a b => a < b) := ha.sublist (List.drop_sublist _ _)
    rw [List.drop_eq_getElem_cons h, List.pairwise_cons] at hd
    rcases List.mem_cons.1 hy with h4 | h4
    · rw [h4]; omega
    · have := hd.1 y h4; omega
  · rw [List.drop_eq_nil_of_le h] at hy; cases hy
theorem put_fresh {l : List Int} {n : Int} (hn : n ∉ l) : ¬ l[putK l n]? = some n := fun h => hn (List.mem_of_getElem? h)
theorem put_perm {l : List Int} {n : Int} (ha : Asc l) (hn : n ∉ l) : (putL l n).Perm (n :: l) ∧ Asc (putL l n) := by
  rw [put_new (put_fresh hn)]
  refine ⟨?_, ?_⟩
  · have h := List.perm_middle (a := n) (l₁ := l.take (putK l n)) (l₂ := l.drop (putK l n))
    rw [List.take_append_drop] at h; exact h
  · unfold Asc
    rw [List.pairwise_append]
    refine ⟨ha.sublist (List.take_sublist _ _), ?_, ?_⟩
    · rw [List.pairwise_cons]
      exact ⟨put_behind ha hn, ha.sublist (List.drop_sublist _ _)⟩
    · intro a h1 b h2
      have h3 := put_before a h1
      rcases List.mem_cons.1 h2 with h4 | h4
      · rw [h4]; exact h3
      · have := put_behind ha hn b h4; omega
theorem puts_perm : ∀ (g acc : List Int), Asc acc → (∀ x ∈ g, x ∉ acc) → g.Nodup → (g.foldl putL acc).Perm (acc ++ g) ∧ Asc (g.foldl putL acc)
  | [], acc, ha, _, _ => ⟨by simp, ha⟩
  | x :: g, acc, ha, hx, hg => by
    have h1 := put_perm ha (hx x (by simp))
    rw [List.nodup_cons] at hg
    have h2 := puts_perm g (putL acc x) h1.2 (fun y hy hm => by
      rcases List.mem_cons.1 (h1.1.mem_iff.1 hm) with h3 | h3
      · exact hg.1 (h3 ▸ hy)
      · exact hx y (by simp [hy]) h3) hg.2
    refine ⟨?_, h2.2⟩
    show (g.foldl putL (putL acc x)).Perm (acc ++ x :: g)
    refine h2.1.trans ((h1.1.append_right g).trans ?_)
    exact (List.perm_middle (a := x) (l₁ := acc) (l₂ := g)).symm
def sortL (g : List Int) : List Int := g.mergeSort fun x y => decide (x ≤ y)
theorem sort_len (g : List Int) : (sortL g).length = g.length := List.length_mergeSort _
theorem sort_perm (g : List Int) : (sortL g).Perm g := List.mergeSort_perm _ _
theorem sort_asc (g : List Int) : (sortL g).Pairwise (fun a b => a ≤ b) := by
  have := List.pairwise_mergeSort (le := fun x y : Int => decide (x ≤ y)) (fun a b c h1 h2 => by simp at *; omega) (fun a b => by simp; omega) g
  exact this.imp (fun h => by simpa using h)
theorem asc_unique : ∀ {a b : List Int}, a.Pairwise (fun a b => a ≤ b) → b.Pairwise (fun a b => a ≤ b) → a.Perm b → a = b
  | [], b, _, _, h => (List.nil_perm.1 h).symm
  | x :: a, [], _, _, h => absurd (List.perm_nil.1 h) (by simp)
  | x :: a, y :: b, h1, h2, h => by
    rw [List.pairwise_cons] at h1 h2
    have e : x = y := by
      have hx : x ∈ y :: b := h.mem_iff.1 (by simp)
      have hy : y ∈ x :: a := h.mem_iff.2 (by simp)
      rcases List.mem_cons.1 hx with e | e
      · exact e
      · rcases List.mem_cons.1 hy with e2 | e2
        · exact e2.symm
        · have := h1.1 y e2; have := h2.1 x e; omega
    subst e
    rw [asc_unique h1.2 h2.2 ((List.perm_cons x).1 h)]
theorem puts_sort {g : List Int} (hg : g.Nodup) : g.foldl putL [] = sortL g := by
  have h := puts_perm g [] (by unfold Asc; simp) (by simp) hg
  rw [List.nil_append] at h
  exact asc_unique (h.2.imp (fun h => Int.le_of_lt h)) (sort_asc g) (h.1.trans (sort_perm g).symm)
theorem puts_succ {g : List Int} {x : Int} : (g ++ [x]).foldl putL [] = putL (g.foldl putL []) x := by simp

/-! ### the open loans of a reader -/
def keepO (rd d : Int) (x : Ln) : Bool := x.r == rd && openB x d
theorem gath_mem {α β : Type} {f : α → β} {c : α → Bool} {zs : List α} {k : Nat} {b : β} (h : b ∈ gather f c (zs.take k)) : ∃ i y, i < k ∧ zs[i]? = some y ∧ c y = true ∧ f y = b := by
  unfold gather at h
  obtain ⟨y, hy, rfl⟩ := List.mem_map.1 h
  rw [List.mem_filter] at hy
  obtain ⟨i, hi⟩ := List.getElem?_of_mem hy.1
  rw [List.getElem?_take] at hi
  split at hi
  · exact ⟨i, y, by assumption, hi, hy.2, rfl⟩
  · cases hi
theorem gath_fresh {zs : List Ln} (h : loansB zs = true) {rd d : Int} {k : Nat} {x : Ln} (hx : zs[k]? = some x) (hc : keepO rd d x = true) : x.s ∉ gather Ln.s (keepO rd d) (zs.take k) := by
  intro hm
  obtain ⟨i, y, hi, hy, hcy, he⟩ := gath_mem hm
  unfold keepO at hc hcy
  simp only [Bool.and_eq_true] at hc hcy
  exact has_one (s := x.s) (d := d) h hi hy hx (by unfold has; rw [he, hcy.2]; simp) (by unfold has; rw [hc.2]; simp)
theorem gath_nodup {zs : List Ln} (h : loansB zs = true) (rd d : Int) : ∀ k, k ≤ zs.length → (gather Ln.s (keepO rd d) (zs.take k)).Nodup
  | 0, _ => by rw [gather_zero]; exact List.nodup_nil
  | k + 1, hk => by
    have hx := List.getElem?_eq_getElem (show k < zs.length by omega)
    have ih := gath_nodup h rd d k (by omega)
    cases hc : keepO rd d zs[k] with
    | false => rw [gather_no hx hc]; exact ih
    | true =>
      rw [gather_yes hx hc, List.nodup_append]
      have hf := gath_fresh h hx hc
      refine ⟨ih, by simp, fun a ha b hb => ?_⟩
      rw [List.mem_singleton] at hb
      rintro rfl
      exact hf (hb ▸ ha)
def okOpen (zs : List Ln) (rd d : Int) : Bool := loansB zs && inB rd 1 999 && inB d 0 4000
def openV (zs : List Ln) (rd d : Int) : List Int := if okOpen zs rd d then sortL (gather Ln.s (keepO rd d) zs) else []
theorem open_len {zs : List Ln} {rd d : Int} : (openV zs rd d).length ≤ zs.length := by
  unfold openV; split
  · rw [sort_len]; exact gather_len
  · exact Nat.zero_le _
/-- what the reference has gathered of the first k -/
def putsK (zs : List Ln) (rd d : Int) (k : Nat) : List Int := (gather Ln.s (keepO rd d) (zs.take k)).foldl putL []
theorem putsK_zero (zs : List Ln) (rd d : Int) : putsK zs rd d 0 = [] := by unfold putsK; rw [gather_zero]; rfl
theorem putsK_yes {zs : List Ln} {rd d : Int} {k : Nat} {x : Ln} (hx : zs[k]? = some x) (hc : keepO rd d x = true) : putsK zs rd d (k + 1) = putL (putsK zs rd d k) x.s := by unfold putsK; rw [gather_yes hx hc, puts_succ]
theorem putsK_no {zs : List Ln} {rd d : Int} {k : Nat} {x : Ln} (hx : zs[k]? = some x) (hc : keepO rd d x = false) : putsK zs rd d (k + 1) = putsK zs rd d k := by unfold putsK; rw [gather_no hx hc]
theorem putsK_len (zs : List Ln) (rd d : Int) : ∀ k, (putsK zs rd d k).length ≤ k
  | 0 => by rw [putsK_zero]; exact Nat.le_refl _
  | k + 1 => by
    have ih := putsK_len zs rd d k
    cases hx : zs[k]? with
    | none =>
      have : zs.take (k + 1) = zs.take k := by rw [List.take_add_one, hx]; simp
      unfold putsK at ih ⊢; rw [this]; omega
    | some x =>
      cases hc : keepO rd d x with
      | false => rw [putsK_no hx hc]; omega
      | true => rw [putsK_yes hx hc]; have := put_len (putsK zs rd d k) x.s; omega
theorem putsK_end {zs : List Ln} (h : loansB zs = true) {rd d : Int} {k : Nat} (hk : zs.length ≤ k) : putsK zs rd d k = sortL (gather Ln.s (keepO rd d) zs) := by
  unfold putsK; rw [gather_all hk]
  have := gath_nodup h rd d zs.length (Nat.le_refl _)
  rw [List.take_length] at this
  exact puts_sort this

/-! ### the sheet with the most loans -/
/-- b stands in l, m times, and whatever stands there more rarely or not before b -/
def Fav (l : List Int) (b : Int) (m : Nat) : Prop := b ∈ l ∧ l.count b = m ∧ ∀ s ∈ l, l.count s < m ∨ (l.count s = m ∧ b ≤ s)
theorem fav_unique {l l' : List Int} {b b' : Int} {m m' : Nat} (hp : l.Perm l') (h : Fav l b m) (h' : Fav l' b' m') : b = b' := by
  obtain ⟨h1, h2, h3⟩ := h
  obtain ⟨h1', h2', h3'⟩ := h'
  have a := h3' b (hp.mem_iff.1 h1)
  have a' := h3 b' (hp.mem_iff.2 h1')
  rw [← hp.count_eq] at a h2'
  omega
/-- the reference: the first k of the list -/
def favStep (l : List Int) (bm : Int × Nat) (s : Int) : Int × Nat := if bm.2 < l.count s ∨ (l.count s = bm.2 ∧ s < bm.1) then (s, l.count s) else bm
def favK (l : List Int) (k : Nat) : Int × Nat := (l.take k).foldl (favStep l) (0, 0)
theorem favK_succ {l : List Int} {k : Nat} {s : Int} (h : l[k]? = some s) : favK l (k + 1) = favStep l (favK l k) s := by unfold favK; rw [List.take_add_one, h]; simp
theorem favK_inv (l : List Int) : ∀ k, 0 < k → k ≤ l.length → (favK l k).1 ∈ l ∧ l.count (favK l k).1 = (favK l k).2 ∧ ∀ s ∈ l.take k, l.count s < (favK l k).2 ∨ (l.count s = (favK l k).2 ∧ (favK l k).1 ≤ s)
  | 0, h, _ => absurd h (Nat.lt_irrefl 0)
  | k + 1, _, hk => by
    have hx := List.getElem?_eq_getElem (show k < l.length by omega)
    have hm : l[k] ∈ l := List.getElem_mem _
    have hc : 0 < l.count l[k] := List.count_pos_iff.2 hm
    have ht : l.take (k + 1) = l.take k ++ [l[k]] := by rw [List.take_add_one, hx]; rfl
    rw [favK_succ hx, ht]
    rcases Nat.eq_zero_or_pos k with h0 | h0
    · subst h0
      have e : favStep l (favK l 0) l[0] = (l[0], l.count l[0]) := by unfold favStep favK; simp; try (intro h; omega)
      rw [e]
      refine ⟨hm, rfl, fun s hs => ?_⟩
      simp at hs; subst hs; right; exact ⟨rfl, Int.le_refl _⟩
    · obtain ⟨i1, i2, i3⟩ := favK_inv l k h0 (by omega)
      unfold favStep
      split
      · rename_i hif
        refine ⟨hm, rfl, fun s hs => ?_⟩
        rcases List.mem_append.1 hs with h | h
        · have := i3 s h
          simp only
          omega
        · simp at h; subst h; right; exact ⟨rfl, Int.le_refl _⟩
      · rename_i hif
        refine ⟨i1, i2, fun s hs => ?_⟩
        rcases List.mem_append.1 hs with h | h
        · exact i3 s h
        · simp at h; subst h; omega
theorem favK_all {l : List Int} {k : Nat} (h : l.length ≤ k) : favK l k = favK l l.length := by unfold favK; rw [List.take_of_length_le h, List.take_length]
theorem favK_fav {l : List Int} (h : 0 < l.length) : Fav l (favK l l.length).1 (favK l l.length).2 := by
  have := favK_inv l l.length h (Nat.le_refl _)
  rw [List.take_length] at this; exact this
/-- the program: runs of a sorted list -/
def runC (l : List Int) : Nat → Nat
  | 0 => 0
  | k + 1 => if 0 < k ∧ l[k]! ≠ l[k - 1]! then 1 else runC l k + 1
def runB (l : List Int) : Nat → Int × Nat
  | 0 => (0, 0)
  | k + 1 => if (runB l k).2 < runC l (k + 1) then (l[k]!, runC l (k + 1)) else runB l k
theorem runC_le (l : List Int) : ∀ k, runC l k ≤ k
  | 0 => Nat.le_refl _
  | k + 1 => by have := runC_le l k; unfold runC; split <;> omega
theorem runB_le (l : List Int) : ∀ k, (runB l k).2 ≤ k
  | 0 => Nat.le_refl _
  | k + 1 => by have := runB_le l k; have := runC_le l (k + 1); unfold runB; split <;> (try simp only) <;> omega
theorem asc_le {l : List Int} (ha : l.Pairwise (fun a b => a ≤ b)) {k : Nat} (hk : k < l.length) : ∀ s ∈ l.take k, s ≤ l[k] := by
  intro s hs
  obtain ⟨j, hj⟩ := List.getElem?_of_mem hs
  rw [List.getElem?_take] at hj
  split at hj
  · rename_i hlt
    obtain ⟨hl, he⟩ := List.getElem?_eq_some_iff.1 hj
    rw [← he]
    exact List.pairwise_iff_getElem.1 ha j k hl hk hlt
  · cases hj
theorem runC_count {l : List Int} (ha : l.Pairwise (fun a b => a ≤ b)) : ∀ k (hk : k < l.length), runC l (k + 1) = (l.take (k + 1)).count l[k]
  | 0, hk => by
    have hx := List.getElem?_eq_getElem hk
    rw [List.take_add_one, hx]
    simp [runC]
  | k + 1, hk => by
    have hx := List.getElem?_eq_getElem hk
    have hy := List.getElem?_eq_getElem (show k < l.length by omega)
    have ih := runC_count ha k (by omega)
    have g1 : l[k + 1]! = l[k + 1] := getB hx
    have g0 : l[k]! = l[k] := getB hy
    rw [List.take_add_one (i := k + 1), hx, runC, g1, show k + 1 - 1 = k from rfl, g0, List.count_append]
    simp only [Option.toList_some, List.count_singleton_self]
    by_cases he : l[k + 1] = l[k]
    · rw [if_neg (by simp [he]), ih, he]
    · rw [if_pos ⟨by omega, he⟩]
      have h0 : (l.take (k + 1)).count l[k + 1] = 0 := by
        rw [List.count_eq_zero]
        intro hm
        have h1 : ∀ s ∈ l.take (k + 1), s ≤ l[k] := by
          intro s hs
          rw [List.take_add_one, hy] at hs
          rcases List.mem_append.1 hs with h | h
          · exact asc_le ha (by omega) s h
          · simp at h; omega
        have h2 := h1 _ hm
        have h3 := List.pairwise_iff_getElem.1 ha k (k + 1) (by omega) hk (by omega)
        omega
      omega
theorem runB_inv {l : List Int} (ha : l.Pairwise (fun a b => a ≤ b)) : ∀ k, 0 < k → k ≤ l.length → Fav (l.take k) (runB l k).1 (runB l k).2
  | 0, h, _ => absurd h (Nat.lt_irrefl 0)
  | k + 1, _, hk => by
    have hlt : k < l.length := by omega
    have hx := List.getElem?_eq_getElem hlt
    have g1 : l[k]! = l[k] := getB hx
    have hc := runC_count ha k hlt
    have ht : l.take (k + 1) = l.take k ++ [l[k]] := by rw [List.take_add_one, hx]; rfl
    have hct : ∀ s, (l.take (k + 1)).count s = (l.take k).count s + (if l[k] = s then 1 else 0) := by
      intro s; rw [ht, List.count_append, List.count_singleton]; congr 1; by_cases h : l[k] = s <;> simp [h]
    have hmem : l[k] ∈ l.take (k + 1) := by rw [ht]; exact List.mem_append_right _ (List.mem_singleton.2 rfl)
    have hpos : 0 < runC l (k + 1) := by rw [hc]; exact List.count_pos_iff.2 hmem
    rw [runB, g1]
    rcases Nat.eq_zero_or_pos k with h0 | h0
    · subst h0
      rw [if_pos (by simp [runB]; exact hpos)]
      refine ⟨hmem, by rw [hc], fun s hs => ?_⟩
      rw [ht] at hs; simp at hs; subst hs
      right; exact ⟨by rw [hc], Int.le_refl _⟩
    · obtain ⟨i1, i2, i3⟩ := runB_inv ha k h0 (by omega)
      have hle := asc_le ha hlt
      split
      · rename_i hif
        refine ⟨hmem, by rw [hc], fun s hs => ?_⟩
        by_cases he : l[k] = s
        · right; exact ⟨by rw [hc, he], by simp only; omega⟩
        · left
          simp only
          rw [hct s, if_neg he]
          rw [ht] at hs
          rcases List.mem_append.1 hs with h | h
          · have := i3 s h; omega
          · simp at h; exact absurd h.symm he
      · rename_i hif
        have hne : l[k] ≠ (runB l k).1 ∨ l[k] = (runB l k).1 := by omega
        have hb : (l.take (k + 1)).count (runB l k).1 = (runB l k).2 := by
          rw [hct, i2]
          by_cases he : l[k] = (runB l k).1
          · exfalso
            rw [hc, hct, he, if_pos rfl, i2] at hif
            omega
          · rw [if_neg he]; rfl
        refine ⟨by rw [ht]; exact List.mem_append_left _ i1, hb, fun s hs => ?_⟩
        by_cases he : l[k] = s
        · subst he
          rw [← hc]
          have := hle _ i1
          omega
        · rw [hct s, if_neg he]
          rw [ht] at hs
          rcases List.mem_append.1 hs with h | h
          · have := i3 s h; omega
          · simp at h; exact absurd h.symm he
theorem fav_eq {l : List Int} (h : 0 < l.length) : (favK l l.length).1 = (runB (sortL l) l.length).1 := by
  have hl : (sortL l).length = l.length := sort_len l
  have h2 := runB_inv (sort_asc l) (sortL l).length (by omega) (Nat.le_refl _)
  rw [List.take_length, hl] at h2
  exact fav_unique (sort_perm l).symm (favK_fav h) h2
def shL (zs : List Ln) : List Int := zs.map Ln.s
def okFav (zs : List Ln) : Bool := loansB zs && !decide (zs.length = 0)
def favV (zs : List Ln) : Int := if okFav zs then (favK (shL zs) zs.length).1 else 0
theorem sh_at {zs : List Ln} {k : Nat} {x : Ln} (h : zs[k]? = some x) : (shL zs)[k]? = some x.s := by unfold shL; rw [List.getElem?_map, h]; rfl
theorem sh_len (zs : List Ln) : (shL zs).length = zs.length := by simp [shL]
/-- how many of the first k are loans of s -/
def cntK (zs : List Ln) (s : Int) (k : Nat) : Nat := ((shL zs).take k).count s
theorem cnt_yes {zs : List Ln} {s : Int} {k : Nat} {x : Ln} (h : zs[k]? = some x) (he : x.s = s) : cntK zs s (k + 1) = cntK zs s k + 1 := by
  unfold cntK; rw [List.take_add_one, sh_at h, List.count_append]; simp [he]
theorem cnt_no {zs : List Ln} {s : Int} {k : Nat} {x : Ln} (h : zs[k]? = some x) (he : ¬ x.s = s) : cntK zs s (k + 1) = cntK zs s k := by
  unfold cntK; rw [List.take_add_one, sh_at h, List.count_append]; simp [he]
theorem cnt_all {zs : List Ln} {s : Int} {k : Nat} (h : zs.length ≤ k) : cntK zs s k = (shL zs).count s := by unfold cntK; rw [List.take_of_length_le (by rw [sh_len]; exact h)]
theorem cnt_le (zs : List Ln) (s : Int) (k : Nat) : cntK zs s k ≤ k := by
  unfold cntK; exact Nat.le_trans List.count_le_length (List.length_take_le _ _)

end Go.Proofs.Ytojahihkoaabdaa
