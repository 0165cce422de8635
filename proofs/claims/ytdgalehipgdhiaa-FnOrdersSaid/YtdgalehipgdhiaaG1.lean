/- BestOrder: the plain law. -/
import Derived.Test.YtdgalehipgdhiaaK2
namespace Go.Proofs.Ytdgalehipgdhiaa
open Go.RowKit
set_option linter.unusedVariables false
set_option linter.unusedSimpArgs false

theorem bang_left {α : Type} [Inhabited α] (l m : List α) (j : Nat) (h : j < l.length) : (l ++ m)[j]! = l[j]! := by
  rw [List.getElem!_eq_getElem?_getD, List.getElem?_append_left h, ← List.getElem!_eq_getElem?_getD]
theorem ruf_front (zs : List Pg) (x : Pg) : ∀ k : Nat, k < zs.length → ruf (zs ++ [x]) k = ruf zs k
  | 0, _ => rfl
  | k + 1, h => by
    rw [ruf, ruf, ruf_front zs x k (by omega)]
    have e1 : (zs ++ [x])[k]! = zs[k]! := bang_left _ _ _ (by omega)
    have e2 : (zs ++ [x])[k + 1]! = zs[k + 1]! := bang_left _ _ _ h
    rw [e1, e2]
/-- the turns of an order that are not smooth -/
def rufO (zs : List Pg) (o : List Nat) : Int := ruf (pgN zs o) (o.length - 1)
/-- one more for a page behind it -/
def turnO (zs : List Pg) (o : List Nat) (i : Nat) : Int := if 0 < o.length ∧ besB zs[o[o.length - 1]!]! zs[i]! = false then 1 else 0
theorem pg_at {zs : List Pg} {o : List Nat} {j : Nat} (h : j < o.length) : (pgN zs o)[j]! = zs[o[j]!]! := by
  unfold pgN
  rw [List.getElem!_eq_getElem?_getD, List.getElem?_map, List.getElem?_eq_getElem h]
  have : o[j]! = o[j] := by rw [List.getElem!_eq_getElem?_getD, List.getElem?_eq_getElem h]; rfl
  rw [this]; rfl
theorem rufO_snoc (zs : List Pg) (o : List Nat) (i : Nat) : rufO zs (o ++ [i]) = rufO zs o + turnO zs o i := by
  unfold rufO turnO
  rw [pg_snoc]
  cases hl : o.length with
  | zero =>
    obtain rfl := List.length_eq_zero_iff.1 hl
    simp [ruf]
  | succ m =>
    have hp : (pgN zs o).length = m + 1 := by rw [pgN_len, hl]
    rw [List.length_append, hl]
    show ruf _ (m + 1) = _
    rw [ruf, ruf_front _ _ _ (by omega)]
    have e1 : (pgN zs o ++ [zs[i]!])[m]! = zs[o[m]!]! := by
      rw [← pg_at (zs := zs) (by omega), bang_left _ _ _ (by omega)]
    have e2 : (pgN zs o ++ [zs[i]!])[m + 1]! = zs[i]! := by
      rw [List.getElem!_eq_getElem?_getD, List.getElem?_append_right (by omega), hp]; simp
    rw [e1, e2]
    show _ = ruf _ m + _
    congr 1
    show _ = if 0 < m + 1 ∧ besB zs[o[m]!]! zs[i]! = false then (1 : Int) else 0
    generalize besB zs[o[m]!]! zs[i]! = q
    cases q <;> simp
theorem turn_nn (zs : List Pg) (o : List Nat) (i : Nat) : 0 ≤ turnO zs o i ∧ turnO zs o i ≤ 1 := by unfold turnO; split <;> omega
/-- all orders that go on from one, the smaller ones first -/
def extO (n : Nat) : Nat → List Nat → List (List Nat)
  | 0, o => [o]
  | f + 1, o => (List.range n).flatMap fun i => if o.contains i then [] else extO n f (o ++ [i])
def extK (n f : Nat) (o : List Nat) (k : Nat) : List (List Nat) := (List.range k).flatMap fun i => if o.contains i then [] else extO n f (o ++ [i])
theorem extK_zero (n f : Nat) (o : List Nat) : extK n f o 0 = [] := rfl
theorem extK_succ (n f : Nat) (o : List Nat) (k : Nat) : extK n f o (k + 1) = extK n f o k ++ (if o.contains k then [] else extO n f (o ++ [k])) := by unfold extK; rw [List.range_succ, List.flatMap_append]; simp
theorem extK_end (n f : Nat) (o : List Nat) : extK n f o n = extO n (f + 1) o := rfl
/-- the first one that is the least -/
def betO (r : List Nat → Int) (b : List Nat × Int) (o : List Nat) : List Nat × Int := if r o < b.2 then (o, r o) else b
def scanO (r : List Nat → Int) (b : List Nat × Int) (l : List (List Nat)) : List Nat × Int := l.foldl (betO r) b
theorem scan_app (r : List Nat → Int) (b : List Nat × Int) (l m : List (List Nat)) : scanO r b (l ++ m) = scanO r (scanO r b l) m := List.foldl_append
theorem scan_skip {r : List Nat → Int} {b : List Nat × Int} : ∀ {l : List (List Nat)}, (∀ o ∈ l, b.2 ≤ r o) → scanO r b l = b
  | [], _ => rfl
  | o :: l, h => by
    have h1 : betO r b o = b := by unfold betO; rw [if_neg (by have := h o (by simp); omega)]
    show scanO r (betO r b o) l = b
    rw [h1]
    exact scan_skip fun x hx => h x (List.mem_cons_of_mem _ hx)
theorem scan_le (r : List Nat → Int) : ∀ (l : List (List Nat)) (b : List Nat × Int), (scanO r b l).2 ≤ b.2
  | [], b => Int.le_refl _
  | o :: l, b => by
    have h1 := scan_le r l (betO r b o)
    have h2 : (betO r b o).2 ≤ b.2 := by unfold betO; split <;> simp <;> omega
    exact Int.le_trans h1 h2
theorem scan_two (r : List Nat → Int) : ∀ (l : List (List Nat)) (b c : List Nat × Int), b.2 = c.2 → scanO r b l = if (scanO r c l).2 < c.2 then scanO r c l else b
  | [], b, c, h => by show b = if c.2 < c.2 then c else b; rw [if_neg (Int.lt_irrefl _)]
  | o :: l, b, c, h => by
    show scanO r (betO r b o) l = if (scanO r (betO r c o) l).2 < c.2 then scanO r (betO r c o) l else b
    by_cases hq : r o < b.2
    · have e1 : betO r b o = (o, r o) := by unfold betO; rw [if_pos hq]
      have e2 : betO r c o = (o, r o) := by unfold betO; rw [if_pos (by omega)]
      rw [e1, e2, if_pos (by have := scan_le r l (o, r o); simp at this; omega)]
    · have e1 : betO r b o = b := by unfold betO; rw [if_neg hq]
      have e2 : betO r c o = c := by unfold betO; rw [if_neg (by omega)]
      rw [e1, e2]
      exact scan_two r l b c h
/-- the reference's search: no order that has the least or more -/
def seekO (zs : List Pg) (n : Nat) : Nat → List Nat → Int → Int → List Nat × Int
  | 0, o, r, m => if m ≤ r then ([], m) else (o, r)
  | f + 1, o, r, m => if m ≤ r then ([], m) else (List.range n).foldl (fun b i => if o.contains i then b else if (seekO zs n f (o ++ [i]) (r + turnO zs o i) b.2).2 < b.2 then seekO zs n f (o ++ [i]) (r + turnO zs o i) b.2 else b) ([], m)
def seekK (zs : List Pg) (n f : Nat) (o : List Nat) (r m : Int) (k : Nat) : List Nat × Int :=
  (List.range k).foldl (fun b i => if o.contains i then b else if (seekO zs n f (o ++ [i]) (r + turnO zs o i) b.2).2 < b.2 then seekO zs n f (o ++ [i]) (r + turnO zs o i) b.2 else b) ([], m)
theorem seekK_succ (zs : List Pg) (n f : Nat) (o : List Nat) (r m : Int) (k : Nat) : seekK zs n f o r m (k + 1) = if o.contains k then seekK zs n f o r m k else if (seekO zs n f (o ++ [k]) (r + turnO zs o k) (seekK zs n f o r m k).2).2 < (seekK zs n f o r m k).2 then seekO zs n f (o ++ [k]) (r + turnO zs o k) (seekK zs n f o r m k).2 else seekK zs n f o r m k := by
  unfold seekK; rw [List.range_succ, List.foldl_append]; rfl
theorem seekK_skip {zs : List Pg} {n f : Nat} {o : List Nat} {r m : Int} {k : Nat} (h : o.contains k = true) : seekK zs n f o r m (k + 1) = seekK zs n f o r m k := by rw [seekK_succ, if_pos h]
theorem seekK_in {zs : List Pg} {n f : Nat} {o : List Nat} {r m : Int} {k : Nat} (h : o.contains k = false) : seekK zs n f o r m (k + 1) = if (seekO zs n f (o ++ [k]) (r + turnO zs o k) (seekK zs n f o r m k).2).2 < (seekK zs n f o r m k).2 then seekO zs n f (o ++ [k]) (r + turnO zs o k) (seekK zs n f o r m k).2 else seekK zs n f o r m k := by rw [seekK_succ, if_neg (by rw [h]; simp)]
theorem seek_end {zs : List Pg} {n f : Nat} {o : List Nat} {r m : Int} (h : ¬ m ≤ r) : seekO zs n (f + 1) o r m = seekK zs n f o r m n := by rw [seekO, if_neg h]; rfl
theorem seek_le (zs : List Pg) (n : Nat) : ∀ (f : Nat) (o : List Nat) (r m : Int), (seekO zs n f o r m).2 ≤ m
  | 0, o, r, m => by rw [seekO]; split <;> simp <;> omega
  | f + 1, o, r, m => by
    rw [seekO]; split
    · simp
    · show (seekK zs n f o r m n).2 ≤ m
      generalize hk : n = k
      suffices ∀ k, (seekK zs n f o r m k).2 ≤ m by rw [← hk]; exact this n
      intro k
      induction k with
      | zero => simp [seekK]
      | succ k ih => rw [seekK_succ]; split; exact ih; split <;> omega
theorem ext_ge (zs : List Pg) (n : Nat) : ∀ (f : Nat) (o : List Nat), ∀ e ∈ extO n f o, rufO zs o ≤ rufO zs e
  | 0, o, e, h => by simp [extO] at h; subst h; exact Int.le_refl _
  | f + 1, o, e, h => by
    rw [extO, List.mem_flatMap] at h
    obtain ⟨i, _, hi⟩ := h
    split at hi
    · simp at hi
    · have := ext_ge zs n f (o ++ [i]) e hi
      rw [rufO_snoc] at this
      have := turn_nn zs o i
      omega
/-- the search finds the first one that is the least -/
theorem seek_scan (zs : List Pg) (n : Nat) : ∀ (f : Nat) (o : List Nat) (m : Int), seekO zs n f o (rufO zs o) m = scanO (rufO zs) ([], m) (extO n f o)
  | 0, o, m => by
    rw [seekO, extO]; show _ = betO _ _ _
    unfold betO
    by_cases h : m ≤ rufO zs o
    · rw [if_pos h, if_neg (by simp; omega)]
    · rw [if_neg h, if_pos (by simp; omega)]
  | f + 1, o, m => by
    by_cases h : m ≤ rufO zs o
    · rw [seekO, if_pos h, scan_skip]
      intro e he
      exact Int.le_trans h (ext_ge zs n (f + 1) o e he)
    · rw [seek_end h, ← extK_end]
      suffices ∀ k, seekK zs n f o (rufO zs o) m k = scanO (rufO zs) ([], m) (extK n f o k) from this n
      intro k
      induction k with
      | zero => rfl
      | succ k ih =>
        rw [extK_succ, scan_app, ← ih]
        cases hc : o.contains k with
        | true => rw [seekK_skip hc, if_pos rfl]; rfl
        | false =>
          rw [show (if false = true then ([] : List (List Nat)) else extO n f (o ++ [k])) = extO n f (o ++ [k]) from if_neg (by simp), seekK_in hc, ← rufO_snoc, seek_scan zs n f (o ++ [k])]
          exact (scan_two (rufO zs) (extO n f (o ++ [k])) (seekK zs n f o (rufO zs o) m k) ([], (seekK zs n f o (rufO zs o) m k).2) rfl).symm
theorem okS_snoc {n : Nat} {o : List Nat} {i : Nat} (h : okS n o) (hi : i < n) (hc : o.contains i = false) : okS n (o ++ [i]) := by
  have hn : i ∉ o := by simpa using hc
  refine ⟨?_, fun x hx => ?_⟩
  · rw [List.nodup_append]
    exact ⟨h.1, by simp, fun a ha b hb => by simp at hb; subst hb; intro e; subst e; exact hn ha⟩
  · rw [List.mem_append] at hx
    rcases hx with hx | hx
    · exact h.2 x hx
    · simp at hx; omega
theorem ext_ok (n : Nat) : ∀ (f : Nat) (o : List Nat), okS n o → ∀ e ∈ extO n f o, okS n e ∧ e.length = o.length + f
  | 0, o, h, e, he => by simp [extO] at he; subst he; exact ⟨h, rfl⟩
  | f + 1, o, h, e, he => by
    rw [extO, List.mem_flatMap] at he
    obtain ⟨i, hi, he⟩ := he
    cases hc : o.contains i with
    | true => rw [if_pos hc] at he; simp at he
    | false =>
      rw [if_neg (by rw [hc]; simp)] at he
      have := ext_ok n f (o ++ [i]) (okS_snoc h (List.mem_range.1 hi) hc) e he
      rw [List.length_append] at this
      exact ⟨this.1, by have := this.2; simp at this; omega⟩
theorem ext_mem (n : Nat) : ∀ (f : Nat) (o t : List Nat), t.length = f → okS n (o ++ t) → (o ++ t) ∈ extO n f o
  | 0, o, t, ht, h => by obtain rfl := List.length_eq_zero_iff.1 ht; simp [extO]
  | f + 1, o, [], ht, h => by simp at ht
  | f + 1, o, i :: t, ht, h => by
    rw [extO, List.mem_flatMap]
    have hn := h.1
    rw [List.nodup_append] at hn
    have hc : o.contains i = false := by
      rw [Bool.eq_false_iff]; intro hc
      exact hn.2.2 i (by simpa using hc) i (by simp) rfl
    refine ⟨i, List.mem_range.2 (h.2 i (by simp)), ?_⟩
    rw [if_neg (by rw [hc]; simp)]
    have := ext_mem n f (o ++ [i]) t (by simpa using ht) (by simpa using h)
    simpa using this
theorem range_ok (n : Nat) : okS n (List.range n) := ⟨List.nodup_range, fun x hx => List.mem_range.1 hx⟩
theorem ext_range (n : Nat) : List.range n ∈ extO n n [] := by
  have := ext_mem n n [] (List.range n) (by simp) (by simpa using range_ok n)
  simpa using this
theorem ext_len (n : Nat) : ∀ (f : Nat) (o : List Nat), (extO n f o).length ≤ n ^ f
  | 0, o => by simp [extO]
  | f + 1, o => by
    rw [← extK_end, Nat.pow_succ, Nat.mul_comm]
    suffices ∀ k, (extK n f o k).length ≤ k * n ^ f from this n
    intro k
    induction k with
    | zero => simp [extK]
    | succ k ih =>
      rw [extK_succ, List.length_append, Nat.succ_mul]
      have := ext_len n f (o ++ [k])
      split
      · simp; omega
      · omega
theorem extK_len (n f : Nat) (o : List Nat) (k : Nat) (h : k ≤ n) : (extK n f o k).length ≤ n ^ (f + 1) := by
  suffices (extK n f o k).length ≤ k * n ^ f by
    rw [Nat.pow_succ, Nat.mul_comm]; exact Nat.le_trans this (Nat.mul_le_mul_right _ h)
  clear h
  induction k with
  | zero => simp [extK]
  | succ k ih =>
    rw [extK_succ, List.length_append, Nat.succ_mul]
    have := ext_len n f (o ++ [k])
    split
    · simp; omega
    · omega
theorem pow_le6 {n f : Nat} (hn : n ≤ 6) (hf : f ≤ 6) : n ^ f ≤ 46656 := Nat.le_trans (Nat.pow_le_pow_left hn f) (Nat.le_trans (Nat.pow_le_pow_right (by omega) hf) (by decide))
/-- the first of all orders, and the rest -/
theorem ext_cons (n : Nat) : ∃ e l, extO n n [] = e :: l := by
  cases h : extO n n [] with
  | nil => have := ext_range n; rw [h] at this; simp at this
  | cons e l => exact ⟨e, l, rfl⟩
def okBO (zs : List Pg) : Bool := atlasB zs && decide (zs.length ≤ 6)
def seekV (zs : List Pg) : List Nat × Int := seekO zs zs.length zs.length [] 0 7
def numO (o : List Nat) : List Int := o.map fun i : Nat => (i : Int) + 1
def ordV (zs : List Pg) : List Int := if okBO zs then numO (seekV zs).1 else []
def lstV (zs : List Pg) : Int := if okBO zs then (seekV zs).2 else 0
theorem numO_len (o : List Nat) : (numO o).length = o.length := by simp [numO]
theorem ruf_small {zs : List Pg} {n : Nat} {o : List Nat} (hn : n ≤ 6) (ho : o.length ≤ n) : 0 ≤ rufO zs o ∧ rufO zs o ≤ 5 := by
  have := ruf_bd (pgN zs o) (o.length - 1); unfold rufO; omega
/-- the program's way: from the first of them on -/
theorem seek_first {zs : List Pg} {n : Nat} (hn : n ≤ 6) {e : List Nat} {l : List (List Nat)} (h : extO n n [] = e :: l) : seekO zs n n [] 0 7 = scanO (rufO zs) (e, rufO zs e) (e :: l) := by
  have h0 : rufO zs [] = 0 := by simp [rufO, ruf, pgN]
  have h1 := seek_scan zs n n [] 7
  rw [h0] at h1
  have he := (ext_ok n n [] ⟨by simp, by simp⟩ e (by rw [h]; simp)).2
  have hs := (ruf_small (zs := zs) hn (o := e) (by simp at he; omega)).2
  rw [h1, h]
  show scanO _ (betO _ _ _) l = scanO _ (betO _ _ _) l
  congr 1
  unfold betO
  rw [if_pos (by show rufO zs e < 7; omega), if_neg (by simp)]
theorem scan_mem (r : List Nat → Int) : ∀ (l : List (List Nat)) (b : List Nat × Int), b.2 = r b.1 → (scanO r b l).2 = r (scanO r b l).1 ∧ ((scanO r b l).1 = b.1 ∨ (scanO r b l).1 ∈ l)
  | [], b, h => ⟨h, .inl rfl⟩
  | o :: l, b, h => by
    show (scanO r (betO r b o) l).2 = _ ∧ _
    have hb : (betO r b o).2 = r (betO r b o).1 := by unfold betO; split; rfl; exact h
    have h2 := scan_mem r l (betO r b o) hb
    refine ⟨h2.1, ?_⟩
    rcases h2.2 with h3 | h3
    · have h4 : (scanO r b (o :: l)).1 = (betO r b o).1 := h3
      rw [h4]
      unfold betO; split
      · exact .inr (by simp)
      · exact .inl rfl
    · exact .inr (List.mem_cons_of_mem _ h3)
theorem scan_least (r : List Nat → Int) : ∀ (l : List (List Nat)) (b : List Nat × Int), ∀ o ∈ l, (scanO r b l).2 ≤ r o
  | [], b, o, h => by simp at h
  | x :: l, b, o, h => by
    show (scanO r (betO r b x) l).2 ≤ r o
    rw [List.mem_cons] at h
    rcases h with rfl | h
    · refine Int.le_trans (scan_le r l _) ?_
      unfold betO; split
      · exact Int.le_refl _
      · omega
    · exact scan_least r l _ o h
theorem seekV_scan {zs : List Pg} (hn : zs.length ≤ 6) {e : List Nat} {l : List (List Nat)} (h : extO zs.length zs.length [] = e :: l) : seekV zs = scanO (rufO zs) (e, rufO zs e) (e :: l) := seek_first hn h
/-- the best order is an order of all pages -/
theorem seekV_ok {zs : List Pg} (hn : zs.length ≤ 6) : okS zs.length (seekV zs).1 ∧ (seekV zs).1.length = zs.length ∧ (seekV zs).2 = rufO zs (seekV zs).1 := by
  obtain ⟨e, l, h⟩ := ext_cons zs.length
  rw [seekV_scan hn h]
  have h1 := scan_mem (rufO zs) (e :: l) (e, rufO zs e) rfl
  have h2 : (scanO (rufO zs) (e, rufO zs e) (e :: l)).1 ∈ extO zs.length zs.length [] := by
    rw [h]
    rcases h1.2 with h3 | h3
    · rw [h3]; simp
    · exact h3
  have h3 := ext_ok zs.length zs.length [] ⟨by simp, by simp⟩ _ h2
  exact ⟨h3.1, by simpa using h3.2, h1.1⟩
theorem seekV_least {zs : List Pg} (hn : zs.length ≤ 6) : (seekV zs).2 ≤ rufO zs (List.range zs.length) := by
  obtain ⟨e, l, h⟩ := ext_cons zs.length
  rw [seekV_scan hn h]
  exact scan_least _ _ _ _ (by rw [← h]; exact ext_range _)
theorem pg_range (zs : List Pg) : pgN zs (List.range zs.length) = zs := by
  unfold pgN
  apply List.ext_getElem
  · simp
  · intro i h1 h2
    simp only [List.getElem_map, List.getElem_range]
    rw [List.getElem!_eq_getElem?_getD, List.getElem?_eq_getElem h2]; rfl
theorem lst_rough {zs : List Pg} (h : okBO zs = true) : lstV zs ≤ ruf zs (zs.length - 1) := by
  have h2 := h
  unfold okBO at h2; simp only [Bool.and_eq_true, decide_eq_true_eq] at h2
  unfold lstV; rw [h]
  have := seekV_least h2.2
  unfold rufO at this; rw [pg_range, List.length_range] at this
  simpa using this
theorem ord_len {zs : List Pg} : (ordV zs).length ≤ zs.length := by
  unfold ordV; split
  · rename_i h
    unfold okBO at h; simp only [Bool.and_eq_true, decide_eq_true_eq] at h
    rw [numO_len, (seekV_ok h.2).2.1]; exact Nat.le_refl _
  · exact Nat.zero_le _
theorem ord_full {zs : List Pg} (h : okBO zs = true) : (ordV zs).length = zs.length := by
  have h2 := h
  unfold okBO at h2; simp only [Bool.and_eq_true, decide_eq_true_eq] at h2
  unfold ordV; rw [h, if_pos rfl, numO_len, (seekV_ok h2.2).2.1]
/-- an order of all has each -/
theorem okS_all {n : Nat} {o : List Nat} (h : okS n o) (hl : o.length = n) {i : Nat} (hi : i < n) : i ∈ o := by
  apply Classical.byContradiction
  intro hn
  have h1 : okS n (o ++ [i]) := okS_snoc h hi (by simpa using hn)
  have := okS_len h1
  rw [List.length_append, hl] at this
  simp at this
  omega
theorem ord_has {zs : List Pg} (h : okBO zs = true) {i : Int} (h1 : 1 ≤ i) (h2 : i ≤ zs.length) : i ∈ ordV zs := by
  have h3 := h
  unfold okBO at h3; simp only [Bool.and_eq_true, decide_eq_true_eq] at h3
  unfold ordV; rw [h, if_pos rfl]
  have ho := seekV_ok h3.2
  exact List.mem_map.2 ⟨(i - 1).toNat, okS_all ho.1 ho.2.1 (by omega), by omega⟩

end Go.Proofs.Ytdgalehipgdhiaa
