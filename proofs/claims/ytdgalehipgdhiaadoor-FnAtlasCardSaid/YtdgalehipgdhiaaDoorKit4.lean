/- Generic: a slice appended whole; an element of an own slice written. No program. -/
import Derived.Test.YtdgalehipgdhiaaDoorKit
namespace Go.Proofs.YtdgalehipgdhiaaDoor
open Go.RowKit
section
variable {α : Type} {enc : α → List Value} {k : Nat}
theorem flat_one (h1 : ∀ x, ∀ u ∈ enc x, u.oneCell' = true) (zs : List α) : ∀ u ∈ zs.flatMap enc, u.oneCell' = true := by
  intro u hu
  obtain ⟨x, _, hx⟩ := List.mem_flatMap.1 hu
  exact h1 x u hx
theorem rd_flat (hk : ∀ x, (enc x).length = k) {B : Nat} {w : World} {a : Addr} {zs : List α} (h : Rd enc k B w (some a) zs) : ∀ j u, (zs.flatMap enc)[j]? = some u → w.cell? (a.add j) = some u := by
  intro j u hu
  rcases h with rfl | ⟨b, off, he, _, _, hc⟩
  · simp at hu
  · injection he with he
    subst he
    have hj : j < (zs.flatMap enc).length := (List.getElem?_eq_some_iff.1 hu).1
    rw [flat_len hk] at hj
    have hk0 : 0 < k := by
      rcases Nat.eq_zero_or_pos k with h0 | h0
      · rw [h0] at hj; omega
      · exact h0
    have hq : j / k < zs.length := (Nat.div_lt_iff_lt_mul hk0).2 hj
    have hr : j % k < k := Nat.mod_lt _ hk0
    have hx := List.getElem?_eq_getElem hq
    have hv : (enc zs[j / k])[j % k]? = some ((enc zs[j / k])[j % k]'(by rw [hk]; exact hr)) := List.getElem?_eq_getElem _
    have hjj : j / k * k + j % k = j := by rw [Nat.mul_comm]; exact Nat.div_add_mod j k
    have h2 := flat_at hk zs (j / k) _ hx (j % k) _ hv
    rw [hjj, hu] at h2
    injection h2 with h2
    have h3 := hc (j / k) _ hx (j % k) _ hv
    rw [Nat.add_assoc, hjj, ← h2] at h3
    rw [Addr.add_lit]
    exact h3
theorem flat_set (hk : ∀ x, (enc x).length = k) (zs : List α) (i : Nat) (x x' : α) (hx : zs[i]? = some x) (j : Nat) (u : Value) (he : enc x' = (enc x).set j u) (hj : j < k) : (zs.set i x').flatMap enc = (zs.flatMap enc).set (i * k + j) u := by
  induction zs generalizing i with
  | nil => simp at hx
  | cons z zs ih =>
    cases i with
    | zero =>
      simp at hx; subst hx
      simp only [List.set_cons_zero, List.flatMap_cons, he, Nat.zero_mul, Nat.zero_add]
      rw [List.set_append_left _ _ (by rw [hk]; exact hj)]
    | succ i =>
      simp at hx
      simp only [List.set_cons_succ, List.flatMap_cons]
      rw [ih i hx, List.set_append_right _ _ (by rw [hk, Nat.succ_mul]; omega), hk]
      congr 2
      rw [Nat.succ_mul]; omega
theorem flat_setk (hk : ∀ x, (enc x).length = k) (zs : List α) (i : Nat) (x' : α) (hi : i < zs.length) (cs : Array Value) (hs : (zs.flatMap enc).length ≤ cs.size) (ht : cs.toList.take (zs.length * k) = zs.flatMap enc) :
    (setL cs (i * k) (enc x')).toList.take (zs.length * k) = (zs.set i x').flatMap enc := by
  refine List.ext_getElem? fun j => ?_
  have hl : ((zs.set i x').flatMap enc).length = zs.length * k := by rw [flat_len hk, List.length_set]
  by_cases hj : j < zs.length * k
  · rw [List.getElem?_take, if_pos hj, Array.getElem?_toList, setL_get, hk]
    have hk0 : 0 < k := by
      rcases Nat.eq_zero_or_pos k with h0 | h0
      · rw [h0] at hj; omega
      · exact h0
    have hq : j / k < zs.length := (Nat.div_lt_iff_lt_mul hk0).2 hj
    have hr : j % k < k := Nat.mod_lt _ hk0
    have hjj : j / k * k + j % k = j := by rw [Nat.mul_comm]; exact Nat.div_add_mod j k
    rw [flat_len hk] at hs
    by_cases hin : i * k ≤ j ∧ j < i * k + k
    · rw [if_pos ⟨hin.1, hin.2, by omega⟩]
      have hqi : j / k = i := by
        apply Nat.div_eq_of_lt_le
        · exact hin.1
        · rw [Nat.succ_mul]; exact hin.2
      have hji : j - i * k = j % k := by rw [← hqi]; omega
      have hx : (zs.set i x')[i]? = some x' := by rw [List.getElem?_set_self hi]
      have hv : (enc x')[j % k]? = some ((enc x')[j % k]'(by rw [hk]; exact hr)) := List.getElem?_eq_getElem _
      have h2 := flat_at hk (zs.set i x') i x' hx (j % k) _ hv
      rw [hqi] at hjj
      rw [hjj] at h2
      rw [hji, hv, h2]
    · rw [if_neg (by omega)]
      have hne : j / k ≠ i := by
        intro he
        apply hin
        rw [← he]
        omega
      have hx : (zs.set i x')[j / k]? = some zs[j / k] := by rw [List.getElem?_set_ne (Ne.symm hne)]; exact List.getElem?_eq_getElem hq
      have hv : (enc zs[j / k])[j % k]? = some ((enc zs[j / k])[j % k]'(by rw [hk]; exact hr)) := List.getElem?_eq_getElem _
      have h2 := flat_at hk (zs.set i x') (j / k) _ hx (j % k) _ hv
      have h3 := flat_at hk zs (j / k) _ (List.getElem?_eq_getElem hq) (j % k) _ hv
      rw [hjj] at h2 h3
      rw [h2, ← h3, ← ht, List.getElem?_take, if_pos hj, Array.getElem?_toList]
  · rw [List.getElem?_eq_none (show (List.take (zs.length * k) (setL cs (i * k) (enc x')).toList).length ≤ j by rw [List.length_take]; omega), List.getElem?_eq_none (by rw [hl]; omega)]
/-- one cell of an element of an own slice is written -/
theorem own_set1 (hk : ∀ x, (enc x).length = k) {w : World} {base g n cap : Nat} {e : TypeId} {cs : Array Value} {zs : List α} (hB : Blk w g e cs) (hb : base ≤ g) (hs : cs.size = cap * k) (hn : n ≤ cap) (hm : cap ≤ maxLen) (hz : zs.length = n) (ht : cs.toList.take (n * k) = zs.flatMap enc)
    (i j : Nat) (x x' : α) (u : Value) (hx : zs[i]? = some x) (he : enc x' = (enc x).set j u) (hj : j < k) :
    (w.setCell ⟨g, i * k + j, none⟩ u).ownsRow base e k (.slice (some ⟨g, 0, none⟩) n cap) n ((zs.set i x').flatMap enc) := by
  have hi : i < zs.length := (List.getElem?_eq_some_iff.1 hx).1
  refine World.ownsRow_of_blk (hB.set_ _ _) hb (by rw [Array.size_setIfInBounds]; exact hs) hn hm (by rw [flat_len hk, List.length_set, hz]) ?_
  rw [Array.toList_setIfInBounds, List.take_set, ht, flat_set hk zs i x x' hx j u he hj]
end
end Go.Proofs.YtdgalehipgdhiaaDoor
