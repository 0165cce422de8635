/- Generic: a slice argument of arrays of integers, of integers, a slice that lies in a struct, opened. No program. -/
import Derived.Test.YthcfkihpihgjeaaPK
namespace Go.Proofs.Ythcfkihpihgjeaa
open Go.ChangeShapes Go.WideShapes Go.ChangeAt Go.RowKit Go.Deep
section
variable {H : Type} {enc : TypeId × Value → H} {P : Program} {w : World}
theorem rd_rows {k len : Nat} {a' : Addr} (hk : 0 < k) (hlm : len ≤ maxLen) (each : ∀ i, i < len → ∃ l : List Int, l.length = k ∧ ∀ j q, l[j]? = some q → okI q ∧ w.cell? (a'.add (i * k + j)) = some (.int .i64 q)) :
    ∃ zs : List (List Int), zs.length = len ∧ len ≤ maxLen ∧ (∀ l ∈ zs, l.length = k ∧ ∀ q ∈ l, okI q) ∧ Rd encL k w.heap.size w (some a') zs := by
  obtain ⟨zs, hzl, hz⟩ := choose_list (n := len) each
  refine ⟨zs, hzl, hlm, fun l hl' => ?_, ?_⟩
  · obtain ⟨i, hi1, hi2⟩ := List.getElem_of_mem hl'
    have := hz i l (by rw [List.getElem?_eq_getElem hi1, hi2])
    refine ⟨this.1, fun q hq => ?_⟩
    obtain ⟨j, hj1, hj2⟩ := List.getElem_of_mem hq
    exact (this.2 j q (by rw [List.getElem?_eq_getElem hj1, hj2])).1
  · rcases Nat.eq_zero_or_pos len with h0 | h0
    · exact .inl (List.eq_nil_of_length_eq_zero (by omega))
    · obtain ⟨z0, hz0⟩ : ∃ z, zs[0]? = some z := ⟨_, List.getElem?_eq_getElem (by omega)⟩
      have p0 := hz 0 z0 hz0
      obtain ⟨q0, hq0⟩ : ∃ q, z0[0]? = some q := ⟨_, List.getElem?_eq_getElem (by omega)⟩
      have c0 := (p0.2 0 q0 hq0).2
      obtain ⟨b, off, spot⟩ := a'
      have hs : spot = none := by simpa [Addr.add] using World.cell?_spot c0
      subst hs
      have hb : b < w.heap.size := by simpa [Addr.add] using World.block_lt_of_cell? w _ c0
      refine .inr ⟨b, off, rfl, hb, hb, fun j x hx' i v hv => ?_⟩
      unfold encL at hv
      rw [List.getElem?_map] at hv
      cases hxi : x[i]? with
      | none => rw [hxi] at hv; cases hv
      | some q =>
        rw [hxi] at hv; simp at hv; subst hv
        have := ((hz j x hx').2 i q hxi).2
        rw [Addr.add_lit, ← Nat.add_assoc] at this
        exact this
/-- a slice argument of arrays of n integers -/
theorem open_arrs {t e ti : TypeId} {n : Nat} {a : Option Addr} {len cap : Nat} {d : DataW H} {ps : List MemPlace} (ht : P.underlying t = some (.slice e)) (he : P.underlying e = some (.array n ti))
    (hi : P.underlying ti = some (.int .i64)) (hC : P.cellsOf e = n) (hC1 : P.cellsOf ti = 1) (h1 : 0 < n)
    (h : DataW.Trod enc P w 0 (fun _ => true) true t (.slice a len cap) d ps) :
    ∃ zs : List (List Int), zs.length = len ∧ len ≤ maxLen ∧ (∀ l ∈ zs, l.length = n ∧ ∀ q ∈ l, okI q) ∧ Rd encL n w.heap.size w a zs := by
  obtain ⟨fuel, hf⟩ := h
  rcases open_slice ht hf with ⟨hcs, _⟩ | ⟨a', len', cap', m, n', D, Pl, hcs, _, hl, hm, hmm, _, hi'⟩
  · simp [Value.cells] at hcs
    obtain ⟨rfl, rfl, rfl⟩ := hcs
    exact ⟨[], rfl, by simp [maxLen], by simp, .inl rfl⟩
  · simp [Value.cells] at hcs
    obtain ⟨rfl, rfl, rfl⟩ := hcs
    have hlm : len ≤ m := by simp at hmm; omega
    refine rd_rows h1 (by omega) fun i hil => ?_
    obtain ⟨cs, hrow, htr⟩ := hi' i (by omega)
    obtain ⟨ys, f2, _, _, hlen, _, hfld⟩ := DataW.trod_array he htr
    obtain ⟨_, hcl, hat⟩ := World.cells?_some hrow
    obtain ⟨l, hll, hl2⟩ := choose_list (n := n) (p := fun j (q : Int) => okI q ∧ w.cell? (a'.add (i * n + j)) = some (.int .i64 q)) (by
      intro j hj
      have h2 := hfld j hj
      rw [hC1, Nat.mul_one] at h2
      have hjl : j < cs.length := by omega
      obtain ⟨q, hq, _, hw⟩ := DataW.trod_int hi (h2.trans (List.getElem?_eq_getElem (by omega)))
      have h3 : (cs.drop j).take 1 = [cs[j]] := by rw [List.drop_eq_getElem_cons hjl]; rfl
      rw [h3] at hq
      simp at hq
      have h4 := hat j (by omega)
      rw [← Go.Deep.add_add, ← hC, h4, List.getElem?_eq_getElem hjl, hq]
      exact ⟨q, okI_wf hw, rfl⟩)
    exact ⟨l, hll, hl2⟩
/-- a slice argument of integers -/
theorem open_nums {t e : TypeId} {a : Option Addr} {len cap : Nat} {d : DataW H} {ps : List MemPlace} (ht : P.underlying t = some (.slice e))
    (hi : P.underlying e = some (.int .i64)) (hC : P.cellsOf e = 1)
    (h : DataW.Trod enc P w 0 (fun _ => true) true t (.slice a len cap) d ps) :
    ∃ zs : List (List Int), zs.length = len ∧ len ≤ maxLen ∧ (∀ l ∈ zs, l.length = 1 ∧ ∀ q ∈ l, okI q) ∧ Rd encL 1 w.heap.size w a zs := by
  obtain ⟨fuel, hf⟩ := h
  rcases open_slice ht hf with ⟨hcs, _⟩ | ⟨a', len', cap', m, n', D, Pl, hcs, _, hl, hm, hmm, _, hi'⟩
  · simp [Value.cells] at hcs
    obtain ⟨rfl, rfl, rfl⟩ := hcs
    exact ⟨[], rfl, by simp [maxLen], by simp, .inl rfl⟩
  · simp [Value.cells] at hcs
    obtain ⟨rfl, rfl, rfl⟩ := hcs
    have hlm : len ≤ m := by simp at hmm; omega
    refine rd_rows (by decide) (by omega) fun i hil => ?_
    obtain ⟨cs, hrow, htr⟩ := hi' i (by omega)
    obtain ⟨_, hcl, hat⟩ := World.cells?_some hrow
    obtain ⟨q, hq, _, hw⟩ := DataW.trod_int hi htr
    subst hq
    refine ⟨[q], rfl, fun j p hp => ?_⟩
    have hj : j = 0 := by
      rcases j with _ | j
      · rfl
      · simp at hp
    subst hj
    simp at hp
    subst hp
    refine ⟨okI_wf hw, ?_⟩
    have h4 := hat 0 (by rw [hC]; decide)
    rw [hC, Go.Deep.add_add] at h4
    exact h4
/-- a slice that is a struct's field: its form, and read as an argument of its own -/
theorem field_slice {t e : TypeId} {n : Nat} {v : Value} {y : DataW H × List MemPlace} (ht : P.underlying t = some (.slice e)) (h : DataW.trod enc P w 0 (fun _ => true) true n t [v] = some y) :
    ∃ a len cap, v = .slice a len cap ∧ DataW.Trod enc P w 0 (fun _ => true) true t (.slice a len cap) y.1 y.2 := by
  have h' := h
  rcases DataW.trod_slice ht h with ⟨hc, _⟩ | ⟨a, len, cap, _, _, _, _, hc, _⟩
  · simp at hc; subst hc; exact ⟨none, 0, 0, rfl, n, by simpa [Value.cells] using h'⟩
  · simp at hc; subst hc; exact ⟨some a, len, cap, rfl, n, by simpa [Value.cells] using h'⟩
end
end Go.Proofs.Ythcfkihpihgjeaa
