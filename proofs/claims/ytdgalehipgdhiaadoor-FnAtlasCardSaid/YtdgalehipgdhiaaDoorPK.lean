/- Generic: a slice argument of structs of integer fields opened. No program. -/
import Derived.Test.YtdgalehipgdhiaaDoorKit
import Derived.ProofKit
import Derived.OpenShut
import Derived.ShutString
import Derived.ChangeOld
import Derived.Deep.Slices
import Derived.Deep.Fields
import Derived.ChangeSame
namespace Go.Proofs.YtdgalehipgdhiaaDoor
open Go.ChangeShapes Go.WideShapes Go.ChangeAt Go.RowKit Go.Deep
section
variable {H : Type} {enc : TypeId × Value → H} {P : Program} {w : World}
theorem choose_list {α : Type} {n : Nat} {p : Nat → α → Prop} (h : ∀ i, i < n → ∃ x, p i x) : ∃ zs : List α, zs.length = n ∧ ∀ i x, zs[i]? = some x → p i x := by
  induction n with
  | zero => exact ⟨[], rfl, fun i x hx => by simp at hx⟩
  | succ n ih =>
    obtain ⟨zs, hl, hz⟩ := ih fun i hi => h i (by omega)
    obtain ⟨x, hx⟩ := h n (by omega)
    refine ⟨zs ++ [x], by simp [hl], fun i y hy => ?_⟩
    rcases Nat.lt_or_ge i n with h1 | h1
    · rw [List.getElem?_append_left (by omega)] at hy; exact hz i y hy
    · rw [List.getElem?_append_right (by omega)] at hy
      have : i - zs.length = 0 := by
        rcases Nat.eq_zero_or_pos (i - zs.length) with h2 | h2
        · exact h2
        · rw [List.getElem?_eq_none (by simp; omega)] at hy; cases hy
      rw [this] at hy; simp at hy; subst hy
      have : i = n := by omega
      subst this; exact hx
theorem okI_wf {q : Int} (h : (Lit.int .i64 q).wf = true) : okI q := by
  simp [Lit.wf] at h
  have e : IntKind.i64.min = -9223372036854775808 := by rfl
  rw [e] at h
  exact h
/-- a slice argument of structs of k integer fields: read as a list of lists of k integers -/
theorem open_structs {t e ti : TypeId} {fs : Array Field} {a : Option Addr} {len cap : Nat} {d : DataW H} {ps : List MemPlace} (ht : P.underlying t = some (.slice e)) (he : P.underlying e = some (.struct fs))
    (hi : P.underlying ti = some (.int .i64)) (hone : oneCellFields P fs = true) (hC : P.cellsOf e = fs.size) (h1 : 0 < fs.size) (hty : ∀ (j : Nat) (f : Field), fs[j]? = some f → f.type = ti)
    (h : DataW.Trod enc P w 0 (fun _ => true) true t (.slice a len cap) d ps) :
    ∃ zs : List (List Int), zs.length = len ∧ len ≤ maxLen ∧ (∀ l ∈ zs, l.length = fs.size ∧ ∀ q ∈ l, okI q) ∧ Rd encL fs.size w.heap.size w a zs := by
  obtain ⟨fuel, hf⟩ := h
  rcases open_slice ht hf with ⟨hcs, _⟩ | ⟨a', len', cap', m, n, D, Pl, hcs, _, hl, hm, hmm, _, hi'⟩
  · simp [Value.cells] at hcs
    obtain ⟨rfl, rfl, rfl⟩ := hcs
    exact ⟨[], rfl, by simp [maxLen], by simp, .inl rfl⟩
  · simp [Value.cells] at hcs
    obtain ⟨rfl, rfl, rfl⟩ := hcs
    have hlm : len ≤ m := by simp at hmm; omega
    obtain ⟨zs, hzl, hz⟩ := choose_list (n := len) (p := fun i (l : List Int) => l.length = fs.size ∧ ∀ j q, l[j]? = some q → okI q ∧ w.cell? (a'.add (i * fs.size + j)) = some (.int .i64 q)) (by
      intro i hil
      obtain ⟨cs, hrow, htr⟩ := hi' i (by omega)
      obtain ⟨ys, f2, _, _, hlen, _, hfld⟩ := DataW.trod_struct he htr
      obtain ⟨_, hcl, hat⟩ := World.cells?_some hrow
      obtain ⟨l, hll, hl2⟩ := choose_list (n := fs.size) (p := fun j (q : Int) => okI q ∧ w.cell? (a'.add (i * fs.size + j)) = some (.int .i64 q)) (by
        intro j hj
        have hfj : fs[j]? = some fs[j] := Array.getElem?_eq_getElem hj
        obtain ⟨ho, hk1⟩ := hone_of hone j _ hfj
        have h2 := hfld j _ hfj
        rw [ho, hk1, hty j _ hfj] at h2
        have hjl : j < cs.length := by omega
        obtain ⟨q, hq, _, hw⟩ := DataW.trod_int hi (h2.trans (List.getElem?_eq_getElem (by omega)))
        have h3 : (cs.drop j).take 1 = [cs[j]] := by rw [List.drop_eq_getElem_cons hjl]; rfl
        rw [h3] at hq
        simp at hq
        have h4 := hat j (by omega)
        rw [← Go.Deep.add_add, ← hC, h4, List.getElem?_eq_getElem hjl, hq]
        exact ⟨q, okI_wf hw, rfl⟩)
      exact ⟨l, hll, hl2⟩)
    refine ⟨zs, hzl, by omega, fun l hl' => ?_, ?_⟩
    · obtain ⟨i, hi1, hi2⟩ := List.getElem_of_mem hl'
      have := hz i l (by rw [List.getElem?_eq_getElem hi1, hi2])
      refine ⟨this.1, fun q hq => ?_⟩
      obtain ⟨j, hj1, hj2⟩ := List.getElem_of_mem hq
      exact (this.2 j q (by rw [List.getElem?_eq_getElem hj1, hj2])).1
    · rcases Nat.eq_zero_or_pos len with h0 | h0
      · exact .inl (List.eq_nil_of_length_eq_zero (by omega))
      · obtain ⟨z0, hz0⟩ : ∃ z, zs[0]? = some z := ⟨_, List.getElem?_eq_getElem (by omega)⟩
        have p0 := hz 0 z0 hz0
        obtain ⟨q0, hq0⟩ : ∃ q, z0[0]? = some q := ⟨_, List.getElem?_eq_getElem (by omega)⟩
        have c0 := (p0.2 0 q0 hq0).2
        obtain ⟨b, off, spot⟩ := a'
        have hs : spot = none := by simpa [Addr.add] using World.cell?_spot c0
        subst hs
        have hb : b < w.heap.size := by simpa [Addr.add] using World.block_lt_of_cell? w _ c0
        refine .inr ⟨b, off, rfl, hb, hb, fun j x hx' i v hv => ?_⟩
        unfold encL at hv
        rw [List.getElem?_map] at hv
        cases hxi : x[i]? with
        | none => rw [hxi] at hv; cases hv
        | some q =>
          rw [hxi] at hv; simp at hv; subst hv
          have := ((hz j x hx').2 i q hxi).2
          rw [Addr.add_lit, ← Nat.add_assoc] at this
          exact this
/-- from lists of integers to a type of one's own -/
theorem Rd.conv {α : Type} {enc : α → List Value} {k B : Nat} {a : Option Addr} {zs : List (List Int)} (mk : List Int → α) (hmk : ∀ l, l.length = k → enc (mk l) = encL l) (hl : ∀ l ∈ zs, l.length = k) (h : Rd encL k B w a zs) : Rd enc k B w a (zs.map mk) := by
  rcases h with rfl | ⟨b, off, rfl, h1, h2, hc⟩
  · exact .inl rfl
  · refine .inr ⟨b, off, rfl, h1, h2, fun j x hx i v hv => ?_⟩
    rw [List.getElem?_map] at hx
    cases hz : zs[j]? with
    | none => rw [hz] at hx; cases hx
    | some l =>
      rw [hz] at hx; simp at hx; subst hx
      rw [hmk l (hl l (List.mem_of_getElem? hz))] at hv
      exact hc j l hz i v hv
end
end Go.Proofs.YtdgalehipgdhiaaDoor
