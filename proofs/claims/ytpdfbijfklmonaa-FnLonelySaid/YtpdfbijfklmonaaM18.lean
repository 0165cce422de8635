/- NeedlessCovers: plain. -/
import Derived.Test.YtpdfbijfklmonaaM10
import Derived.Test.YtpdfbijfklmonaaM9
namespace Go.Proofs.Ytpdfbijfklmonaa
open Go.RowKit
set_option linter.unusedVariables false
set_option linter.unusedSimpArgs false

def ndB (a b : Int) (ps : List Cv) (k : Nat) : Bool := cntX (dropC ps k) b.toNat a.toNat == 0
def ndL (a b : Int) (ps : List Cv) (is : List Int) : Nat → List Int | 0 => [] | k + 1 => ndL a b ps is k ++ if ndB a b ps k then [is[k]!] else []
def needL (a b : Int) (zs : List Cv) (is : List Int) : List Int := if mosV a b zs is then ndL a b (picks zs is) is is.length else []
theorem ndL_len (a b : Int) (ps : List Cv) (is : List Int) : ∀ n : Nat, (ndL a b ps is n).length ≤ n
  | 0 => by simp [ndL]
  | n + 1 => by have := ndL_len a b ps is n; simp only [ndL]; split <;> simp <;> omega
theorem need_len {a b : Int} {zs : List Cv} {is : List Int} : (needL a b zs is).length ≤ is.length := by unfold needL; split; exact ndL_len _ _ _ _ _; exact Nat.zero_le _
theorem ndL_yes {a b : Int} {ps : List Cv} {is : List Int} {k : Nat} {q : Int} (hq : is[k]! = q) (h : ndB a b ps k = true) : ndL a b ps is (k + 1) = ndL a b ps is k ++ [q] := by rw [ndL, h, hq]; rfl
theorem ndL_no {a b : Int} {ps : List Cv} {is : List Int} {k : Nat} (h : ndB a b ps k = false) : ndL a b ps is (k + 1) = ndL a b ps is k := by rw [ndL, h]; simp
theorem picks_i {zs : List Cv} {is : List Int} (hf : foundB zs is = true) {k : Nat} {x : Cv} (hx : (picks zs is)[k]? = some x) : is[k]? = some x.i := by
  unfold picks at hx
  rw [List.getElem?_map] at hx
  cases hq : is[k]? with
  | none => rw [hq] at hx; cases hx
  | some q =>
    rw [hq] at hx; simp at hx; subst hx
    have hh := allB_at (p := fun k => hasC zs is[k]!) hf k (List.getElem?_eq_some_iff.1 hq).1
    have hh : hasC zs is[k]! = true := hh
    rw [getI! hq] at hh
    unfold hasC at hh
    rcases idx_cases (isC q) zs with ⟨h1, _, _⟩ | ⟨j, x, hj, hx, hp, h1, _, _⟩
    · rw [h1] at hh; simp at hh
    · have : pick zs q = x := by unfold pick; rw [h1]; exact getB hx
      rw [this]
      unfold isC at hp
      rw [beq_iff_eq.1 hp]
theorem own_rdB {α : Type} {enc : α → List Value} {k : Nat} (hk : ∀ x, (enc x).length = k) {w : World} {base n : Nat} {e : TypeId} {v : Value} {zs : List α} (h : w.ownsRow base e k v n (zs.flatMap enc)) (hz : zs.length = n) :
    ∃ ao c, v = .slice ao n c ∧ n ≤ c ∧ Rd enc k w.heap.size w ao zs ∧ ∀ b off, ao = some ⟨b, off, none⟩ → base ≤ b := by
  obtain ⟨ao, c, hv, h1, _, h2⟩ := own_rd hk h hz
  refine ⟨ao, c, hv, h1, h2, fun b off hb => ?_⟩
  rcases h.2 with ⟨h3, _⟩ | ⟨g, cap, cur, h3, h4, _⟩
  · rw [hv, hb] at h3; injection h3 with h5; cases h5
  · rw [hv, hb] at h3; injection h3 with h5; injection h5 with h5; injection h5 with h6; omega
theorem rd_grown2 {α : Type} {enc : α → List Value} {k B : Nat} {w w' : World} {ao : Option Addr} {zs : List α} {row : Option Nat} (h : Rd enc k B w ao zs) (hg : w.grownBy w' row) (hne : ∀ b off, ao = some ⟨b, off, none⟩ → some b ≠ row) : Rd enc k B w' ao zs := by
  rcases h with h | ⟨b, off, rfl, hlt, hlt2, hc⟩
  · exact .inl h
  · exact .inr ⟨b, off, rfl, hlt, Nat.lt_of_lt_of_le hlt2 hg.size, fun j x hx i v hv => hg.cell (hc j x hx i v hv) (hne b off rfl)⟩
theorem rd_at {α : Type} {enc : α → List Value} {k B : Nat} {w : World} {ao : Option Addr} {zs : List α} (h : Rd enc k B w ao zs) (hB : B ≤ w.heap.size) : Rd enc k w.heap.size w ao zs := h.mono hB

end Go.Proofs.Ytpdfbijfklmonaa
