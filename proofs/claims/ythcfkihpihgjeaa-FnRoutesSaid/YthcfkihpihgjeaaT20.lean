/- Slices of pairs: compared, marked, held. -/
import Derived.Test.YthcfkihpihgjeaaT16
import Derived.StillTailTactics
namespace Go.Proofs.Ythcfkihpihgjeaa
open Go.RowKit
set_option linter.unusedVariables false
set_option linter.unusedSimpArgs false

theorem rdP {w : World} {ao : Option Addr} {zs : List (Int × Int)} (h : Rd encP 2 w.heap.size w ao zs) (hn : 0 < zs.length) :
    ∃ b off, ao = some ⟨b, off, none⟩ ∧ b < w.heap.size ∧ ∀ j, j < zs.length → ∃ x, zs[j]? = some x ∧ ∀ wr, Below w.heap.size w wr → b < wr.heap.size ∧ wr.cell? ⟨b, off + j * 2, none⟩ = some (.int .i64 x.1) ∧ wr.cell? ⟨b, off + j * 2 + 1, none⟩ = some (.int .i64 x.2) := by
  obtain ⟨b, off, rfl, h1, h2, hc⟩ := h.at_ hn
  refine ⟨b, off, rfl, h1, fun j hj => ⟨zs[j], List.getElem?_eq_getElem hj, fun wr hb => ?_⟩⟩
  have hx := List.getElem?_eq_getElem hj
  exact ⟨Nat.lt_of_lt_of_le h2 hb.size, (hb.cell (p := ⟨b, _, none⟩) h1).trans (hc j _ hx 0 _ rfl), (hb.cell (p := ⟨b, _, none⟩) h1).trans (hc j _ hx 1 _ rfl)⟩
def plcV (zs : List Lg) : List (Int × Int) := if routeB zs then psL zs zs.length else []
theorem plc_len {zs : List Lg} : (plcV zs).length ≤ zs.length := by unfold plcV; split <;> simp [psL_len]
theorem plc_yes {zs : List Lg} {n : Nat} (hz : zs.length = n) (h : routeB zs = true) : plcV zs = psL zs n := by unfold plcV; rw [h, hz]; rfl
theorem plc_no {zs : List Lg} (h : routeB zs = false) : plcV zs = [] := by unfold plcV; rw [h]; rfl
theorem Rd.takeG {B : Nat} {w : World} {ao : Option Addr} {zs : List Lg} (k : Nat) (h : Rd encLg 3 B w ao zs) : Rd encLg 3 B w ao (zs.take k) := by
  rcases h with h | ⟨b, off, rfl, h1, h2, h3⟩
  · exact .inl (by simp [h])
  · refine .inr ⟨b, off, rfl, h1, h2, fun j x hx => h3 j x ?_⟩
    rw [List.getElem?_take] at hx
    split at hx
    · exact hx
    · cases hx
theorem route_take {zs : List Lg} (h : routeB zs = true) (k : Nat) : routeB (zs.take k) = true := by
  have h12 := route_12 h
  unfold routeB
  simp only [Bool.and_eq_true, decide_eq_true_eq]
  refine ⟨allB_true (fun j hj => ?_), by simp; omega⟩
  have hj2 : j < k ∧ j < zs.length := by simp at hj; omega
  have hx := List.getElem?_eq_getElem hj2.2
  have ht : (zs.take k)[j]? = some zs[j] := by rw [List.getElem?_take]; simp [hj2.1, hj2.2]
  show okLeg (zs.take k)[j]! = true
  rw [getB ht]
  exact route_at h hx

end Go.Proofs.Ythcfkihpihgjeaa
