/- Arguments that are slices of integers, of arrays of integers, opened. -/
import Derived.Test.YtpdfbijfklmonaaPK2
import Derived.Test.YtpdfbijfklmonaaFInt
import Derived.Test.YtpdfbijfklmonaaFIntA2
namespace Go.Proofs.Ytpdfbijfklmonaa
open Go.ChangeShapes Go.WideShapes Go.ChangeAt Go.RowKit

theorem open_I {H : Type} {enc : TypeId × Value → H} {w : World} {a : Option Addr} {len cap : Nat} {d : DataW H} {ps : List MemPlace} (h : DataW.Trod enc Try.prog w 0 (fun _ => true) true 30 (.slice a len cap) d ps) :
    ∃ zs : List Int, zs.length = len ∧ len ≤ maxLen ∧ (∀ x ∈ zs, okI x) ∧ Rd encI 1 w.heap.size w a zs := by
  obtain ⟨zs, h1, h2, h3, h4⟩ := open_nums Try.underlying30 Try.underlying3 (by kernel_rfl) h
  refine ⟨zs.map (fun l => l.getD 0 0), by simp [h1], h2, fun x hx => ?_, h4.conv (fun l => l.getD 0 0) (fun l hl => by match l, hl with | [q], _ => rfl) (fun l hl => (h3 l hl).1)⟩
  obtain ⟨l, hl, rfl⟩ := List.mem_map.1 hx
  obtain ⟨h5, h6⟩ := h3 l hl
  match l, h5, h6 with
  | [q], _, h6 => exact h6 q (by simp)

theorem open_Ar2 {H : Type} {enc : TypeId × Value → H} {w : World} {a : Option Addr} {len cap : Nat} {d : DataW H} {ps : List MemPlace} (h : DataW.Trod enc Try.prog w 0 (fun _ => true) true 36 (.slice a len cap) d ps) :
    ∃ zs : List Ar2, zs.length = len ∧ len ≤ maxLen ∧ (∀ x ∈ zs, okI x.a ∧ okI x.b) ∧ Rd encAr2 2 w.heap.size w a zs := by
  obtain ⟨zs, h1, h2, h3, h4⟩ := open_arrs (ti := 3) Try.underlying36 Try.underlying80 Try.underlying3 (by kernel_rfl) (by kernel_rfl) (by decide) h
  refine ⟨zs.map mkAr2, by simp [h1], h2, fun x hx => ?_, h4.conv mkAr2 mkAr2_enc (fun l hl => (h3 l hl).1)⟩
  obtain ⟨l, hl, rfl⟩ := List.mem_map.1 hx
  obtain ⟨h5, h6⟩ := h3 l hl
  match l, h5, h6 with
  | [p, q], _, h6 => exact ⟨h6 p (by simp), h6 q (by simp)⟩

end Go.Proofs.Ytpdfbijfklmonaa
