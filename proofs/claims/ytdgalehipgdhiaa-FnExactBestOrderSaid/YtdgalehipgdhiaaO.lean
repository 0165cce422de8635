/- The arguments that are slices of structs, opened. -/
import Derived.Test.YtdgalehipgdhiaaPK
import Derived.Test.YtdgalehipgdhiaaFPage
namespace Go.Proofs.Ytdgalehipgdhiaa
open Go.ChangeShapes Go.WideShapes Go.ChangeAt Go.RowKit

theorem open_Pg {H : Type} {enc : TypeId × Value → H} {w : World} {a : Option Addr} {len cap : Nat} {d : DataW H} {ps : List MemPlace} (h : DataW.Trod enc Try.prog w 0 (fun _ => true) true 22 (.slice a len cap) d ps) :
    ∃ zs : List Pg, zs.length = len ∧ len ≤ maxLen ∧ (∀ x ∈ zs, okI x.n ∧ okI x.r ∧ okI x.c ∧ okI x.l) ∧ Rd encPg 4 w.heap.size w a zs := by
  obtain ⟨zs, h1, h2, h3, h4⟩ := open_structs (ti := 3) Try.underlying22 Try.underlying56 Try.underlying3 (by kernel_rfl) (by kernel_rfl) (by decide) (by intro j f hj; match j, hj with | 0, hj => simp at hj; rw [← hj] | 1, hj => simp at hj; rw [← hj] | 2, hj => simp at hj; rw [← hj] | 3, hj => simp at hj; rw [← hj] | j + 4, hj => simp at hj) h
  refine ⟨zs.map mkPg, by simp [h1], h2, fun x hx => ?_, h4.conv mkPg mkPg_enc (fun l hl => (h3 l hl).1)⟩
  obtain ⟨l, hl, rfl⟩ := List.mem_map.1 hx
  obtain ⟨h5, h6⟩ := h3 l hl
  match l, h5, h6 with
  | [v0, v1, v2, v3], _, h6 => exact ⟨h6 v0 (by simp), h6 v1 (by simp), h6 v2 (by simp), h6 v3 (by simp)⟩

end Go.Proofs.Ytdgalehipgdhiaa
