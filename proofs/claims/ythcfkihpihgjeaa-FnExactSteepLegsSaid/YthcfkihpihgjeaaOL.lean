/- The argument of IsLand opened. -/
import Derived.Test.YthcfkihpihgjeaaPK2
import Derived.Test.YthcfkihpihgjeaaFIntA4
namespace Go.Proofs.Ythcfkihpihgjeaa
open Go.ChangeShapes Go.WideShapes Go.ChangeAt Go.RowKit

theorem open_Ar4 {H : Type} {enc : TypeId × Value → H} {w : World} {a : Option Addr} {len cap : Nat} {d : DataW H} {ps : List MemPlace} (h : DataW.Trod enc Try.prog w 0 (fun _ => true) true 28 (.slice a len cap) d ps) :
    ∃ zs : List Ar4, zs.length = len ∧ len ≤ maxLen ∧ Rd encAr4 4 w.heap.size w a zs := by
  obtain ⟨zs, h1, h2, h3, h4⟩ := open_arrs (ti := 3) Try.underlying28 Try.underlying69 Try.underlying3 (by kernel_rfl) (by kernel_rfl) (by decide) h
  exact ⟨zs.map mkAr4, by simp [h1], h2, h4.conv mkAr4 mkAr4_enc (fun l hl => (h3 l hl).1)⟩

end Go.Proofs.Ythcfkihpihgjeaa
