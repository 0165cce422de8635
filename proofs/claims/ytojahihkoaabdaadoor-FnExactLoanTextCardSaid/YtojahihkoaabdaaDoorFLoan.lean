/- The functions on Loan of the laws: contracts. -/
import Derived.Test.YtojahihkoaabdaaDoorKit
import Derived.Test.YtojahihkoaabdaaDoorChecked
import Derived.StillTailTactics
import Derived.Deep.RegionHeld3
namespace Go.Proofs.YtojahihkoaabdaaDoor
open Go.RowKit
structure Ln where
  s : Int
  r : Int
  o : Int
  d : Int
  b : Int
instance : Inhabited Ln := ⟨⟨0, 0, 0, 0, 0⟩⟩
def encLn (x : Ln) : List Value := [.int .i64 x.s, .int .i64 x.r, .int .i64 x.o, .int .i64 x.d, .int .i64 x.b]
theorem encLn_len : ∀ x, (encLn x).length = 5 := fun _ => rfl
def mkLn (l : List Int) : Ln := ⟨l.getD 0 0, l.getD 1 0, l.getD 2 0, l.getD 3 0, l.getD 4 0⟩
theorem mkLn_enc (l : List Int) (h : l.length = 5) : encLn (mkLn l) = l.map (Value.int .i64) := by
  match l, h with
  | [a, b, c, d, e], _ => rfl
/-- element j of a slice that reads as zs: its cells, in every later world -/
theorem rdLn {w : World} {ao : Option Addr} {zs : List Ln} (h : Rd encLn 5 w.heap.size w ao zs) (hn : 0 < zs.length) :
    ∃ b off, ao = some ⟨b, off, none⟩ ∧ b < w.heap.size ∧ ∀ j, j < zs.length → ∃ x, zs[j]? = some x ∧ ∀ wr, Below w.heap.size w wr → b < wr.heap.size ∧ wr.cell? ⟨b, off + j * 5, none⟩ = some (.int .i64 x.s) ∧ wr.cell? ⟨b, off + j * 5 + 1, none⟩ = some (.int .i64 x.r) ∧ wr.cell? ⟨b, off + j * 5 + 2, none⟩ = some (.int .i64 x.o) ∧ wr.cell? ⟨b, off + j * 5 + 3, none⟩ = some (.int .i64 x.d) ∧ wr.cell? ⟨b, off + j * 5 + 4, none⟩ = some (.int .i64 x.b) := by
  obtain ⟨b, off, rfl, h1, h2, hc⟩ := h.at_ hn
  refine ⟨b, off, rfl, h1, fun j hj => ⟨zs[j], List.getElem?_eq_getElem hj, fun wr hb => ?_⟩⟩
  have hx := List.getElem?_eq_getElem hj
  exact ⟨Nat.lt_of_lt_of_le h2 hb.size, (hb.cell (p := ⟨b, _, none⟩) h1).trans (hc j _ hx 0 _ rfl), (hb.cell (p := ⟨b, _, none⟩) h1).trans (hc j _ hx 1 _ rfl), (hb.cell (p := ⟨b, _, none⟩) h1).trans (hc j _ hx 2 _ rfl), (hb.cell (p := ⟨b, _, none⟩) h1).trans (hc j _ hx 3 _ rfl), (hb.cell (p := ⟨b, _, none⟩) h1).trans (hc j _ hx 4 _ rfl)⟩

theorem toLoan_any (x : Ln) (w : World) : Calls Tryd.prog 5 #[.agg #[.int .i64 x.s, .int .i64 x.r, .int .i64 x.o, .int .i64 x.d, .int .i64 x.b]] w fun e w' => e = .returned (.agg #[.int .i64 x.s, .int .i64 x.r, .int .i64 x.o, .int .i64 x.d, .int .i64 x.b]) ∧ Below w.heap.size w w' := by
  go_enter Tryd.func5, Tryd.ntmps5
  go_wp2
  refine bodyPost_ret (v := .agg #[.int .i64 x.s, .int .i64 x.r, .int .i64 x.o, .int .i64 x.d, .int .i64 x.b]) (by simp [results, Tryd.results5, go_sem]) rfl ⟨rfl, ?_⟩
  exact (((Below.refl _ _).alloc (Nat.le_refl _) _).alloc (by simp) _).alloc (by simp; omega) _
theorem infoLn : (Tryd.prog.info? 26).map (fun i => (i.zero, i.size, i.bytes)) = some (some (.agg #[.int .i64 0, .int .i64 0, .int .i64 0, .int .i64 0, .int .i64 0]), 5, 40) := by kernel_rfl

end Go.Proofs.YtojahihkoaabdaaDoor
