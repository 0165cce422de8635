/- SeenOn: the program. -/
import Derived.Test.YtdgalehipgdhiaaDoorA6
namespace Go.Proofs.YtdgalehipgdhiaaDoor
open Go.RowKit
set_option linter.unusedVariables false
set_option linter.unusedSimpArgs false

theorem atlas_l {zs : List Pg} (h : atlasB zs = true) {k : Nat} {x : Pg} (hx : zs[k]? = some x) : 0 ≤ x.l ∧ x.l ≤ 40 := by
  unfold atlasB at h; simp only [Bool.and_eq_true] at h
  have := allB_at h.1 k (List.getElem?_eq_some_iff.1 hx).1
  unfold stepPg okPg at this; rw [getB hx] at this; simp only [Bool.and_eq_true] at this
  exact inB_iff.1 this.1.2
def seenB (a b : Int) (x : Pg) : Bool := inB a (100 * x.c - x.l) (100 * x.c + 100 + x.l) && inB b (100 * x.r - x.l) (100 * x.r + 100 + x.l)
theorem seen_c (a c l : Int) : inB (a - 100 * c) (-l) (100 + l) = inB a (100 * c - l) (100 * c + 100 + l) := by
  rw [Bool.eq_iff_iff, inB_iff, inB_iff]; omega
def okSeen (zs : List Pg) (a b : Int) : Bool := atlasB zs && inB a 0 10000 && inB b 0 10000
def seenV (zs : List Pg) (a b : Int) : List Int := if okSeen zs a b then gather Pg.n (seenB a b) zs else []
theorem seen_len {zs : List Pg} {a b : Int} : (seenV zs a b).length ≤ zs.length := by unfold seenV; split <;> first | exact gather_len | exact Nat.zero_le _
theorem ret_vb {u : Value} {c d : Bool} (h2 : c = d) : Ending.returned (.tuple #[u, .bool c]) = .returned (.tuple #[u, .bool d]) := by rw [h2]

end Go.Proofs.YtdgalehipgdhiaaDoor
