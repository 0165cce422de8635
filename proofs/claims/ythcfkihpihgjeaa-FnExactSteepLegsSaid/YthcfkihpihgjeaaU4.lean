/- SteepLegs: the plain law. -/
import Derived.Test.YthcfkihpihgjeaaU1
import Derived.Test.YthcfkihpihgjeaaT1
import Derived.Test.YthcfkihpihgjeaaFInt
namespace Go.Proofs.Ythcfkihpihgjeaa
open Go.RowKit
set_option linter.unusedVariables false
set_option linter.unusedSimpArgs false

def stp (st : Int) (x : Lg) : Bool := decide (st * x.u < (x.c.natAbs : Int))
def stpP (st : Int) (ls : List Lg) (k : Nat) : Bool := stp st ls[k]!
def stpL (p : Nat → Bool) : Nat → List Int
  | 0 => []
  | k + 1 => if p k then stpL p k ++ [(k : Int)] else stpL p k
theorem stpL_len {p : Nat → Bool} : ∀ {k}, (stpL p k).length ≤ k
  | 0 => Nat.le_refl _
  | k + 1 => by
    have := stpL_len (p := p) (k := k)
    unfold stpL
    split <;> simp <;> omega
theorem stpL_yes {p : Nat → Bool} {k : Nat} (h : p k = true) : stpL p (k + 1) = stpL p k ++ [(k : Int)] := by show (if p k then _ else _) = _; rw [h]; rfl
theorem stpL_no {p : Nat → Bool} {k : Nat} (h : p k = false) : stpL p (k + 1) = stpL p k := by show (if p k then _ else _) = _; rw [h]; rfl
def okSt (wd hg st : Int) (zs : List Ar4) (ls : List Lg) : Bool := landB wd hg st zs && routeB ls
def stpV (wd hg st : Int) (zs : List Ar4) (ls : List Lg) : List Int := if okSt wd hg st zs ls then stpL (stpP st ls) ls.length else []
theorem stpV_len {wd hg st : Int} {zs : List Ar4} {ls : List Lg} : (stpV wd hg st zs ls).length ≤ ls.length := by unfold stpV; split <;> first | exact stpL_len | exact Nat.zero_le _
theorem own_baseS {w : World} {b n k : Nat} {e : TypeId} {v : Value} {xs : List Value} (ho : w.ownsRow (b + 1) e k v n xs) : w.ownsRow b e k v n xs := ⟨ho.1, ho.2.imp id (fun ⟨g, cap, cur, h1, h2, r⟩ => ⟨g, cap, cur, h1, Nat.le_of_succ_le h2, r⟩)⟩
theorem land_st {wd hg st : Int} {zs : List Ar4} (h : landB wd hg st zs = true) : 1 ≤ st ∧ st ≤ 100 := by
  unfold landB at h; simp only [Bool.and_eq_true] at h; exact inB_iff.1 h.2

end Go.Proofs.Ythcfkihpihgjeaa
