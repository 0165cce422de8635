/- The snake. -/
import Derived.Test.YtdgalehipgdhiaaDoorA7
import Derived.Test.YtdgalehipgdhiaaDoorOwn
import Derived.Test.YtdgalehipgdhiaaDoorD1
namespace Go.Proofs.YtdgalehipgdhiaaDoor
open Go.RowKit
set_option linter.unusedVariables false
set_option linter.unusedSimpArgs false
def snX (a b C l : Int) (r k : Nat) : Pg := ⟨0, a + r, b + (if r % 2 = 1 then C - 1 - k else k), l⟩
def snR (a b C l : Int) (r k : Nat) : List Pg := (List.range k).map (snX a b C l r)
def snA (a b C l : Int) (c : Nat) (r : Nat) : List Pg := (List.range r).flatMap fun i => snR a b C l i c
theorem snR_succ (a b C l : Int) (r k : Nat) : snR a b C l r (k + 1) = snR a b C l r k ++ [snX a b C l r k] := by simp [snR, List.range_succ]
theorem snR_len (a b C l : Int) (r k : Nat) : (snR a b C l r k).length = k := by simp [snR]
theorem snA_succ (a b C l : Int) (c r : Nat) : snA a b C l c (r + 1) = snA a b C l c r ++ snR a b C l r c := by simp [snA, List.range_succ]
theorem snA_len (a b C l : Int) (c : Nat) : ∀ r, (snA a b C l c r).length = r * c
  | 0 => by simp [snA]
  | r + 1 => by rw [snA_succ, List.length_append, snA_len a b C l c r, snR_len, Nat.succ_mul]
def okSn0 (a b R C : Int) : Bool := inB a 0 99 && inB b 0 99 && inB R 1 4 && inB C 1 4
def snL (a b R C l : Int) : List Pg := numL (snA a b C l C.toNat R.toNat)
def okSn (a b R C l : Int) : Bool := okSn0 a b R C && atlasB (snL a b R C l)
def snV (a b R C l : Int) : List Pg := if okSn a b R C l then snL a b R C l else []
theorem sn_len {a b R C l : Int} : (snV a b R C l).length ≤ 12 := by
  unfold snV
  split
  · rename_i h
    unfold okSn at h; simp only [Bool.and_eq_true] at h
    have := h.2
    unfold atlasB at this; simp only [Bool.and_eq_true, decide_eq_true_eq] at this
    exact this.2
  · simp

end Go.Proofs.YtdgalehipgdhiaaDoor
