/- FewestCovers, CheapestCovers: what they answer. -/
import Derived.Test.YtpdfbijfklmonaaM21
namespace Go.Proofs.Ytpdfbijfklmonaa
open Go.RowKit
set_option linter.unusedVariables false
set_option linter.unusedSimpArgs false

def okFew (a b : Int) (zs : List Cv) : Bool := wallB a b zs && (cntX zs b.toNat a.toNat == 0)
def fewV (a b : Int) (zs : List Cv) : List Int := if okFew a b zs then (bestS false a.toNat b.toNat zs (2 ^ zs.length)).map Cv.i else []
def cheV (a b : Int) (zs : List Cv) : List Int := if okFew a b zs then (bestS true a.toNat b.toNat zs (2 ^ zs.length)).map Cv.i else []
def cheP (a b : Int) (zs : List Cv) : Int := if okFew a b zs then sumP (bestS true a.toNat b.toNat zs (2 ^ zs.length)) else 0
theorem bestS_sub (pr : Bool) (wd hg : Nat) (zs : List Cv) : ∀ s, ∃ t, bestS pr wd hg zs s = subs t zs
  | 0 => ⟨_, rfl⟩
  | s + 1 => by
    simp only [bestS]
    split
    · exact ⟨s, rfl⟩
    · exact bestS_sub pr wd hg zs s
theorem bestS_len (pr : Bool) (wd hg : Nat) (zs : List Cv) (s : Nat) : (bestS pr wd hg zs s).length ≤ zs.length := by
  obtain ⟨t, ht⟩ := bestS_sub pr wd hg zs s
  rw [ht]; exact sel_len _ _ _
theorem few_len {a b : Int} {zs : List Cv} : (fewV a b zs).length ≤ zs.length := by unfold fewV; split; rw [List.length_map]; exact bestS_len _ _ _ _ _; exact Nat.zero_le _
theorem che_len {a b : Int} {zs : List Cv} : (cheV a b zs).length ≤ zs.length := by unfold cheV; split; rw [List.length_map]; exact bestS_len _ _ _ _ _; exact Nat.zero_le _
theorem ret_vb' {u : Value} {c d : Bool} (h2 : c = d) : Ending.returned (.tuple #[u, .bool c]) = .returned (.tuple #[u, .bool d]) := by rw [h2]
theorem ret_vib' {u : Value} {a b : Int} {c d : Bool} (h1 : a = b) (h2 : c = d) : Ending.returned (.tuple #[u, .int .i64 a, .bool c]) = .returned (.tuple #[u, .int .i64 b, .bool d]) := by rw [h1, h2]

end Go.Proofs.Ytpdfbijfklmonaa
