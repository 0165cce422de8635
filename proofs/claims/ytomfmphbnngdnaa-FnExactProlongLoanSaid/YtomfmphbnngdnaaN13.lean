/- Prolonging: the plain law; isLate. -/
import Derived.Test.YtomfmphbnngdnaaN10
import Derived.Test.YtomfmphbnngdnaaN4
namespace Go.Proofs.Ytomfmphbnngdnaa
open Go.RowKit
set_option linter.unusedVariables false
set_option linter.unusedSimpArgs false

def lateB (x : Ln) (d : Int) : Bool := openB x d && decide (x.d < d)
def proX (x : Ln) (m : Int) : Ln := ⟨x.s, x.r, x.o, x.d + m, x.b⟩
def proL (zs : List Ln) (s m : Int) : List Ln := zs.set (lentI zs s).toNat (proX zs[(lentI zs s).toNat]! m)
def fitB (x : Ln) (d : Int) : Bool := decide (d ≤ x.d) && decide (x.o ≤ d)
def okPro (zs : List Ln) (s d m : Int) : Bool := loansB zs && decide (0 ≤ lentI zs s) && inB d 0 4000 && inB m 1 60 && fitB zs[(lentI zs s).toNat]! d && loansB (proL zs s m)
def proV (zs : List Ln) (s d m : Int) : List Ln := if okPro zs s d m then proL zs s m else []
theorem pro_len {zs : List Ln} {s d m : Int} : (proV zs s d m).length ≤ zs.length := by unfold proV; split <;> simp [proL]
theorem proL_at {zs : List Ln} {s m : Int} {k : Nat} {x : Ln} (h : lentI zs s = (k : Int)) (hx : zs[k]? = some x) : proL zs s m = zs.set k (proX x m) := by unfold proL; rw [h, Int.toNat_natCast, getB hx]
theorem pro_fit {zs : List Ln} {s d m : Int} {k : Nat} {x : Ln} (h : lentI zs s = (k : Int)) (hx : zs[k]? = some x) (hf : fitB x d = false) : okPro zs s d m = false := by unfold okPro; rw [h, Int.toNat_natCast, getB hx, hf]; simp
theorem pro_at {zs : List Ln} {s d m : Int} {k : Nat} {x : Ln} (h : lentI zs s = (k : Int)) (hx : zs[k]? = some x) (h1 : loansB zs = true) (h2 : inB d 0 4000 = true) (h3 : inB m 1 60 = true) (hf : fitB x d = true) : okPro zs s d m = loansB (zs.set k (proX x m)) := by
  unfold okPro; rw [proL_at h hx, h, Int.toNat_natCast, getB hx, hf, h1, h2, h3]; simp
theorem isLate_any (x : Ln) (d : Int) (w : World) : Calls Try.prog 47 #[.agg #[.int .i64 x.s, .int .i64 x.r, .int .i64 x.o, .int .i64 x.d, .int .i64 x.b], .int .i64 d] w fun e w' => e = .returned (.bool (lateB x d)) ∧ Below w.heap.size w w' := by
  have H : openB x d = false ∨ (openB x d = true ∧ ¬ x.d < d) ∨ (openB x d = true ∧ x.d < d) := by
    cases openB x d
    · exact .inl rfl
    · by_cases h : x.d < d
      · exact .inr (.inr ⟨rfl, h⟩)
      · exact .inr (.inl ⟨rfl, h⟩)
  obtain ⟨W, hW⟩ : ∃ W, W = w.alloc (.cells #[.int .i64 x.s, .int .i64 x.r, .int .i64 x.o, .int .i64 x.d, .int .i64 x.b] 48) := ⟨_, rfl⟩
  have hb0 : Below w.heap.size w W := by rw [hW]; exact (Below.refl _ _).alloc (Nat.le_refl _) _
  have hs : w.heap.size < W.heap.size := by rw [hW]; simp
  have e3 : W.cell? ⟨w.heap.size, 3, none⟩ = some (.int .i64 x.d) := by rw [hW]; simp
  have HB0 := hide hb0
  have HW := hide hW
  have HE3 := hide e3
  clear hW hb0 e3
  rcases H with h1 | ⟨h1, h2⟩ | ⟨h1, h2⟩
  all_goals
    have HO := hide (show lateB x d = _ from (by unfold lateB; simp [*]; rfl))
    have H1 := hide h1
    clear h1
    go_enter Try.func47, Try.ntmps47
    go_wp2_with fail
    rw [← HW.out]
    refine (isOpen_any x d _).mono ?_
    rintro e w1 ⟨rfl, hb⟩
    rw [H1.out]
    have g3 : w1.cell? ⟨w.heap.size, 3, none⟩ = some (.int .i64 x.d) := (hb.cell (p := ⟨w.heap.size, 3, none⟩) hs).trans HE3.out
    have HB1 := hide (bl_step HB0.out hb)
    clear hb
    go_wp2
    go_ret
    exact ⟨by first | exact ret_bool HO.out.symm | exact ret_bool (by rw [HO.out]; simp <;> omega), HB1.out⟩

end Go.Proofs.Ytomfmphbnngdnaa
