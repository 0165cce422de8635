/- slices.Clone on loans; lending: the plain law. -/
import Derived.Test.YtomfmphbnngdnaaN1
import Derived.Test.YtomfmphbnngdnaaKit4
import Derived.Test.YtomfmphbnngdnaaFInt
import Derived.Lib.Hide
namespace Go.Proofs.Ytomfmphbnngdnaa
open Go.RowKit
set_option linter.unusedVariables false
set_option linter.unusedSimpArgs false

theorem encLn_one : ∀ x, ∀ u ∈ encLn x, u.oneCell' = true := by
  intro x u hu
  simp [encLn] at hu
  rcases hu with rfl | rfl | rfl | rfl | rfl <;> rfl

set_option maxRecDepth 100000 in
theorem CloneLoan_any (a : Addr) (n c : Nat) (zs : List Ln) (w : World) (hz : zs.length = n) (hn : n ≤ 1048576) (hr : Rd encLn 5 w.heap.size w (some a) zs) :
    Calls Try.prog 44 #[.slice (some a) n c] w fun e w' => ∃ v, e = .returned v ∧ w'.ownsRow w.heap.size 48 5 v n (zs.flatMap encLn) ∧ Below w.heap.size w w' := by
  obtain ⟨i0, hi, hz0, hz1, hz2⟩ := info_parts infoLn
  have HZ := hide hz
  obtain ⟨W, hW⟩ : ∃ W, W = w.alloc (.cells #[] 48) := ⟨_, rfl⟩
  have HBW : Hid (Below w.heap.size w W) := hide (by rw [hW]; exact (Below.refl _ _).alloc (Nat.le_refl _) _)
  have HE : Hid (W.ownsRow w.heap.size 48 5 (.slice (some ⟨w.heap.size, 0, none⟩) 0 0) 0 []) := hide (by rw [hW]; exact World.ownsRow_made w #[] 0 (Nat.le_refl _) (by simp [maxLen]) rfl)
  have HF := hide (rd_flat encLn_len (rd_step hr HBW.out))
  have hWs : w.heap.size ≤ W.heap.size := HBW.out.size
  have HW := hide hW
  have hnil := @Lib.run_eql_slice_nil Try.prog
  clear hz hr hW
  go_enter Try.func44, Try.ntmps44
  go_wp2_with (at_builtin; rw [← HW.out]; refine wpList_append_own _ rfl _ _ 26 rfl w.heap.size 48 i0 (.agg #[.int .i64 0, .int .i64 0, .int .i64 0, .int .i64 0, .int .i64 0]) 5 40 Try.underlying26 hi hz0 hz1 hz2 rfl (by decide) _ 0 [] rfl HE.out a n c (zs.flatMap encLn) rfl ?c0 ?c1 ?c2 ?c3 ?c4 ?c5 ?_)
  case c0 => rw [flat_len encLn_len, HZ.out]
  case c1 => exact HF.out
  case c2 => exact flat_one encLn_one zs
  case c3 => unfold maxLen; omega
  case c4 => omega
  case c5 => exact hWs
  intro v' w3 hown' hgrow _
  have HB3 := hide (bl_grown HBW.out HE.out (Nat.le_refl _) hgrow)
  have HO3 : Hid (w3.ownsRow w.heap.size 48 5 v' n (zs.flatMap encLn)) := hide (by first | exact hown' | (rw [Nat.zero_add, List.nil_append] at hown'; exact hown'))
  clear hown' hgrow
  go_wp2
  go_ret
  exact ⟨_, rfl, HO3.out, HB3.out⟩

def lendX (s r d k : Int) : Ln := ⟨s, r, d, wrap64 (d + k), -1⟩
def okLend (zs : List Ln) (s r d k : Int) : Bool := loansB zs && inB k 1 60 && loansB (zs ++ [lendX s r d k])
def lendV (zs : List Ln) (s r d k : Int) : List Ln := if okLend zs s r d k then zs ++ [lendX s r d k] else []
theorem lend_len {zs : List Ln} {s r d k : Int} : (lendV zs s r d k).length ≤ 15 := by
  unfold lendV
  split
  · rename_i h
    unfold okLend at h; simp only [Bool.and_eq_true] at h
    exact loans_15 h.2
  · simp
theorem lend_day {zs : List Ln} {s r d k : Int} (h : inB d 0 4000 = false) : okLend zs s r d k = false := by
  rw [Bool.eq_false_iff]; intro h2
  unfold okLend at h2; simp only [Bool.and_eq_true] at h2
  have := okLn_bd (loans_at h2.2 (k := zs.length) (x := lendX s r d k) (by simp))
  rw [Bool.eq_false_iff] at h
  exact h (inB_iff.2 this.2.2.1)
theorem ret_vb {u : Value} {c d : Bool} (h2 : c = d) : Ending.returned (.tuple #[u, .bool c]) = .returned (.tuple #[u, .bool d]) := by rw [h2]
theorem own_base {w : World} {b b2 n k : Nat} {e : TypeId} {v : Value} {xs : List Value} (ho : w.ownsRow b e k v n xs) (h : b2 ≤ b) : w.ownsRow b2 e k v n xs := ⟨ho.1, ho.2.imp id (fun ⟨g, cap, cur, h1, h2, r⟩ => ⟨g, cap, cur, h1, Nat.le_trans h h2, r⟩)⟩

end Go.Proofs.Ytomfmphbnngdnaa
