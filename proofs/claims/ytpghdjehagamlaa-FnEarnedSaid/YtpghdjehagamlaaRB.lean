/- slices.Clone on rights; ExtendRight: the plain law. -/
import Derived.Test.YtpghdjehagamlaaKit4
import Derived.Test.YtpghdjehagamlaaR9
import Derived.Test.YtpghdjehagamlaaRA
import Derived.Test.YtpghdjehagamlaaOwn
import Derived.Lib.Hide
namespace Go.Proofs.Ytpghdjehagamlaa
open Go.RowKit
set_option linter.unusedVariables false
set_option linter.unusedSimpArgs false

theorem encRt_one : ∀ x, ∀ u ∈ encRt x, u.oneCell' = true := by
  intro x u hu
  simp [encRt] at hu
  rcases hu with rfl | rfl | rfl | rfl <;> rfl

set_option maxRecDepth 100000 in
theorem CloneRight_any (a : Addr) (n c : Nat) (zs : List Rt) (w : World) (hz : zs.length = n) (hn : n ≤ 1048576) (hr : Rd encRt 4 w.heap.size w (some a) zs) :
    Calls Try.prog 88 #[.slice (some a) n c] w fun e w' => ∃ v, e = .returned v ∧ w'.ownsRow w.heap.size 72 4 v n (zs.flatMap encRt) ∧ Below w.heap.size w w' := by
  obtain ⟨i0, hi, hz0, hz1, hz2⟩ := info_parts infoRt
  have HZ := hide hz
  obtain ⟨W, hW⟩ : ∃ W, W = w.alloc (.cells #[] 72) := ⟨_, rfl⟩
  have HBW : Hid (Below w.heap.size w W) := hide (by rw [hW]; exact (Below.refl _ _).alloc (Nat.le_refl _) _)
  have HE : Hid (W.ownsRow w.heap.size 72 4 (.slice (some ⟨w.heap.size, 0, none⟩) 0 0) 0 []) := hide (by rw [hW]; exact World.ownsRow_made w #[] 0 (Nat.le_refl _) (by simp [maxLen]) rfl)
  have HF := hide (rd_flat encRt_len (rd_step hr HBW.out))
  have hWs : w.heap.size ≤ W.heap.size := HBW.out.size
  have HW := hide hW
  have hnil := @Lib.run_eql_slice_nil Try.prog
  clear hz hr hW
  go_enter Try.func88, Try.ntmps88
  go_wp2_with (at_builtin; rw [← HW.out]; refine wpList_append_own _ rfl _ _ 31 rfl w.heap.size 72 i0 (.agg #[.int .i64 0, .int .i64 0, .int .i64 0, .int .i64 0]) 4 32 Try.underlying31 hi hz0 hz1 hz2 rfl (by decide) _ 0 [] rfl HE.out a n c (zs.flatMap encRt) rfl ?c0 ?c1 ?c2 ?c3 ?c4 ?c5 ?_)
  case c0 => rw [flat_len encRt_len, HZ.out]
  case c1 => exact HF.out
  case c2 => exact flat_one encRt_one zs
  case c3 => unfold maxLen; omega
  case c4 => omega
  case c5 => exact hWs
  intro v' w3 hown' hgrow _
  have HB3 := hide (bl_grown HBW.out HE.out (Nat.le_refl _) hgrow)
  have HO3 : Hid (w3.ownsRow w.heap.size 72 4 v' n (zs.flatMap encRt)) := hide (by first | exact hown' | (rw [Nat.zero_add, List.nil_append] at hown'; exact hown'))
  clear hown' hgrow
  go_wp2
  go_ret
  exact ⟨_, rfl, HO3.out, HB3.out⟩

def rtI (rz : List Rt) (s : Int) : Int := idxB (isS s) rz
theorem rt_cases (rz : List Rt) (s : Int) : (rtI rz s = -1) ∨ ∃ k r, k < rz.length ∧ rz[k]? = some r ∧ rtI rz s = (k : Int) := by
  unfold rtI
  rcases idx_cases (isS s) rz with ⟨h1, _, _⟩ | ⟨k, x, hk, hx, hp, h1, _, _⟩
  · exact .inl h1
  · exact .inr ⟨k, x, hk, hx, h1⟩
def extX (r : Rt) (y : Int) : Rt := ⟨r.s, y, r.h, r.f⟩
def extL (rz : List Rt) (s y : Int) : List Rt := rz.set (rtI rz s).toNat (extX rz[(rtI rz s).toNat]! y)
def okExt (rz : List Rt) (zs : List Cp) (s y : Int) : Bool := lawful rz zs && decide (0 ≤ rtI rz s) && decide (rz[(rtI rz s).toNat]!.e < y) && lawful (extL rz s y) zs
def extV (rz : List Rt) (zs : List Cp) (s y : Int) : List Rt := if okExt rz zs s y then extL rz s y else []
theorem ext_len {rz : List Rt} {zs : List Cp} {s y : Int} : (extV rz zs s y).length ≤ rz.length := by unfold extV; split <;> simp [extL]
theorem extL_at {rz : List Rt} {s y : Int} {k : Nat} {r : Rt} (h : rtI rz s = (k : Int)) (hx : rz[k]? = some r) : extL rz s y = rz.set k (extX r y) := by unfold extL; rw [h, Int.toNat_natCast, getB hx]
theorem ext_at {rz : List Rt} {zs : List Cp} {s y : Int} {k : Nat} {r : Rt} (h : rtI rz s = (k : Int)) (hx : rz[k]? = some r) (h1 : lawful rz zs = true) (hf : r.e < y) : okExt rz zs s y = lawful (rz.set k (extX r y)) zs := by
  unfold okExt; rw [extL_at h hx, h, Int.toNat_natCast, getB hx, h1]; simp [hf]
theorem ext_no {rz : List Rt} {zs : List Cp} {s y : Int} {k : Nat} {r : Rt} (h : rtI rz s = (k : Int)) (hx : rz[k]? = some r) (hf : ¬ r.e < y) : okExt rz zs s y = false := by
  have h9 : decide (r.e < y) = false := by simp; omega
  unfold okExt; rw [h, Int.toNat_natCast, getB hx, h9]; simp
theorem ext_day {rz : List Rt} {zs : List Cp} {s y : Int} (h : inB y 0 4000 = false) : okExt rz zs s y = false := by
  rw [Bool.eq_false_iff]; intro h2
  have h3 := h2
  unfold okExt at h2; simp only [Bool.and_eq_true, decide_eq_true_eq] at h2
  rcases rt_cases rz s with hi | ⟨k, r, hk, hx, hi⟩
  · omega
  · have hl := h2.2
    rw [extL_at hi hx] at hl
    unfold lawful at hl; simp only [Bool.and_eq_true] at hl
    have ha := hl.1.1.1
    unfold areR at ha; simp only [Bool.and_eq_true] at ha
    have := allB_at ha.1 k (by rw [List.length_set]; exact hk)
    unfold stepR at this
    have hg : (rz.set k (extX r y))[k]! = extX r y := getB (by rw [List.getElem?_set_self hk])
    rw [hg] at this; simp only [Bool.and_eq_true] at this
    have := this.1
    unfold okRt at this; simp only [Bool.and_eq_true] at this
    have := this.1.1.2
    simp only [extX] at this
    rw [h] at this; cases this
theorem own_baseX {w : World} {b b2 n k : Nat} {e : TypeId} {v : Value} {xs : List Value} (ho : w.ownsRow b e k v n xs) (h : b2 ≤ b) : w.ownsRow b2 e k v n xs := ⟨ho.1, ho.2.imp id (fun ⟨g, cap, cur, h1, h2, r⟩ => ⟨g, cap, cur, h1, Nat.le_trans h h2, r⟩)⟩
theorem lawful_10 {rz : List Rt} {zs : List Cp} (h : lawful rz zs = true) : rz.length ≤ 10 := by
  unfold lawful areR at h; simp only [Bool.and_eq_true, decide_eq_true_eq] at h; exact h.1.1.1.2

end Go.Proofs.Ytpghdjehagamlaa
