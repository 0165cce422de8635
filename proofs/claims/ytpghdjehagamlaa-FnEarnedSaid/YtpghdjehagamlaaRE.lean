/- CopySheet: the plain law. -/
import Derived.Test.YtpghdjehagamlaaKit4
import Derived.Test.YtpghdjehagamlaaR9
import Derived.Test.YtpghdjehagamlaaRA
import Derived.Test.YtpghdjehagamlaaOwn
import Derived.Lib.Hide
namespace Go.Proofs.Ytpghdjehagamlaa
open Go.RowKit
set_option linter.unusedVariables false
set_option linter.unusedSimpArgs false

theorem encCp_one : ∀ x, ∀ u ∈ encCp x, u.oneCell' = true := by
  intro x u hu
  simp [encCp] at hu
  rcases hu with rfl | rfl | rfl | rfl <;> rfl

set_option maxRecDepth 100000 in
theorem CloneCopying_any (a : Addr) (n c : Nat) (zs : List Cp) (w : World) (hz : zs.length = n) (hn : n ≤ 1048576) (hr : Rd encCp 4 w.heap.size w (some a) zs) :
    Calls Try.prog 54 #[.slice (some a) n c] w fun e w' => ∃ v, e = .returned v ∧ w'.ownsRow w.heap.size 34 4 v n (zs.flatMap encCp) ∧ Below w.heap.size w w' := by
  obtain ⟨i0, hi, hz0, hz1, hz2⟩ := info_parts infoCp
  have HZ := hide hz
  obtain ⟨W, hW⟩ : ∃ W, W = w.alloc (.cells #[] 34) := ⟨_, rfl⟩
  have HBW : Hid (Below w.heap.size w W) := hide (by rw [hW]; exact (Below.refl _ _).alloc (Nat.le_refl _) _)
  have HE : Hid (W.ownsRow w.heap.size 34 4 (.slice (some ⟨w.heap.size, 0, none⟩) 0 0) 0 []) := hide (by rw [hW]; exact World.ownsRow_made w #[] 0 (Nat.le_refl _) (by simp [maxLen]) rfl)
  have HF := hide (rd_flat encCp_len (rd_step hr HBW.out))
  have hWs : w.heap.size ≤ W.heap.size := HBW.out.size
  have HW := hide hW
  have hnil := @Lib.run_eql_slice_nil Try.prog
  clear hz hr hW
  go_enter Try.func54, Try.ntmps54
  go_wp2_with (at_builtin; rw [← HW.out]; refine wpList_append_own _ rfl _ _ 28 rfl w.heap.size 34 i0 (.agg #[.int .i64 0, .int .i64 0, .int .i64 0, .int .i64 0]) 4 32 Try.underlying28 hi hz0 hz1 hz2 rfl (by decide) _ 0 [] rfl HE.out a n c (zs.flatMap encCp) rfl ?c0 ?c1 ?c2 ?c3 ?c4 ?c5 ?_)
  case c0 => rw [flat_len encCp_len, HZ.out]
  case c1 => exact HF.out
  case c2 => exact flat_one encCp_one zs
  case c3 => unfold maxLen; omega
  case c4 => omega
  case c5 => exact hWs
  intro v' w3 hown' hgrow _
  have HB3 := hide (bl_grown HBW.out HE.out (Nat.le_refl _) hgrow)
  have HO3 : Hid (w3.ownsRow w.heap.size 34 4 v' n (zs.flatMap encCp)) := hide (by first | exact hown' | (rw [Nat.zero_add, List.nil_append] at hown'; exact hown'))
  clear hown' hgrow
  go_wp2
  go_ret
  exact ⟨_, rfl, HO3.out, HB3.out⟩

def okCopy (rz : List Rt) (zs : List Cp) (x : Cp) : Bool := lawful rz zs && lawful rz (zs ++ [x])
def cpV (rz : List Rt) (zs : List Cp) (x : Cp) : List Cp := if okCopy rz zs x then zs ++ [x] else []
def cpF (rz : List Rt) (zs : List Cp) (x : Cp) : Int := if okCopy rz zs x then costV rz x else 0
theorem lawful_15 {rz : List Rt} {zs : List Cp} (h : lawful rz zs = true) : zs.length ≤ 15 := by
  unfold lawful at h; simp only [Bool.and_eq_true, decide_eq_true_eq] at h; exact h.1.1.2
theorem cp_len {rz : List Rt} {zs : List Cp} {x : Cp} : (cpV rz zs x).length ≤ 15 := by
  unfold cpV
  split
  · rename_i h
    unfold okCopy at h; simp only [Bool.and_eq_true] at h
    exact lawful_15 h.2
  · simp
theorem ret_vib {u : Value} {a b : Int} {c d : Bool} (h1 : a = b) (h2 : c = d) : Ending.returned (.tuple #[u, .int .i64 a, .bool c]) = .returned (.tuple #[u, .int .i64 b, .bool d]) := by rw [h1, h2]
theorem own_base {w : World} {b b2 n k : Nat} {e : TypeId} {v : Value} {xs : List Value} (ho : w.ownsRow b e k v n xs) (h : b2 ≤ b) : w.ownsRow b2 e k v n xs := ⟨ho.1, ho.2.imp id (fun ⟨g, cap, cur, h1, h2, r⟩ => ⟨g, cap, cur, h1, Nat.le_trans h h2, r⟩)⟩
theorem step_append_own {P : Program} {w : World} {ops : Array Oper} {o : Oper} {a : Act} {K : Act → World → Prop} {Q : Exit → Act → World → Prop} {E : Prop} (hgd : o.guard = none) (s x : Operand) (t : TypeId)
    (ho : o.op = .call { callee := .builtin .append, args := #[s, x], argTypes := #[t, t] })
    (base : Nat) (e : TypeId) (i : TypeInfo) (z : Value) (size bytes : Nat) (ht : P.underlying t = some (.slice e)) (hi : P.info? e = some i) (hz : i.zero = some z)
    (hsize : i.size = size) (hby : i.bytes = bytes) (hzs : z.cells.size = size) (hsz : 0 < size)
    (v : Value) (n : Nat) (xs : List Value) (hs : a.eval s = v) (hown : w.ownsRow base e size v n xs)
    (ad : Addr) (m c : Nat) (news : List Value) (hx : a.eval x = .slice (some ad) m c) (hl : news.length = m * size) (hnews : ∀ j u, news[j]? = some u → w.cell? (ad.add j) = some u) (h1 : ∀ u ∈ news, u.oneCell' = true)
    (h63 : n + m ≤ maxLen) (hbytes : (n + m) * bytes ≤ 140737488355328) (hbase : base ≤ w.heap.size)
    (h : ∀ v' w', w'.ownsRow base e size v' (n + m) (xs ++ news) → w.grownBy w' v.ownBlock → K (a.put o.dst v') w') :
    if Region.wanted o (yielded ops a.tmps) = true then Oper.wp P o a w K Q else E := by
  have hw : Region.wanted o (yielded ops a.tmps) = true := by simp [Region.wanted, hgd]
  rw [if_pos hw]
  exact wp_append_own w s x t ho base e i z size bytes ht hi hz hsize hby hzs hsz v n xs hs hown ad m c news hx hl hnews h1 h63 hbytes hbase fun v' w' h2 h3 _ => h v' w' h2 h3

end Go.Proofs.Ytpghdjehagamlaa
