/- The comparison of BestEarners. -/
import Derived.Test.YtpghdjehagamlaaB2
namespace Go.Proofs.Ytpghdjehagamlaa
open Go.RowKit
set_option linter.unusedVariables false
set_option linter.unusedSimpArgs false

def okBest (rz : List Rt) (zs : List Cp) (q : Int) : Bool := lawful rz zs && inB q 0 10
def bestL (rz : List Rt) (zs : List Cp) : List Int := sortE (earnV rz zs) (rz.map Rt.s)
def bestV (rz : List Rt) (zs : List Cp) (q : Int) : List Int := if okBest rz zs q then (bestL rz zs).take q.toNat else []
theorem best_len {rz : List Rt} {zs : List Cp} {q : Int} : (bestV rz zs q).length ≤ rz.length := by
  unfold bestV; split
  · rw [List.length_take]; unfold bestL; rw [sortE_len, List.length_map]; omega
  · exact Nat.zero_le _
theorem best_10 {rz : List Rt} {zs : List Cp} (h : lawful rz zs = true) : rz.length ≤ 10 := by
  unfold lawful areR at h; simp only [Bool.and_eq_true, decide_eq_true_eq] at h; exact h.1.1.1.2
def cmpE (a b : Int) : Int := if a < b then -1 else if b < a then 1 else 0
theorem cmpE_neg (a b : Int) : cmpE a b < 0 ↔ a < b := by
  unfold cmpE; split
  · simp; assumption
  · split
    · simp; omega
    · simp; omega
theorem cmpE_any (a b : Int) (w : World) : Calls Try.prog 84 #[.int .i64 a, .int .i64 b] w fun e w' => e = .returned (.int .i64 (cmpE a b)) ∧ Below w.heap.size w w' := by
  rcases Int.lt_trichotomy a b with h | h | h
  · have h2 : ¬ b < a := by omega
    have HO := hide (show cmpE a b = -1 from by unfold cmpE; simp [h])
    go_enter Try.func84, Try.ntmps84
    go_wp2_with go_in
    go_ret
    exact ⟨ret_int HO.out.symm, Below.refl _ _⟩
  · subst h
    have h1 : ¬ a < a := by omega
    have HO := hide (show cmpE a a = 0 from by unfold cmpE; simp)
    go_enter Try.func84, Try.ntmps84
    go_wp2_with go_in
    go_ret
    exact ⟨ret_int HO.out.symm, Below.refl _ _⟩
  · have h1 : ¬ a < b := by omega
    have HO := hide (show cmpE a b = 1 from by unfold cmpE; simp [h, h1])
    go_enter Try.func84, Try.ntmps84
    go_wp2_with go_in
    go_ret
    exact ⟨ret_int HO.out.symm, Below.refl _ _⟩
theorem rd_below {α : Type} {enc : α → List Value} {k : Nat} {w w' : World} {ao : Option Addr} {zs : List α} (h : Rd enc k w.heap.size w ao zs) (hb : Below w.heap.size w w') : Rd enc k w'.heap.size w' ao zs := rd_step h hb
set_option maxRecDepth 100000 in
/-- the comparison that BestEarners hands to the sort -/
theorem best1_any (b1 b2 : Nat) (ro : Option Addr) (m d : Nat) (rz : List Rt) (ao : Option Addr) (n c : Nat) (zs : List Cp) (x y : Int) (w : World) (hrz : rz.length = m) (hm : m ≤ 1048576) (hrr : Rd encRt 4 w.heap.size w ro rz) (hz : zs.length = n) (hn : n ≤ 1048576) (hr : Rd encCp 4 w.heap.size w ao zs) (e0 : w.cell? ⟨b1, 0, none⟩ = some (.slice ro m d)) (e1 : w.cell? ⟨b2, 0, none⟩ = some (.slice ao n c)) :
    Calls Try.prog 83 #[.int .i64 x, .int .i64 y, .pointer (some ⟨b1, 0, none⟩), .pointer (some ⟨b2, 0, none⟩)] w fun e w' => e = .returned (.int .i64 (cmpE (earnV rz zs y) (earnV rz zs x))) ∧ Below w.heap.size w w' := by
  have mixed : Try.prog.follows .mixedOrders = true := by kernel_rfl
  have c0 : ∀ d' os, (Go.Sort.grow (redrawn w d') os).cell? ⟨b1, 0, none⟩ = some (.slice ro m d) := cell_regrown e0
  have c1 : ∀ d' os, (Go.Sort.grow (redrawn w d') os).cell? ⟨b2, 0, none⟩ = some (.slice ao n c) := cell_regrown e1
  have h1 := fun (d' : Nat) (os : Array Obj) (s : Int) => earnedBy_any ro m d rz ao n c zs s (Go.Sort.grow (redrawn w d') os) hrz hm (rd_step hrr (below_regrown w d' os)) hz hn (rd_step hr (below_regrown w d' os))
  have h2 := fun (d' : Nat) (os : Array Obj) (a b : Int) => cmpE_any a b (Go.Sort.grow (redrawn w d') os)
  have QS : ∀ (d : Nat) (os : Array Obj), Hid (Below w.heap.size w (Go.Sort.grow (redrawn w d) os)) := fun d os => below_regrown w d os
  clear hrz hrr hz hr e0 e1
  generalize earnV rz zs = E at h1
  go_enter Try.func83, Try.ntmps83
  go_wp2_with fail
  refine wp_region_quiet_below (by assumption) (by kernel_rfl) ?_
  repeat (quiet_step (first | (go_at_call 85; refine Calls.regrown_of (h1 _ _ _)) | (go_at_call 84; refine Calls.regrown_of (h2 _ _ _ _))))
  refine wpQuiet_nil ?_
  intro _ hw'
  obtain ⟨⟨nq, osq⟩, hw''⟩ := hw'
  subst hw''
  have HB := QS nq osq
  clear QS c0 c1 h1 h2
  go_wp2
  go_ret
  exact ⟨rfl, HB.out⟩

end Go.Proofs.Ytpghdjehagamlaa
