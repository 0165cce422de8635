/- The comparisons of FnAtlas and FnOrders. -/
import Derived.Test.YtdgalehipgdhiaaDoorFPage
import Derived.Test.YtdgalehipgdhiaaDoorFInt
import Derived.Test.YtdgalehipgdhiaaDoorOwn
namespace Go.Proofs.YtdgalehipgdhiaaDoor
open Go.RowKit
set_option linter.unusedVariables false
set_option linter.unusedSimpArgs false

theorem rBig_any (ao : Option Addr) (n c : Nat) (w : World) (hn : n ≤ 9223372036854775807) : Calls Tryd.prog 5 #[.slice ao n c] w fun e w' => e = .returned (.bool (decide (65536 < n))) ∧ w = w' := by
  by_cases h : 65536 < n
  · have h2 : (65536 : Int) < (n : Int) := by omega
    have h3 := hide h
    clear h
    go_enter Tryd.func5, Tryd.ntmps5
    go_wp2
    go_ret
    exact ⟨ret_bool (by rw [eq_comm, decide_eq_true_eq]; exact h3.out), rfl⟩
  · have h2 : ¬ (65536 : Int) < (n : Int) := by omega
    have h3 := hide h
    clear h
    go_enter Tryd.func5, Tryd.ntmps5
    go_wp2
    go_ret
    exact ⟨ret_bool (by rw [eq_comm, decide_eq_false_iff_not]; exact h3.out), rfl⟩

set_option maxRecDepth 100000 in
theorem rPages_same (ao bo : Option Addr) (n c d : Nat) (zs : List Pg) (w : World) (hz : zs.length = n) (hn : n ≤ 1048576) (hr : Rd encPg 4 w.heap.size w ao zs) (hr2 : Rd encPg 4 w.heap.size w bo zs) :
    Calls Tryd.prog 9 #[.slice ao n c, .slice bo n d] w fun e w' => e = .returned (.bool true) ∧ Below w.heap.size w w' := by
  have HZ := hide hz
  have HR := hide hr
  have HR2 := hide hr2
  clear hz hr hr2
  go_enter Tryd.func9, Tryd.ntmps9
  go_wp2
  go_loopg [5] n (fun gk i wr => ∃ k : Nat, k ≤ n ∧ n - k ≤ gk ∧ i = .int .i64 k ∧ Aside (Below w.heap.size w wr))
  case atStart => exact ⟨0, Nat.zero_le _, by omega, rfl, Below.refl _ _⟩
  case round =>
    obtain ⟨k, hk, hgk, rfl, BW⟩ := hrel
    by_cases hlt : k < n
    · have hlti : (k : Int) < (n : Int) := by omega
      have hk0 : (0 : Int) ≤ (k : Int) := by omega
      obtain ⟨b, off, rfl, hb1, hat⟩ := rdPg HR.out (by rw [HZ.out]; omega)
      obtain ⟨x, hx, hxc⟩ := hat k (by rw [HZ.out]; exact hlt)
      obtain ⟨b2, off2, rfl, hb2, hat2⟩ := rdPg HR2.out (by rw [HZ.out]; omega)
      obtain ⟨x2, hx2, hxc2⟩ := hat2 k (by rw [HZ.out]; exact hlt)
      obtain rfl : x = x2 := by rw [hx] at hx2; injection hx2
      obtain ⟨hbr, c0, c1, c2, c3⟩ := hxc wr BW.out
      obtain ⟨hbr2, d0, d1, d2, d3⟩ := hxc2 wr BW.out
      clear hx hxc hat hx2 hxc2 hat2
      go_wp2_with fail
      go_quiet (fail)
      go_wp2
      go_roundg (n - (k + 1))
      case measure => omega
      case rel => exact ⟨k + 1, by omega, by omega, by go_num, below_drewN BW.out _⟩
    · have hge : ¬ (k : Int) < (n : Int) := by omega
      go_wp2
      go_ret
      exact ⟨rfl, BW.out⟩
theorem rPages_own {b1 b2 : Nat} {e : TypeId} (v u : Value) (n : Nat) (zs : List Pg) (w : World) (h1 : w.ownsRow b1 e 4 v n (zs.flatMap encPg)) (h2 : w.ownsRow b2 e 4 u n (zs.flatMap encPg)) (hz : zs.length = n) (hn : n ≤ 1048576) :
    Calls Tryd.prog 9 #[v, u] w fun e w' => e = .returned (.bool true) ∧ Below w.heap.size w w' := by
  obtain ⟨a, c, rfl, _, _, hr⟩ := own_rd encPg_len h1 hz
  obtain ⟨a2, c2, rfl, _, _, hr2⟩ := own_rd encPg_len h2 hz
  exact rPages_same _ _ _ _ _ zs w hz hn hr hr2

set_option maxRecDepth 100000 in
theorem rInts_same (ao bo : Option Addr) (n c d : Nat) (zs : List Int) (w : World) (hz : zs.length = n) (hn : n ≤ 1048576) (hr : Rd encI 1 w.heap.size w ao zs) (hr2 : Rd encI 1 w.heap.size w bo zs) :
    Calls Tryd.prog 17 #[.slice ao n c, .slice bo n d] w fun e w' => e = .returned (.bool true) ∧ Below w.heap.size w w' := by
  have HZ := hide hz
  have HR := hide hr
  have HR2 := hide hr2
  clear hz hr hr2
  go_enter Tryd.func17, Tryd.ntmps17
  go_wp2
  go_loopg [5] n (fun gk i wr => ∃ k : Nat, k ≤ n ∧ n - k ≤ gk ∧ i = .int .i64 k ∧ Aside (Below w.heap.size w wr))
  case atStart => exact ⟨0, Nat.zero_le _, by omega, rfl, Below.refl _ _⟩
  case round =>
    obtain ⟨k, hk, hgk, rfl, BW⟩ := hrel
    by_cases hlt : k < n
    · have hlti : (k : Int) < (n : Int) := by omega
      have hk0 : (0 : Int) ≤ (k : Int) := by omega
      obtain ⟨b, off, rfl, hb1, hat⟩ := rdI HR.out (by rw [HZ.out]; omega)
      obtain ⟨x, hx, hxc⟩ := hat k (by rw [HZ.out]; exact hlt)
      obtain ⟨b2, off2, rfl, hb2, hat2⟩ := rdI HR2.out (by rw [HZ.out]; omega)
      obtain ⟨x2, hx2, hxc2⟩ := hat2 k (by rw [HZ.out]; exact hlt)
      obtain rfl : x = x2 := by rw [hx] at hx2; injection hx2
      obtain ⟨hbr, c0⟩ := hxc wr BW.out
      obtain ⟨hbr2, d0⟩ := hxc2 wr BW.out
      clear hx hxc hat hx2 hxc2 hat2
      go_wp2_with fail
      go_quiet (fail)
      go_wp2
      go_roundg (n - (k + 1))
      case measure => omega
      case rel => exact ⟨k + 1, by omega, by omega, by go_num, below_drewN BW.out _⟩
    · have hge : ¬ (k : Int) < (n : Int) := by omega
      go_wp2
      go_ret
      exact ⟨rfl, BW.out⟩
theorem rInts_own {b1 b2 : Nat} {e : TypeId} (v u : Value) (n : Nat) (zs : List Int) (w : World) (h1 : w.ownsRow b1 e 1 v n (zs.flatMap encI)) (h2 : w.ownsRow b2 e 1 u n (zs.flatMap encI)) (hz : zs.length = n) (hn : n ≤ 1048576) :
    Calls Tryd.prog 17 #[v, u] w fun e w' => e = .returned (.bool true) ∧ Below w.heap.size w w' := by
  obtain ⟨a, c, rfl, _, _, hr⟩ := own_rd encI_len h1 hz
  obtain ⟨a2, c2, rfl, _, _, hr2⟩ := own_rd encI_len h2 hz
  exact rInts_same _ _ _ _ _ zs w hz hn hr hr2

end Go.Proofs.YtdgalehipgdhiaaDoor
