/- The index of a right; free: contracts. -/
import Derived.Test.YtpghdjehagamlaaR1
import Derived.Test.YtpghdjehagamlaaFCopying
namespace Go.Proofs.Ytpghdjehagamlaa
open Go.RowKit


set_option maxRecDepth 100000 in
/-- slices.IndexFunc on Right, at a closure that only reads and makes memory of its own -/
theorem IndexFuncRight_any (g : Nat) (lb : Array Value) (p : Rt → Bool) (eg : ∀ args w, (callFunc g args).run Try.prog w = .ok (.enter g args) w) (ao : Option Addr) (n c : Nat) (zs : List Rt) (w : World) (hz : zs.length = n) (hn : n ≤ 1048576) (hr : Rd encRt 4 w.heap.size w ao zs)
    (hp : ∀ (W : World) (x : Rt), Below w.heap.size w W → Calls Try.prog g (#[.agg #[.int .i64 x.s, .int .i64 x.e, .int .i64 x.h, .int .i64 x.f]] ++ lb) W fun e w' => e = .returned (.bool (p x)) ∧ Below W.heap.size W w') :
    Calls Try.prog 92 #[.slice ao n c, .func (.func g) #[] lb] w fun e w' => e = .returned (.int .i64 (idxB p zs)) ∧ Below w.heap.size w w' := by
  have HZ := hide hz
  have HR := hide hr
  have HP := hide hp
  clear hz hr hp
  go_enter Try.func92, Try.ntmps92
  go_wp2
  go_loopg [5, 8] n (fun gk _ i wr => ∃ k : Nat, k ≤ n ∧ n - k ≤ gk ∧ i = .int .i64 k ∧ Aside (Below w.heap.size w wr) ∧ Aside (∀ j, j < k → ∀ y, zs[j]? = some y → p y = false))
  case atStart => exact ⟨0, Nat.zero_le _, by omega, rfl, Below.refl _ w, fun j hj => absurd hj (Nat.not_lt_zero _)⟩
  case round =>
    obtain ⟨k, hk, hg, rfl, BW, A⟩ := hrel
    by_cases hlt : k < n
    · have hltz : (k : Int) < (n : Int) := by omega
      obtain ⟨b, off, rfl, hb1, hat⟩ := rdRt HR.out (by rw [HZ.out]; omega)
      obtain ⟨x, hx, hxc⟩ := hat k (by rw [HZ.out]; exact hlt)
      have HX := hide hx
      obtain ⟨hbr, c0, c1, c2, c3⟩ := hxc wr BW.out
      have hcall := HP.out wr x BW.out
      clear hx hxc hat
      cases hq : p x with
      | true =>
        rw [hq] at hcall
        have HQ := hide hq
        clear hq
        go_wp2_with fail
        refine hcall.mono ?_
        rintro e w' ⟨rfl, hb'⟩
        have HB' := hide hb'
        clear hb'
        go_wp2
        go_ret
        exact ⟨ret_int (idx_hit HX.out HQ.out A.out).1.symm, BW.out.trans (HB'.out.mono BW.out.size)⟩
      | false =>
        rw [hq] at hcall
        have HQ := hide hq
        clear hq
        go_wp2_with fail
        refine hcall.mono ?_
        rintro e w' ⟨rfl, hb'⟩
        have HB' := hide hb'
        clear hb'
        go_wp2
        go_roundg (n - (k + 1))
        case measure => omega
        case rel => exact ⟨k + 1, by omega, by omega, by go_num, BW.out.trans (HB'.out.mono BW.out.size), none_succ A.out HX.out HQ.out⟩
    · have hltz : ¬ (k : Int) < (n : Int) := by omega
      go_wp2
      go_ret
      exact ⟨ret_int (idx_miss fun j y hy => A.out j (by have := (List.getElem?_eq_some_iff.1 hy).1; rw [HZ.out] at this; omega) y hy).1.symm, BW.out⟩

def isS (s : Int) (x : Rt) : Bool := x.s == s
theorem rightOf1_any (B : Nat) (s : Int) (x : Rt) (W : World) (hc : W.cell? ⟨B, 0, none⟩ = some (.int .i64 s)) (hB : B < W.heap.size) :
    Calls Try.prog 93 #[.agg #[.int .i64 x.s, .int .i64 x.e, .int .i64 x.h, .int .i64 x.f], .pointer (some ⟨B, 0, none⟩)] W fun e w' => e = .returned (.bool (isS s x)) ∧ Below W.heap.size W w' := by
  go_enter Try.func93, Try.ntmps93
  go_wp2
  go_ret
  exact ⟨rfl, (Below.refl _ _).alloc (Nat.le_refl _) _⟩
set_option maxRecDepth 100000 in
theorem rightOf_any (ao : Option Addr) (n c : Nat) (zs : List Rt) (s : Int) (w : World) (hz : zs.length = n) (hn : n ≤ 1048576) (hr : Rd encRt 4 w.heap.size w ao zs) :
    Calls Try.prog 69 #[.slice ao n c, .int .i64 s] w fun e w' => e = .returned (.int .i64 (idxB (isS s) zs)) ∧ Below w.heap.size w w' := by
  have eg : ∀ args w, (callFunc 93 args).run Try.prog w = .ok (.enter 93 args) w := enters_at Try.func93 (by kernel_rfl) rfl
  have H := hide (IndexFuncRight_any 93 #[.pointer (some ⟨w.heap.size, 0, none⟩)] (isS s) eg ao n c zs (w.alloc (.cells #[.int .i64 s] 3)) hz hn ((hr.alloc _).mono (by simp)) (fun W x hb => by
    have hB : w.heap.size < W.heap.size := by have := hb.size; simp at this; omega
    exact rightOf1_any w.heap.size s x W ((hb.cell (p := ⟨w.heap.size, 0, none⟩) (by simp)).trans (by simp)) hB))
  clear hz hr eg
  go_enter Try.func69, Try.ntmps69
  go_wp2_with fail
  refine H.out.mono ?_
  rintro e w' ⟨rfl, hb⟩
  go_wp2
  go_ret
  exact ⟨rfl, ((Below.refl _ w).alloc (Nat.le_refl _) _).trans (hb.mono (by simp))⟩
set_option maxRecDepth 100000 in
theorem l14Find_any (ao : Option Addr) (n c : Nat) (zs : List Rt) (s : Int) (w : World) (hz : zs.length = n) (hn : n ≤ 1048576) (hr : Rd encRt 4 w.heap.size w ao zs) :
    Calls Try.prog 72 #[.slice ao n c, .int .i64 s] w fun e w' => e = .returned (.int .i64 (idxB (isS s) zs)) ∧ w = w' := by
  have HZ := hide hz
  have HR := hide hr
  clear hz hr
  go_enter Try.func72, Try.ntmps72
  go_wp2
  go_loopg [5] n (fun gk i wr => ∃ k : Nat, k ≤ n ∧ n - k ≤ gk ∧ i = .int .i64 k ∧ w = wr ∧ Aside (∀ j, j < k → ∀ y, zs[j]? = some y → isS s y = false))
  case atStart => exact ⟨0, Nat.zero_le _, by omega, rfl, rfl, fun j hj => absurd hj (Nat.not_lt_zero _)⟩
  case round =>
    obtain ⟨k, hk, hg, rfl, rfl, A⟩ := hrel
    by_cases hlt : k < n
    · have hltz : (k : Int) < (n : Int) := by omega
      obtain ⟨b, off, rfl, hb1, hat⟩ := rdRt HR.out (by rw [HZ.out]; omega)
      obtain ⟨x, hx, hxc⟩ := hat k (by rw [HZ.out]; exact hlt)
      have HX := hide hx
      obtain ⟨hbr, c0, c1, c2, c3⟩ := hxc w (Below.refl _ _)
      clear hx hxc hat
      cases hq : (x.s == s) with
      | true =>
        go_wp2
        go_ret
        exact ⟨ret_int (idx_hit (p := isS s) HX.out hq A.out).1.symm, rfl⟩
      | false =>
        go_wp2
        go_roundg (n - (k + 1))
        case measure => omega
        case rel => exact ⟨k + 1, by omega, by omega, by go_num, rfl, none_succ (p := isS s) A.out HX.out hq⟩
    · have hltz : ¬ (k : Int) < (n : Int) := by omega
      go_wp2
      go_ret
      exact ⟨ret_int (idx_miss fun j y hy => A.out j (by have := (List.getElem?_eq_some_iff.1 hy).1; rw [HZ.out] at this; omega) y hy).1.symm, rfl⟩

/-- free on a day -/
def freeR (zs : List Rt) (s d : Int) : Bool := match zs.find? (isS s) with | none => true | some x => decide (x.e < d)
set_option maxRecDepth 100000 in
theorem isFree_any (ao : Option Addr) (n c : Nat) (zs : List Rt) (s d : Int) (w : World) (hz : zs.length = n) (hn : n ≤ 1048576) (hr : Rd encRt 4 w.heap.size w ao zs) :
    Calls Try.prog 67 #[.slice ao n c, .int .i64 s, .int .i64 d] w fun e w' => e = .returned (.bool (freeR zs s d)) ∧ Below w.heap.size w w' := by
  have H := hide (rightOf_any ao n c zs s w hz hn hr)
  rcases idx_cases (isS s) zs with ⟨h1, h2, _⟩ | ⟨k, x, hk, hx, hp, h1, h2, _⟩
  · have H1 := hide h1
    have H2 := hide h2
    clear h1 h2 hz hr
    go_enter Try.func67, Try.ntmps67
    go_wp2_with fail
    refine H.out.mono ?_
    rintro e w' ⟨rfl, hb⟩
    rw [H1.out]
    have HB := hide hb
    clear hb
    go_wp2
    go_ret
    exact ⟨ret_bool (by unfold freeR; rw [H2.out]), HB.out⟩
  · have H1 := hide h1
    have H2 := hide h2
    have hkn : k < n := by omega
    obtain ⟨b, off, rfl, hb1, hat⟩ := rdRt hr (by omega)
    obtain ⟨x', hx', hxc⟩ := hat k hk
    obtain rfl : x' = x := by rw [hx] at hx'; injection hx' with h; exact h.symm
    have HXC := hide hxc
    clear h1 h2 hz hr hx hx' hp hat hxc hk
    go_enter Try.func67, Try.ntmps67
    go_wp2_with fail
    refine H.out.mono ?_
    rintro e w' ⟨rfl, hb⟩
    rw [H1.out]
    obtain ⟨hbr, c0, c1, c2, c3⟩ := HXC.out w' hb
    have HB := hide hb
    clear hb
    have hki : (k : Int) < (n : Int) := by omega
    go_wp2
    go_ret
    exact ⟨ret_bool (by unfold freeR; rw [H2.out]; simp [show ¬ ((k : Int) < 0) from by omega]), HB.out⟩
set_option maxRecDepth 100000 in
theorem l14Free_any (ao : Option Addr) (n c : Nat) (zs : List Rt) (s d : Int) (w : World) (hz : zs.length = n) (hn : n ≤ 1048576) (hr : Rd encRt 4 w.heap.size w ao zs) :
    Calls Try.prog 90 #[.slice ao n c, .int .i64 s, .int .i64 d] w fun e w' => e = .returned (.bool (freeR zs s d)) ∧ w = w' := by
  have H := hide (l14Find_any ao n c zs s w hz hn hr)
  rcases idx_cases (isS s) zs with ⟨h1, h2, _⟩ | ⟨k, x, hk, hx, hp, h1, h2, _⟩
  · have H1 := hide h1
    have H2 := hide h2
    clear h1 h2 hz hr
    go_enter Try.func90, Try.ntmps90
    go_wp2_with fail
    refine H.out.mono ?_
    rintro e w' ⟨rfl, rfl⟩
    rw [H1.out]
    go_wp2
    go_ret
    exact ⟨ret_bool (by unfold freeR; rw [H2.out]), rfl⟩
  · have H1 := hide h1
    have H2 := hide h2
    have hkn : k < n := by omega
    obtain ⟨b, off, rfl, hb1, hat⟩ := rdRt hr (by omega)
    obtain ⟨x', hx', hxc⟩ := hat k hk
    obtain rfl : x' = x := by rw [hx] at hx'; injection hx' with h; exact h.symm
    obtain ⟨hbr, c0, c1, c2, c3⟩ := hxc w (Below.refl _ _)
    clear h1 h2 hz hr hx hx' hp hat hxc hk
    go_enter Try.func90, Try.ntmps90
    go_wp2_with fail
    refine H.out.mono ?_
    rintro e w' ⟨rfl, rfl⟩
    rw [H1.out]
    have hki : (k : Int) < (n : Int) := by omega
    go_wp2
    go_ret
    exact ⟨ret_bool (by unfold freeR; rw [H2.out]; simp [show ¬ ((k : Int) < 0) from by omega]), rfl⟩

end Go.Proofs.Ytpghdjehagamlaa
