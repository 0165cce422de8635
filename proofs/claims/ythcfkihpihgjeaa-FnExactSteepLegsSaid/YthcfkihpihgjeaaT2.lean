/- The walk of a route. -/
import Derived.Test.YthcfkihpihgjeaaT1
import Derived.Test.YthcfkihpihgjeaaKit2
namespace Go.Proofs.Ythcfkihpihgjeaa
open Go.RowKit

def legBd (x : Lg) : Prop := (0 ≤ x.w ∧ x.w ≤ 7) ∧ (1 ≤ x.u ∧ x.u ≤ 999) ∧ (-999 ≤ x.c ∧ x.c ≤ 999)
/-- the walk of a leg -/
def walkV (x : Lg) : Int := if x.w % 2 = 0 then 10 * x.u else 14 * x.u
theorem walk_bd {x : Lg} (h : legBd x) : 0 ≤ walkV x ∧ walkV x ≤ 13986 := by unfold legBd at h; unfold walkV; split <;> omega
def yes (_ : Lg) : Bool := true
theorem ret_ib {a b : Int} {c d : Bool} (h1 : a = b) (h2 : c = d) : Ending.returned (.tuple #[.int .i64 a, .bool c]) = .returned (.tuple #[.int .i64 b, .bool d]) := by rw [h1, h2]

theorem walk_any (x : Lg) (w : World) (h : legBd x) : Calls Try.prog 65 #[.agg #[.int .i64 x.w, .int .i64 x.u, .int .i64 x.c]] w fun e w' => e = .returned (.int .i64 (walkV x)) ∧ Below w.heap.size w w' := by
  obtain ⟨⟨h1, h2⟩, ⟨h3, h4⟩, _⟩ := h
  by_cases hp : x.w % 2 = 0
  · have k1 : (x.w % 2 == 0) = true := by rw [hp]; rfl
    have HO := hide (show walkV x = 10 * x.u from by unfold walkV; rw [if_pos hp])
    clear hp
    go_enter Try.func65, Try.ntmps65
    go_wp2
    go_ret
    exact ⟨ret_int HO.out.symm, (Below.refl _ _).alloc (Nat.le_refl _) _⟩
  · have hq : x.w % 2 = 1 := by omega
    have k1 : (x.w % 2 == 0) = false := by rw [hq]; rfl
    have HO := hide (show walkV x = 14 * x.u from by unfold walkV; rw [if_neg hp])
    clear hp hq
    go_enter Try.func65, Try.ntmps65
    go_wp2
    go_ret
    exact ⟨ret_int HO.out.symm, (Below.refl _ _).alloc (Nat.le_refl _) _⟩

theorem l15Walk_any (x : Lg) (w : World) (h : legBd x) : Calls Try.prog 66 #[.agg #[.int .i64 x.w, .int .i64 x.u, .int .i64 x.c]] w fun e w' => e = .returned (.int .i64 (walkV x)) ∧ Below w.heap.size w w' := by
  obtain ⟨⟨h1, h2⟩, ⟨h3, h4⟩, _⟩ := h
  by_cases hp : x.w % 2 = 0
  · have k1 : (x.w % 2 == 1) = false := by rw [hp]; rfl
    have HO := hide (show walkV x = 10 * x.u from by unfold walkV; rw [if_pos hp])
    clear hp
    go_enter Try.func66, Try.ntmps66
    go_wp2
    go_ret
    exact ⟨ret_int HO.out.symm, (Below.refl _ _).alloc (Nat.le_refl _) _⟩
  · have hq : x.w % 2 = 1 := by omega
    have k1 : (x.w % 2 == 1) = true := by rw [hq]; rfl
    have HO := hide (show walkV x = 14 * x.u from by unfold walkV; rw [if_neg hp])
    clear hp hq
    go_enter Try.func66, Try.ntmps66
    go_wp2
    go_ret
    exact ⟨ret_int HO.out.symm, (Below.refl _ _).alloc (Nat.le_refl _) _⟩

/-- the sum of f over a route's legs -/
def sumOf (f : Lg → Int) (zs : List Lg) : Int := if routeB zs then sumI f yes zs else 0

set_option maxRecDepth 100000 in
theorem WalkOf_any (ao : Option Addr) (n c : Nat) (zs : List Lg) (w : World) (hz : zs.length = n) (hn : n ≤ 1048576) (hr : Rd encLg 3 w.heap.size w ao zs) :
    Calls Try.prog 33 #[.slice ao n c] w fun e w' => e = .returned (.tuple #[.int .i64 (sumOf walkV zs), .bool (routeB zs)]) ∧ Below w.heap.size w w' := by
  have HZ := hide hz
  have HR := hide hr
  clear hz hr
  have HA := hide (IsRoute_any ao n c zs w HZ.out hn HR.out)
  cases h0 : routeB zs with
  | false =>
    have HO := hide h0
    go_enter Try.func33, Try.ntmps33
    go_wp2_with fail
    refine HA.out.mono ?_
    rintro e w1 ⟨rfl, hb⟩
    have HB := hide hb
    clear hb
    go_wp2
    go_ret2
    exact ⟨ret_ib (by unfold sumOf; rw [HO.out]; rfl) rfl, HB.out⟩
  | true =>
    have HO := hide h0
    go_enter Try.func33, Try.ntmps33
    go_wp2_with fail
    refine HA.out.mono ?_
    rintro e w1 ⟨rfl, hb⟩
    rw [HO.out]
    have HB := hide hb
    clear hb HA h0
    go_wp2
    go_loopg [4, 12] n (fun gk t i wr => ∃ k : Nat, k ≤ n ∧ n - k ≤ gk ∧ i = .int .i64 k ∧ t = .int .i64 (sumI walkV yes (zs.take k)) ∧ Aside (Below w.heap.size w wr))
    case atStart => exact ⟨0, Nat.zero_le _, by omega, rfl, by rw [sum_zero], HB.out⟩
    case round =>
      obtain ⟨k, hk, hg, rfl, rfl, BW⟩ := hrel
      by_cases hlt : k < n
      · have hltz : (k : Int) < (n : Int) := by omega
        obtain ⟨b, off, rfl, hb1, hat⟩ := rdLg HR.out (by rw [HZ.out]; omega)
        obtain ⟨x, hx, hxc⟩ := hat k (by rw [HZ.out]; exact hlt)
        have HX := hide hx
        have HBD := hide (route_bd HO.out hx)
        obtain ⟨hbr, c0, c1, c2⟩ := hxc wr BW.out
        have HWN := hide (BW.out.alloc BW.out.size (.cells #[.int .i64 x.w, .int .i64 x.u, .int .i64 x.c] 65))
        clear hx hxc hat
        generalize ht : sumI walkV yes (zs.take k) = t
        have HT := hide ht
        clear ht
        go_wp2_with fail
        refine (walk_any x _ HBD.out).mono ?_
        rintro e w2 ⟨rfl, hb⟩
        have HB2 := hide (bl_step HWN.out hb)
        clear hb HWN
        generalize hv : walkV x = v
        have HV := hide hv
        clear hv
        go_wp2
        go_roundg (n - (k + 1))
        case measure => omega
        case rel => exact ⟨k + 1, by omega, by omega, by go_num, by rw [sum_yes HX.out (show yes x = true from rfl), HT.out, HV.out], HB2.out⟩
      · have hltz : ¬ (k : Int) < (n : Int) := by omega
        go_wp2
        go_ret2
        exact ⟨ret_ib (by unfold sumOf; rw [HO.out, sum_all (by rw [HZ.out]; omega)]; rfl) rfl, BW.out⟩


set_option maxRecDepth 100000 in
theorem sWalkOf_any (ao : Option Addr) (n c : Nat) (zs : List Lg) (w : World) (hz : zs.length = n) (hn : n ≤ 1048576) (hr : Rd encLg 3 w.heap.size w ao zs) :
    Calls Try.prog 34 #[.slice ao n c] w fun e w' => e = .returned (.tuple #[.int .i64 (sumOf walkV zs), .bool (routeB zs)]) ∧ Below w.heap.size w w' := by
  have HZ := hide hz
  have HR := hide hr
  clear hz hr
  have HA := hide (l15Good_any ao n c zs w HZ.out hn HR.out)
  cases h0 : routeB zs with
  | false =>
    have HO := hide h0
    go_enter Try.func34, Try.ntmps34
    go_wp2_with fail
    refine HA.out.mono ?_
    rintro e w1 ⟨rfl, hb⟩
    have HB := hide hb
    clear hb
    go_wp2
    go_ret2
    exact ⟨ret_ib (by unfold sumOf; rw [HO.out]; rfl) rfl, HB.out⟩
  | true =>
    have HO := hide h0
    go_enter Try.func34, Try.ntmps34
    go_wp2_with fail
    refine HA.out.mono ?_
    rintro e w1 ⟨rfl, hb⟩
    rw [HO.out]
    have HB := hide hb
    clear hb HA h0
    go_wp2
    go_loopg [4, 5] n (fun gk t i wr => ∃ k : Nat, k ≤ n ∧ n - k ≤ gk ∧ i = .int .i64 k ∧ t = .int .i64 (sumI walkV yes (zs.take k)) ∧ Aside (Below w.heap.size w wr))
    case atStart => exact ⟨0, Nat.zero_le _, by omega, rfl, by rw [sum_zero], HB.out⟩
    case round =>
      obtain ⟨k, hk, hg, rfl, rfl, BW⟩ := hrel
      by_cases hlt : k < n
      · have hltz : (k : Int) < (n : Int) := by omega
        obtain ⟨b, off, rfl, hb1, hat⟩ := rdLg HR.out (by rw [HZ.out]; omega)
        obtain ⟨x, hx, hxc⟩ := hat k (by rw [HZ.out]; exact hlt)
        have HX := hide hx
        have HBD := hide (route_bd HO.out hx)
        obtain ⟨hbr, c0, c1, c2⟩ := hxc wr BW.out
        have HWN := hide (BW.out)
        clear hx hxc hat
        generalize ht : sumI walkV yes (zs.take k) = t
        have HT := hide ht
        clear ht
        go_wp2_with fail
        refine (l15Walk_any x _ HBD.out).mono ?_
        rintro e w2 ⟨rfl, hb⟩
        have HB2 := hide (bl_step HWN.out hb)
        clear hb HWN
        generalize hv : walkV x = v
        have HV := hide hv
        clear hv
        go_wp2
        go_roundg (n - (k + 1))
        case measure => omega
        case rel => exact ⟨k + 1, by omega, by omega, by go_num, by rw [sum_yes HX.out (show yes x = true from rfl), HT.out, HV.out], HB2.out⟩
      · have hltz : ¬ (k : Int) < (n : Int) := by omega
        go_wp2
        go_ret2
        exact ⟨ret_ib (by unfold sumOf; rw [HO.out, sum_all (by rw [HZ.out]; omega)]; rfl) rfl, BW.out⟩


end Go.Proofs.Ythcfkihpihgjeaa
