/- The minutes of a route. -/
import Derived.Test.YtnfhaaiklekemaaT2
namespace Go.Proofs.Ytnfhaaiklekemaa
open Go.RowKit

theorem wrapEq (x : Int) : IntKind.i64.wrap x = wrap64 x := by unfold wrap64; exact IntKind.wrap_i64 x
def mx (a b : Int) : Int := if a < b then b else a
/-- how long a leg takes -/
def partsV (x : Lg) : Int := 18 * walkV x + 15 * mx 0 x.c + 5 * mx 0 (-100 - x.c)
theorem parts_bd {x : Lg} (h : legBd x) : 0 ≤ partsV x ∧ partsV x ≤ 300000 := by
  have := walk_bd h
  unfold legBd at h
  unfold partsV mx
  split <;> split <;> omega

set_option maxRecDepth 100000 in
theorem minutes_any (ao : Option Addr) (n c : Nat) (zs : List Lg) (w : World) (hz : zs.length = n) (hn : n ≤ 1048576) (hr : Rd encLg 3 w.heap.size w ao zs) (hok : routeB zs = true) :
    Calls Try.prog 73 #[.slice ao n c] w fun e w' => e = .returned (.int .i64 (sumI partsV yes zs)) ∧ Below w.heap.size w w' := by
  have HZ := hide hz
  have HR := hide hr
  have HO := hide hok
  clear hz hr hok
  go_enter Try.func73, Try.ntmps73
  go_wp2
  go_loopg [3, 8] n (fun gk t i wr => ∃ k : Nat, k ≤ n ∧ n - k ≤ gk ∧ i = .int .i64 k ∧ t = .int .i64 (sumI partsV yes (zs.take k)) ∧ Aside (Below w.heap.size w wr))
  case atStart => exact ⟨0, Nat.zero_le _, by omega, rfl, by rw [sum_zero], Below.refl _ _⟩
  case round =>
    obtain ⟨k, hk, hg, rfl, rfl, BW⟩ := hrel
    by_cases hlt : k < n
    · have hltz : (k : Int) < (n : Int) := by omega
      obtain ⟨b, off, rfl, hb1, hat⟩ := rdLg HR.out (by rw [HZ.out]; omega)
      obtain ⟨x, hx, hxc⟩ := hat k (by rw [HZ.out]; exact hlt)
      have HX := hide hx
      have HBD := hide (route_bd HO.out hx)
      obtain ⟨hbr, c0, c1, c2⟩ := hxc wr BW.out
      clear hx hxc hat
      generalize ht : sumI partsV yes (zs.take k) = t
      have HT := hide ht
      clear ht
      go_wp2_with fail
      obtain ⟨W, hW⟩ : ∃ W, W = wr.alloc (.cells #[.int .i64 x.w, .int .i64 x.u, .int .i64 x.c] 62) := ⟨_, rfl⟩
      have HBW : Hid (Below w.heap.size w W) := hide (by rw [hW]; exact BW.out.alloc BW.out.size _)
      have g0 : wr.heap.size < W.heap.size := by rw [hW]; simp
      have e0 : W.cell? ⟨wr.heap.size, 0, none⟩ = some (.int .i64 x.w) := by rw [hW]; simp
      have e1 : W.cell? ⟨wr.heap.size, 1, none⟩ = some (.int .i64 x.u) := by rw [hW]; simp
      have e2 : W.cell? ⟨wr.heap.size, 2, none⟩ = some (.int .i64 x.c) := by rw [hW]; simp
      rw [← hW]
      clear hW
      have hv := walk_bd HBD.out
      have hv0 : 0 ≤ walkV x := hv.1
      have hv1 : walkV x ≤ 13986 := hv.2
      have hc0 : -999 ≤ x.c := HBD.out.2.2.1
      have hc1 : x.c ≤ 999 := HBD.out.2.2.2
      clear hv
      generalize hvv : walkV x = v at hv0 hv1
      have HV := hide hvv
      clear hvv
      obtain ⟨m1, hm1, hm2, hm3⟩ : ∃ m1 : Int, mx 0 x.c = m1 ∧ 0 ≤ m1 ∧ m1 ≤ 999 := ⟨_, rfl, by unfold mx; split <;> omega, by unfold mx; split <;> omega⟩
      obtain ⟨m2, hm4, hm5, hm6⟩ : ∃ m2 : Int, mx 0 (-100 - x.c) = m2 ∧ 0 ≤ m2 ∧ m2 ≤ 899 := ⟨_, rfl, by unfold mx; split <;> omega, by unfold mx; split <;> omega⟩
      have HP : Hid (partsV x = 18 * v + 15 * m1 + 5 * m2) := hide (by unfold partsV; rw [HV.out, hm1, hm4])
      have x1 : (if 0 < x.c then x.c else 0) = m1 := hm1
      have x2 : (if 0 < -100 - x.c then -100 - x.c else 0) = m2 := hm4
      have x3 : (if x.c < -100 then -100 - x.c else 0) = m2 := by rw [← hm4]; unfold mx; split <;> split <;> omega
      have y1 : IntKind.i64.wrap (-100 - x.c) = -100 - x.c := IntWalk.i64_in _ (by omega)
      have y2 : IntKind.i64.wrap (18 * v) = 18 * v := IntWalk.i64_in _ (by omega)
      have y3 : IntKind.i64.wrap (15 * m1) = 15 * m1 := IntWalk.i64_in _ (by omega)
      have y4 : IntKind.i64.wrap (5 * m2) = 5 * m2 := IntWalk.i64_in _ (by omega)
      have y5 : IntKind.i64.wrap (18 * v + 15 * m1) = 18 * v + 15 * m1 := IntWalk.i64_in _ (by omega)
      have y6 : IntKind.i64.wrap (18 * v + 15 * m1 + 5 * m2) = 18 * v + 15 * m1 + 5 * m2 := IntWalk.i64_in _ (by omega)
      clear hm1 hm4
      go_region_held3 (fun w' => w'.cell? ⟨wr.heap.size, 0, none⟩ = some (.int .i64 x.w) ∧ w'.cell? ⟨wr.heap.size, 1, none⟩ = some (.int .i64 x.u) ∧ w'.cell? ⟨wr.heap.size, 2, none⟩ = some (.int .i64 x.c) ∧ Below W.heap.size W w')
        (first | exact ⟨e0, e1, e2, (Below.refl _ _).drew⟩ | go_keep | (go_split_ands; have hq : Below W.heap.size W w' := Below.trans (by assumption) (Below.mono hb (Below.size (by assumption))); exact ⟨(hq.cell (p := ⟨wr.heap.size, 0, none⟩) g0).trans e0, (hq.cell (p := ⟨wr.heap.size, 1, none⟩) g0).trans e1, (hq.cell (p := ⟨wr.heap.size, 2, none⟩) g0).trans e2, hq⟩))
        (first | (go_at_call 63; refine (walk_any x _ HBD.out).mono ?_; rintro e w' ⟨rfl, hb⟩; rw [HV.out]))
      all_goals
        go_split_ands
        clear x1 x2 x3 y1 y2 y3 y4 y5 y6
        go_wp2
        go_roundg (n - (k + 1))
        case measure => omega
        case rel => exact ⟨k + 1, by omega, by omega, by go_num, by rw [sum_yes HX.out (show yes x = true from rfl), HT.out, HP.out, wrapEq], HBW.out.trans (Below.mono (B := W.heap.size) (by assumption) HBW.out.size)⟩
    · have hltz : ¬ (k : Int) < (n : Int) := by omega
      go_wp2
      go_ret
      exact ⟨ret_int (by rw [sum_all (by rw [HZ.out]; omega)]), BW.out⟩

theorem l1Most_any (a b : Int) (w : World) : Calls Try.prog 84 #[.int .i64 a, .int .i64 b] w fun e w' => e = .returned (.int .i64 (mx a b)) ∧ w = w' := by
  by_cases h : b < a
  · have HO := hide (show mx a b = a from by unfold mx; rw [if_neg (by omega)])
    go_enter Try.func84, Try.ntmps84
    go_wp2
    go_ret
    exact ⟨ret_int HO.out.symm, rfl⟩
  · have HO := hide (show mx a b = b from by unfold mx; split <;> omega)
    go_enter Try.func84, Try.ntmps84
    go_wp2
    go_ret
    exact ⟨ret_int HO.out.symm, rfl⟩
set_option maxRecDepth 100000 in
theorem l15Parts_any (x : Lg) (w : World) (h : legBd x) : Calls Try.prog 74 #[.agg #[.int .i64 x.w, .int .i64 x.u, .int .i64 x.c]] w fun e w' => e = .returned (.int .i64 (partsV x)) ∧ Below w.heap.size w w' := by
  have HBD := hide h
  have hc0 : -999 ≤ x.c := h.2.2.1
  have hc1 : x.c ≤ 999 := h.2.2.2
  have hv := walk_bd h
  have hv0 : 0 ≤ walkV x := hv.1
  have hv1 : walkV x ≤ 13986 := hv.2
  clear h hv
  obtain ⟨W, hW⟩ : ∃ W, W = w.alloc (.cells #[.int .i64 x.w, .int .i64 x.u, .int .i64 x.c] 62) := ⟨_, rfl⟩
  have HBW : Hid (Below w.heap.size w W) := hide (by rw [hW]; exact (Below.refl _ _).alloc (Nat.le_refl _) _)
  have g0 : w.heap.size < W.heap.size := by rw [hW]; simp
  have e0 : W.cell? ⟨w.heap.size, 0, none⟩ = some (.int .i64 x.w) := by rw [hW]; simp
  have e1 : W.cell? ⟨w.heap.size, 1, none⟩ = some (.int .i64 x.u) := by rw [hW]; simp
  have e2 : W.cell? ⟨w.heap.size, 2, none⟩ = some (.int .i64 x.c) := by rw [hW]; simp
  have HW := hide hW
  clear hW
  generalize hvv : walkV x = v at hv0 hv1
  have HV := hide hvv
  clear hvv
  obtain ⟨m1, hm1, hm2, hm3⟩ : ∃ m1 : Int, mx 0 x.c = m1 ∧ 0 ≤ m1 ∧ m1 ≤ 999 := ⟨_, rfl, by unfold mx; split <;> omega, by unfold mx; split <;> omega⟩
  obtain ⟨m2, hm4, hm5, hm6⟩ : ∃ m2 : Int, mx 0 (-100 - x.c) = m2 ∧ 0 ≤ m2 ∧ m2 ≤ 899 := ⟨_, rfl, by unfold mx; split <;> omega, by unfold mx; split <;> omega⟩
  have HP : Hid (partsV x = 18 * v + 15 * m1 + 5 * m2) := hide (by unfold partsV; rw [HV.out, hm1, hm4])
  have y1 : IntKind.i64.wrap (-100 - x.c) = -100 - x.c := IntWalk.i64_in _ (by omega)
  have y2 : IntKind.i64.wrap (18 * v) = 18 * v := IntWalk.i64_in _ (by omega)
  have y3 : IntKind.i64.wrap (15 * m1) = 15 * m1 := IntWalk.i64_in _ (by omega)
  have y4 : IntKind.i64.wrap (5 * m2) = 5 * m2 := IntWalk.i64_in _ (by omega)
  have y5 : IntKind.i64.wrap (18 * v + 15 * m1) = 18 * v + 15 * m1 := IntWalk.i64_in _ (by omega)
  have y6 : IntKind.i64.wrap (18 * v + 15 * m1 + 5 * m2) = 18 * v + 15 * m1 + 5 * m2 := IntWalk.i64_in _ (by omega)
  have H1 := hide hm1
  have H4 := hide hm4
  clear hm1 hm4
  go_enter Try.func74, Try.ntmps74
  go_wp2_with fail
  rw [← HW.out]
  go_region_held3 (fun w' => w'.cell? ⟨w.heap.size, 0, none⟩ = some (.int .i64 x.w) ∧ w'.cell? ⟨w.heap.size, 1, none⟩ = some (.int .i64 x.u) ∧ w'.cell? ⟨w.heap.size, 2, none⟩ = some (.int .i64 x.c) ∧ Below W.heap.size W w')
    (first | exact ⟨e0, e1, e2, (Below.refl _ _).drew⟩ | go_keep | (go_split_ands; have hq : Below W.heap.size W w' := Below.trans (by assumption) (Below.mono hb (Below.size (by assumption))); exact ⟨(hq.cell (p := ⟨w.heap.size, 0, none⟩) g0).trans e0, (hq.cell (p := ⟨w.heap.size, 1, none⟩) g0).trans e1, (hq.cell (p := ⟨w.heap.size, 2, none⟩) g0).trans e2, hq⟩))
    (first
      | (go_at_call 62; refine (l15Walk_any x _ HBD.out).mono ?_; rintro e w' ⟨rfl, hb⟩; rw [HV.out])
      | (go_at_call_of 84 (Value.int IntKind.i64 x.c); refine (l1Most_any _ _ _).mono ?_; rintro e w' ⟨rfl, rfl⟩; rw [H1.out])
      | (go_at_call 84; refine (l1Most_any _ _ _).mono ?_; rintro e w' ⟨rfl, rfl⟩; rw [H4.out]))
  all_goals
    go_split_ands
    clear y1 y2 y3 y4 y5 y6
    go_wp2
    go_ret
    exact ⟨ret_int HP.out.symm, HBW.out.trans (Below.mono (B := W.heap.size) (by assumption) HBW.out.size)⟩

end Go.Proofs.Ytnfhaaiklekemaa
