/- ClosestRoute: the plain law, the ways. -/
import Derived.Test.YthcfkihpihgjeaaT16
import Derived.Test.YthcfkihpihgjeaaT6
namespace Go.Proofs.Ythcfkihpihgjeaa
open Go.RowKit
set_option linter.unusedVariables false
set_option linter.unusedSimpArgs false

def sg (a : Int) : Int := if 0 < a then 1 else if a < 0 then -1 else 0
def wv (x y : Int) : Int := if x = 0 then (if y = 1 then 0 else 4) else if x = 1 then 2 - y else 6 + y
def mi (a b : Int) : Int := if a < b then a else b
def okW (x y : Int) : Prop := -1 ≤ x ∧ x ≤ 1 ∧ -1 ≤ y ∧ y ≤ 1 ∧ (x ≠ 0 ∨ y ≠ 0)
theorem sg_bd (a : Int) : -1 ≤ sg a ∧ sg a ≤ 1 := by unfold sg; split <;> (try split) <;> omega
theorem sg_nz {a : Int} (h : a ≠ 0) : sg a ≠ 0 := by unfold sg; split <;> (try split) <;> omega
theorem wv_ok {x y : Int} (h : okW x y) : (0 ≤ wv x y ∧ wv x y ≤ 7) ∧ dX (wv x y) = x ∧ dY (wv x y) = y := by
  obtain ⟨h1, h2, h3, h4, h5⟩ := h
  have hx : x = -1 ∨ x = 0 ∨ x = 1 := by omega
  have hy : y = -1 ∨ y = 0 ∨ y = 1 := by omega
  rcases hx with rfl | rfl | rfl <;> rcases hy with rfl | rfl | rfl <;> first | (exfalso; omega) | decide
theorem wv_uniq {k : Int} (hk : 0 ≤ k ∧ k ≤ 7) : wv (dX k) (dY k) = k := by
  rcases way8 hk with rfl | rfl | rfl | rfl | rfl | rfl | rfl | rfl <;> decide
theorem abs_any (a : Int) (ha : -2000 ≤ a ∧ a ≤ 2000) (w : World) : Calls Try.prog 45 #[.int .i64 a] w fun e w' => e = .returned (.int .i64 a.natAbs) ∧ w = w' := by
  have k5 : IntKind.i64.wrap (-a) = -a := IntWalk.i64_in _ (by omega)
  go_enter Try.func45, Try.ntmps45
  go_wp2
  all_goals
    go_ret
    exact ⟨ret_int (by omega), rfl⟩
theorem sign_any (a : Int) (w : World) : Calls Try.prog 47 #[.int .i64 a] w fun e w' => e = .returned (.int .i64 (sg a)) ∧ w = w' := by
  have H : 0 < a ∨ a < 0 ∨ a = 0 := by omega
  rcases H with h | h | h
  all_goals
    go_enter Try.func47, Try.ntmps47
    go_wp2
    all_goals
      go_ret
      exact ⟨ret_int (by unfold sg; (try split) <;> (try split) <;> omega), rfl⟩
theorem l15Sign_any (a : Int) (w : World) : Calls Try.prog 41 #[.int .i64 a] w fun e w' => e = .returned (.int .i64 (sg a)) ∧ w = w' := by
  have H : 0 < a ∨ a < 0 ∨ a = 0 := by omega
  rcases H with h | h | h
  all_goals
    go_enter Try.func41, Try.ntmps41
    go_wp2
    all_goals
      go_ret
      exact ⟨ret_int (by unfold sg; (try split) <;> (try split) <;> omega), rfl⟩
theorem l1Least_any (a b : Int) (w : World) : Calls Try.prog 42 #[.int .i64 a, .int .i64 b] w fun e w' => e = .returned (.int .i64 (mi a b)) ∧ w = w' := by
  by_cases h : a < b
  · go_enter Try.func42, Try.ntmps42
    go_wp2
    all_goals
      go_ret
      exact ⟨ret_int (by unfold mi; split <;> omega), rfl⟩
  · go_enter Try.func42, Try.ntmps42
    go_wp2
    all_goals
      go_ret
      exact ⟨ret_int (by unfold mi; split <;> omega), rfl⟩
set_option maxRecDepth 100000 in
theorem wayTo_any (x y : Int) (w : World) (h : okW x y) : Calls Try.prog 46 #[.int .i64 x, .int .i64 y] w fun e w' => e = .returned (.int .i64 (wv x y)) ∧ Below w.heap.size w w' := by
  obtain ⟨hb, hx, hy⟩ := wv_ok h
  obtain ⟨n, hn⟩ : ∃ n : Nat, wv x y = n := ⟨(wv x y).toNat, by omega⟩
  have hn7 : n ≤ 7 := by omega
  have HN := hide hn
  rw [hn] at hx hy
  have HXX := hide hx
  have HYY := hide hy
  clear hx hy hb h hn
  go_enter Try.func46, Try.ntmps46
  go_wp2
  go_loopg [8] (n + 1) (fun gk i wr => ∃ k : Nat, k ≤ n ∧ n + 1 - k ≤ gk ∧ i = .int .i64 k ∧ Aside (Below w.heap.size w wr))
  case atStart => exact ⟨0, Nat.zero_le _, by omega, rfl, Below.refl _ _⟩
  case round =>
    obtain ⟨k, hk, hg, rfl, BW⟩ := hrel
    have hk8 : (k : Int) < 8 := by omega
    have hk07 : 0 ≤ (k : Int) ∧ (k : Int) ≤ 7 := by omega
    have hu := hide (wv_uniq hk07)
    have k5 : IntKind.i64.wrap ((k : Int) + 1) = (k : Int) + 1 := IntWalk.i64_in _ (by omega)
    go_wp2_with fail
    refine (unit_any ⟨(k : Int), 0, 0⟩ _ hk07).mono ?_
    rintro e w2 ⟨rfl, hb⟩
    have HB2 := hide (bl_step BW.out hb)
    clear hb
    by_cases hkn : k = n
    · subst hkn
      have p1 : (dX (k : Int) == x) = true := by simp [HXX.out]
      have p2 : (dY (k : Int) == y) = true := by simp [HYY.out]
      generalize dX (k : Int) = u at p1
      generalize dY (k : Int) = v at p2
      clear HXX HYY
      go_wp2
      go_ret
      exact ⟨ret_int HN.out.symm, HB2.out⟩
    · have hne : ¬ (dX (k : Int) = x ∧ dY (k : Int) = y) := by
        rintro ⟨a, b⟩
        have := hu.out
        rw [a, b, HN.out] at this
        omega
      generalize dX (k : Int) = u at hne
      generalize dY (k : Int) = v at hne
      clear HXX HYY hu
      cases h1 : (u == x) with
      | false =>
        go_wp2
        go_roundg (n + 1 - (k + 1))
        case measure => omega
        case rel => exact ⟨k + 1, by omega, by omega, by go_num, HB2.out⟩
      | true =>
        have h2 : (v == y) = false := by
          rw [beq_eq_false_iff_ne]; intro h2; exact hne ⟨by simpa using h1, h2⟩
        clear hne
        go_wp2
        go_roundg (n + 1 - (k + 1))
        case measure => omega
        case rel => exact ⟨k + 1, by omega, by omega, by go_num, HB2.out⟩
set_option maxRecDepth 100000 in
theorem l15Way_any (x y : Int) (w : World) (h : okW x y) : Calls Try.prog 43 #[.int .i64 x, .int .i64 y] w fun e w' => e = .returned (.int .i64 (wv x y)) ∧ Below w.heap.size w w' := by
  obtain ⟨hb, hx, hy⟩ := wv_ok h
  obtain ⟨n, hn⟩ : ∃ n : Nat, wv x y = n := ⟨(wv x y).toNat, by omega⟩
  have hn7 : n ≤ 7 := by omega
  have HN := hide hn
  rw [hn] at hx hy
  have HXX := hide hx
  have HYY := hide hy
  clear hx hy hb h hn
  go_enter Try.func43, Try.ntmps43
  go_wp2_with fail
  refine (l15Step_any 0 _ (by omega)).mono ?_
  rintro e w1 ⟨rfl, hb⟩
  have HB := hide hb
  clear hb
  go_wp2
  go_loopg [5, 6, 7] (n + 1) (fun gk i a b wr => ∃ k : Nat, k ≤ n ∧ n + 1 - k ≤ gk ∧ i = .int .i64 k ∧ a = .int .i64 (dX k) ∧ b = .int .i64 (dY k) ∧ Aside (Below w.heap.size w wr))
  case atStart => exact ⟨0, Nat.zero_le _, by omega, rfl, rfl, rfl, HB.out⟩
  case round =>
    obtain ⟨k, hk, hg, rfl, rfl, rfl, BW⟩ := hrel
    have hk07 : 0 ≤ (k : Int) ∧ (k : Int) ≤ 7 := by omega
    have hu := hide (wv_uniq hk07)
    by_cases hkn : k = n
    · subst hkn
      have p1 : (dX (k : Int) != x) = false := by simp [HXX.out]
      have p2 : (dY (k : Int) != y) = false := by simp [HYY.out]
      have p3 : (dX (k : Int) == x) = true := by simp [HXX.out]
      have p4 : (dY (k : Int) == y) = true := by simp [HYY.out]
      generalize dX (k : Int) = u at p1 p3
      generalize dY (k : Int) = v at p2 p4
      clear HXX HYY
      go_wp2
      go_ret
      exact ⟨ret_int HN.out.symm, BW.out⟩
    · have hne : ¬ (dX (k : Int) = x ∧ dY (k : Int) = y) := by
        rintro ⟨a, b⟩
        have := hu.out
        rw [a, b, HN.out] at this
        omega
      have k5 : IntKind.i64.wrap ((k : Int) + 1) = ((k + 1 : Nat) : Int) := by rw [show (k : Int) + 1 = ((k + 1 : Nat) : Int) by omega]; exact IntWalk.i64_in _ (by omega)
      have hs := hide (show 0 ≤ ((k + 1 : Nat) : Int) ∧ ((k + 1 : Nat) : Int) ≤ 7 by omega)
      generalize hU : dX (k : Int) = u at hne
      generalize hV : dY (k : Int) = v at hne
      obtain ⟨k1, hk1⟩ : ∃ k1 : Nat, k1 = k + 1 := ⟨_, rfl⟩
      rw [← hk1] at k5 hs
      have HK1 := hide hk1
      clear HXX HYY hu hU hV hk1
      cases h1 : (u == x) with
      | false =>
        have h3 : (u != x) = true := by simp [bne, h1]
        clear hne
        go_wp2_with fail
        refine (l15Step_any (k1 : Int) _ hs.out).mono ?_
        rintro e w2 ⟨rfl, hb⟩
        have HB2 := hide (bl_step BW.out hb)
        clear hb
        go_wp2
        go_roundg (n + 1 - (k + 1))
        case measure => omega
        case rel => exact ⟨k1, by have := HK1.out; omega, by have := HK1.out; omega, rfl, rfl, rfl, HB2.out⟩
      | true =>
        have h3 : (u != x) = false := by simp [bne, h1]
        have h2 : (v != y) = true := by
          rw [bne_iff_ne]; intro h2; exact hne ⟨by simpa using h1, h2⟩
        have h4 : (v == y) = false := by
          rw [beq_eq_false_iff_ne]; intro h2; exact hne ⟨by simpa using h1, h2⟩
        clear hne
        go_wp2_with fail
        refine (l15Step_any (k1 : Int) _ hs.out).mono ?_
        rintro e w2 ⟨rfl, hb⟩
        have HB2 := hide (bl_step BW.out hb)
        clear hb
        go_wp2
        go_roundg (n + 1 - (k + 1))
        case measure => omega
        case rel => exact ⟨k1, by have := HK1.out; omega, by have := HK1.out; omega, rfl, rfl, rfl, HB2.out⟩
/-! ### what both answer -/
def clM (e n : Int) : Int := mi e.natAbs n.natAbs
def clX (e n : Int) : Int := e - clM e n * sg e
def clA (e n : Int) : List Lg := if 0 < clM e n then [⟨wv (sg e) (sg n), clM e n, 0⟩] else []
def clI (e n : Int) : List Lg := clA e n ++ (if clX e n ≠ 0 ∨ clX n e ≠ 0 then [⟨wv (sg (clX e n)) (sg (clX n e)), ((clX e n).natAbs : Int) + (clX n e).natAbs, 0⟩] else [])
def clS1 (e n : Int) : Int := e * sg e - mi (e * sg e) (n * sg n)
def clS (e n : Int) : List Lg := ((if 0 < mi (e * sg e) (n * sg n) then [⟨wv (sg e) (sg n), mi (e * sg e) (n * sg n), 0⟩] else []) ++ (if 0 < clS1 e n then [⟨wv (sg e) 0, clS1 e n, 0⟩] else [])) ++ (if 0 < n * sg n - mi (e * sg e) (n * sg n) then [⟨wv 0 (sg n), n * sg n - mi (e * sg e) (n * sg n), 0⟩] else [])
theorem abs_sg (a : Int) : a * sg a = a.natAbs := by unfold sg; split <;> (try split) <;> omega
theorem clM_comm (e n : Int) : clM n e = clM e n := by unfold clM mi; split <;> split <;> omega
theorem clX_eq (e n : Int) : clX e n = sg e * ((e.natAbs : Int) - clM e n) := by
  unfold clX
  rw [Int.mul_sub, Int.mul_comm (sg e) (clM e n)]
  congr 1
  unfold sg; split <;> (try split) <;> omega
theorem sg_mul {a d : Int} (hd : 0 < d) : sg (sg a * d) = sg a := by
  by_cases h1 : 0 < a
  · have h : sg a = 1 := by unfold sg; rw [if_pos h1]
    rw [h, Int.one_mul]; unfold sg; rw [if_pos hd]
  · by_cases h2 : a < 0
    · have h : sg a = -1 := by unfold sg; rw [if_neg h1, if_pos h2]
      rw [h]; unfold sg; rw [if_neg (by omega), if_pos (by omega)]
    · have h : sg a = 0 := by unfold sg; rw [if_neg h1, if_neg h2]
      rw [h, Int.zero_mul]; decide
theorem nab_mul {a d : Int} (hd : 0 ≤ d) (ha : a ≠ 0) : ((sg a * d).natAbs : Int) = d := by
  unfold sg; split <;> (try split) <;> omega
theorem cl_eq (e n : Int) : clS e n = clI e n := by
  have hm : mi (e * sg e) (n * sg n) = clM e n := by rw [abs_sg, abs_sg]; rfl
  unfold clS clI clS1
  rw [hm, abs_sg, abs_sg, clX_eq, clX_eq n e, clM_comm e n]
  have h3 : clM e n = e.natAbs ∨ clM e n = n.natAbs := by unfold clM mi; split <;> simp
  have h4 : clM e n ≤ e.natAbs ∧ clM e n ≤ n.natAbs := by unfold clM mi; split <;> omega
  have hA : clA e n = (if 0 < clM e n then [⟨wv (sg e) (sg n), clM e n, 0⟩] else []) := rfl
  rw [← hA, List.append_assoc]
  congr 1
  by_cases h5 : clM e n < e.natAbs
  · have h6 : clM e n = n.natAbs := by omega
    have he : e ≠ 0 := by omega
    have hy : (n.natAbs : Int) - clM e n = 0 := by omega
    have hd : 0 < (e.natAbs : Int) - clM e n := by omega
    have hz : sg (0 : Int) = 0 := by decide
    rw [if_pos hd, hy, if_neg (by omega), if_pos (.inl (by have := sg_nz he; exact Int.mul_ne_zero this (by omega))), sg_mul hd, nab_mul (by omega) he, Int.mul_zero, hz]
    simp
  · by_cases h7 : clM e n < n.natAbs
    · have h6 : clM e n = e.natAbs := by omega
      have he : n ≠ 0 := by omega
      have hy : (e.natAbs : Int) - clM e n = 0 := by omega
      have hd : 0 < (n.natAbs : Int) - clM e n := by omega
      have hz : sg (0 : Int) = 0 := by decide
      rw [hy, if_neg (by omega), if_pos hd, if_pos (.inr (by have := sg_nz he; exact Int.mul_ne_zero this (by omega))), sg_mul hd, nab_mul (by omega) he, Int.mul_zero, hz]
      simp
    · have h8 : (e.natAbs : Int) - clM e n = 0 := by omega
      have h9 : (n.natAbs : Int) - clM e n = 0 := by omega
      rw [h8, h9]
      simp
def okCl (e n : Int) : Bool := inB e (-999) 999 && inB n (-999) 999
def clV (e n : Int) : List Lg := if okCl e n then clI e n else []
theorem clV_len {e n : Int} : (clV e n).length ≤ 2 := by
  unfold clV clI clA
  split
  · split <;> split <;> simp
  · simp

end Go.Proofs.Ythcfkihpihgjeaa
