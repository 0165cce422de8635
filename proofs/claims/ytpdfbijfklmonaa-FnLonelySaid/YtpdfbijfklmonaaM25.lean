/- The ids of a set; the order of ids: the reference. -/
import Derived.Test.YtpdfbijfklmonaaM22
import Derived.Test.YtpdfbijfklmonaaM21b
namespace Go.Proofs.Ytpdfbijfklmonaa
open Go.RowKit
set_option linter.unusedVariables false
set_option linter.unusedSimpArgs false

theorem ret_vi {u : Value} {a b : Int} (h : a = b) : Ending.returned (.tuple #[u, .int .i64 a]) = .returned (.tuple #[u, .int .i64 b]) := by rw [h]
set_option maxRecDepth 100000 in
set_option maxHeartbeats 1000000 in
theorem l12Ids_any (ao : Option Addr) (n c : Nat) (zs : List Cv) (s : Nat) (w : World) (hz : zs.length = n) (hn : n ≤ 10) (hr : Rd encCv 6 w.heap.size w ao zs) (good : goodAll zs) :
    Calls Try.prog 93 #[.slice ao n c, .int .i64 s] w fun e w' => ∃ v, e = .returned (.tuple #[v, .int .i64 (sumP (subs s zs))]) ∧ w'.ownsRow w.heap.size 3 1 v (subs s zs).length (((subs s zs).map Cv.i).flatMap encI) ∧ Below w.heap.size w w' := by
  have HZ := hide hz
  have HR := hide hr
  have HG := hide good
  obtain ⟨i0, hi, hz0, hz1, hz2⟩ := info_parts infoI
  have HI := hide (And.intro hi (And.intro hz0 (And.intro hz1 hz2)))
  clear hi hz0 hz1 hz2
  clear hz hr good
  go_enter Try.func93, Try.ntmps93
  go_wp2
  go_loopg [6, 7, 8] n (fun gk v sv i wr => ∃ k : Nat, k ≤ n ∧ n - k ≤ gk ∧ i = .int .i64 k ∧ sv = .int .i64 (sumP (sel (bitB s) zs k)) ∧ Aside (wr.ownsRow w.heap.size 3 1 v (sel (bitB s) zs k).length (((sel (bitB s) zs k).map Cv.i).flatMap encI)) ∧ Aside (Below w.heap.size w wr))
  case atStart => exact ⟨0, Nat.zero_le _, by omega, rfl, rfl, World.ownsRow_made _ #[] 0 (Nat.le_refl _) (by simp [maxLen]) rfl, (Below.refl _ _).alloc (Nat.le_refl _) _⟩
  case round =>
    obtain ⟨k, hk, hgk, rfl, rfl, OW, BW⟩ := hrel
    by_cases hlt : k < n
    · have hltz : (k : Int) < (n : Int) := by omega
      have hk0 : (0 : Int) ≤ (k : Int) := by omega
      have hk64 : (k : Int) ≤ 64 := by omega
      obtain ⟨b', off, rfl, hb1, hat⟩ := rdCv HR.out (by rw [HZ.out]; omega)
      obtain ⟨x, hx, hxc⟩ := hat k (by rw [HZ.out]; exact hlt)
      have HX := hide (getB hx)
      have HXC := hide hxc
      have bx := good_p HG.out x (List.mem_of_getElem? hx)
      have bd := sumP_bd (sel (bitB s) zs k) (fun y hy => good_p HG.out y (List.mem_of_mem_take ((sel_sub (bitB s) zs k (by rw [HZ.out]; exact hk)).subset hy)))
      have hgl := sel_len (bitB s) zs k
      obtain ⟨hbr, c0, c1, c2, c3, c4, c5⟩ := hxc wr BW.out
      clear hx hxc hat
      obtain ⟨B, hB⟩ : ∃ B, B = bitV s k := ⟨_, rfl⟩
      have hbit : bits .and .i64 ((s : Int) / 2 ^ k) 1 = B := hB.symm
      have hsv := BW.out.size
      obtain ⟨L, hL⟩ : ∃ L, L = (sel (bitB s) zs k).length := ⟨_, rfl⟩
      rw [← hL] at OW hgl bd
      obtain ⟨S, hS⟩ : ∃ S, S = sumP (sel (bitB s) zs k) := ⟨_, rfl⟩
      rw [← hS] at bd ⊢
      have HLL := hide hL
      have HSS := hide hS
      clear hL hS
      by_cases hb : B = 1
      · have HN := hide (sel_yes (p := bitB s) HX.out (by unfold bitB; rw [← hB, hb]; rfl))
        subst hb
        clear hB
        have k5 : IntKind.i64.wrap (S + x.p) = S + x.p := IntWalk.i64_in _ (by omega)
        obtain ⟨hi, hz0, hz1, hz2⟩ := HI.out
        go_wp2_with (at_builtin; refine wpList_append_own _ rfl _ _ 30 rfl w.heap.size 3 i0 (.int .i64 0) 1 8 Try.underlying30 hi hz0 hz1 hz2 rfl (by decide) _ L _ rfl (OW.out.alloc _) ⟨wr.heap.size, 0, none⟩ 1 1 [.int .i64 x.i] rfl rfl ?c1 ?c2 ?c3 ?c4 ?c5 ?_)
        case c1 => exact news_at #[.int .i64 x.i]
        case c2 => intro u hu; simp at hu; subst hu; rfl
        case c3 => unfold maxLen; omega
        case c4 => omega
        case c5 => simp; omega
        intro v' w3 hown' hgrow _
        have HB3 := hide (bl_grown (BW.out.alloc hsv _) (OW.out.alloc _) (Nat.le_refl _) hgrow)
        have HO3 := hide hown'
        clear hown' hgrow hi hz0 hz1 hz2 c0 c1 c2 c3 c4 c5
        obtain ⟨hbr3, c0, c1, c2, c3, c4, c5⟩ := HXC.out w3 HB3.out
        go_wp2
        go_roundg (n - (k + 1))
        case measure => omega
        case rel => exact ⟨k + 1, by omega, by omega, by go_num, by rw [HN.out, sumP_snoc, ← HSS.out], by rw [HN.out, List.map_append, show [x].map Cv.i = [x.i] from rfl, flat_snoc, List.length_append, ← HLL.out]; exact HO3.out, HB3.out⟩
      · have HN := hide (sel_no (p := bitB s) (zs := zs) (k := k) (by unfold bitB; rw [← hB]; exact beq_eq_false_iff_ne.2 hb))
        have hd1 : decide (B = 1) = false := by simp [hb]
        have hd2 : (B == 1) = false := by simp [hb]
        clear hB
        go_wp2
        go_roundg (n - (k + 1))
        case measure => omega
        case rel => exact ⟨k + 1, by omega, by omega, by go_num, by rw [HN.out, ← HSS.out], by rw [HN.out, ← HLL.out]; exact OW.out, BW.out⟩
    · have hltz : ¬ (k : Int) < (n : Int) := by omega
      obtain rfl : k = n := by omega
      have HSU : Hid (subs s zs = sel (bitB s) zs k) := hide (by unfold subs; rw [HZ.out])
      go_wp2
      go_ret2
      exact ⟨_, ret_vi (by rw [HSU.out]), by rw [HSU.out]; exact OW.out, BW.out⟩
set_option maxRecDepth 100000 in
set_option maxHeartbeats 1000000 in
theorem l12Before_any (p1 p2 : Option Addr) (n m c1 c2 : Nat) (xs ys : List Int) (w : World) (hx : xs.length = n) (hy : ys.length = m) (hn : n ≤ 1048576) (hm : m ≤ 1048576) (rx : Rd encI 1 w.heap.size w p1 xs) (ry : Rd encI 1 w.heap.size w p2 ys) :
    Calls Try.prog 94 #[.slice p1 n c1, .slice p2 m c2] w fun e w' => e = .returned (.bool (befB xs ys)) ∧ Below w.heap.size w w' := by
  have HX := hide hx
  have HY := hide hy
  have RX := hide rx
  have RY := hide ry
  clear hx hy rx ry
  by_cases hnm : n = m
  · subst hnm
    have HO := hide (bef_lex HX.out HY.out)
    go_enter Try.func94, Try.ntmps94
    go_wp2
    go_loopg [5] n (fun gk i wr => ∃ k : Nat, k ≤ n ∧ n - k ≤ gk ∧ i = .int .i64 k ∧ Aside (Below w.heap.size w wr) ∧ Aside (∀ j, j < k → xs[j]! = ys[j]!))
    case atStart => exact ⟨0, Nat.zero_le _, by omega, rfl, Below.refl _ _, fun j hj => absurd hj (Nat.not_lt_zero _)⟩
    case round =>
      obtain ⟨k, hk, hgk, rfl, BW, A⟩ := hrel
      by_cases hlt : k < n
      · have hltz : (k : Int) < (n : Int) := by omega
        have hk0 : (0 : Int) ≤ (k : Int) := by omega
        obtain ⟨b1, off1, rfl, _, hat1⟩ := rdI RX.out (by rw [HX.out]; omega)
        obtain ⟨b2, off2, rfl, _, hat2⟩ := rdI RY.out (by rw [HY.out]; omega)
        obtain ⟨x, hx, hxc⟩ := hat1 k (by rw [HX.out]; exact hlt)
        obtain ⟨y, hy, hyc⟩ := hat2 k (by rw [HY.out]; exact hlt)
        obtain ⟨hbr1, c0⟩ := hxc wr BW.out
        obtain ⟨hbr2, d0⟩ := hyc wr BW.out
        have HXX := hide (getI! hx)
        have HYY := hide (getI! hy)
        clear hat1 hat2 hx hxc hy hyc
        by_cases hc : x = y
        · have HC : Hid (xs[k]! = ys[k]!) := hide (by rw [HXX.out, HYY.out, hc])
          rw [← hc] at d0
          clear hc
          go_wp2_with fail
          go_quiet (fail)
          go_wp2
          go_roundg (n - (k + 1))
          case measure => omega
          case rel => exact ⟨k + 1, by omega, by omega, by go_num, below_drewN BW.out _, fun j hj => by
            rcases Nat.lt_succ_iff_lt_or_eq.1 hj with h1 | h1
            · exact A.out j h1
            · subst h1; exact HC.out⟩
        · have HO2 := hide (show befB xs ys = decide (x < y) from by rw [HO.out, lexC_diff (k := k) (by rw [HX.out]; exact hlt) (by rw [HY.out]; exact hlt) A.out (by rw [HXX.out, HYY.out]; exact hc), HXX.out, HYY.out, Bool.eq_iff_iff, decide_eq_true_eq, decide_eq_true_eq]; exact cmpI_neg)
          have hd : (x == y) = false := by simp [hc]
          have hd2 : decide (x = y) = false := by simp [hc]
          have hd3 : (x != y) = true := by simp [hc]
          clear hc
          go_wp2_with fail
          go_quiet (fail)
          go_wp2_with fail
          go_quiet (fail)
          go_wp2
          go_ret
          exact ⟨ret_bool HO2.out.symm, below_drewN (below_drewN BW.out _) _⟩
      · have hltz : ¬ (k : Int) < (n : Int) := by omega
        obtain rfl : k = n := by omega
        have HO2 := hide (show befB xs ys = false from by rw [HO.out, lexC_same (by rw [HX.out, HY.out]) (fun j hj => A.out j (by rw [HX.out] at hj; exact hj))]; rfl)
        go_wp2
        go_ret
        exact ⟨ret_bool HO2.out.symm, BW.out⟩
  · have HO := hide (bef_len HX.out HY.out hnm)
    have hni : ¬ (n : Int) = (m : Int) := by omega
    have hd : ((n : Int) == (m : Int)) = false := by simp [hni]
    have hd2 : decide ((n : Int) = (m : Int)) = false := by simp [hni]
    have hd3 : ((n : Int) != (m : Int)) = true := by simp [hni]
    go_enter Try.func94, Try.ntmps94
    go_wp2
    go_ret
    exact ⟨ret_bool (by rw [HO.out]; first | done | rfl | simp), Below.refl _ _⟩

end Go.Proofs.Ytpdfbijfklmonaa
