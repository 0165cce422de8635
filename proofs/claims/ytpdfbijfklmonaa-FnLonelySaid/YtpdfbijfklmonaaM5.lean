/- l12Bare. -/
import Derived.Test.YtpdfbijfklmonaaM3
namespace Go.Proofs.Ytpdfbijfklmonaa
open Go.RowKit
set_option linter.unusedVariables false
set_option linter.unusedSimpArgs false

def upB (zs : List Cv) (a b : Int) (i : Nat) : Bool := (zs.take i).any (showsB a b)
theorem upB_0 (zs : List Cv) (a b : Int) : upB zs a b 0 = false := by simp [upB]
theorem upB_succ {zs : List Cv} {i : Nat} {x : Cv} (hx : zs[i]? = some x) (a b : Int) (h : upB zs a b i = false) : upB zs a b (i + 1) = showsB a b x := by
  unfold upB at *; rw [List.take_add_one, hx, List.any_append, h]; simp
theorem upB_all {zs : List Cv} {n i : Nat} (hz : zs.length = n) (h : n ≤ i) (a b : Int) : upB zs a b i = anyB zs a b := by
  unfold upB anyB; rw [List.take_of_length_le (by omega)]
theorem upB_hit {zs : List Cv} {i : Nat} {a b : Int} (h : upB zs a b i = true) : anyB zs a b = true := by
  unfold upB at h; unfold anyB; rw [List.any_eq_true] at *
  obtain ⟨x, hx, hp⟩ := h
  exact ⟨x, List.mem_of_mem_take hx, hp⟩

set_option maxRecDepth 100000 in
set_option maxHeartbeats 4000000 in
theorem l12Bare_any (wd hg : Nat) (h10 : wd ≤ 10) (h20 : hg ≤ 10) (ao : Option Addr) (n c : Nat) (zs : List Cv) (w : World) (hz : zs.length = n) (hn : n ≤ 1048576) (hr : Rd encCv 6 w.heap.size w ao zs) :
    Calls Try.prog 51 #[.int .i64 wd, .int .i64 hg, .slice ao n c] w fun e w' => e = .returned (.int .i64 (cntX zs hg wd)) ∧ Below w.heap.size w w' := by
  have HZ := hide hz
  have HR := hide hr
  clear hz hr
  go_enter Try.func51, Try.ntmps51
  go_wp2
  go_loopg [7, 8] wd (fun gk cv i wr => ∃ k : Nat, k ≤ wd ∧ wd - k ≤ gk ∧ i = .int .i64 k ∧ cv = .int .i64 (cntX zs hg k) ∧ Aside (Below w.heap.size w wr))
  case atStart => exact ⟨0, Nat.zero_le _, by omega, rfl, rfl, Below.refl _ _⟩
  case round =>
    obtain ⟨k, hk, hgk, rfl, rfl, BW⟩ := hrel
    by_cases hlt : k < wd
    · have hlti : (k : Int) < (wd : Int) := by omega
      have bx := cntX_bd zs h20 k
      go_wp2
      go_loopg [7, 9] hg (fun gj cv i w2 => ∃ j : Nat, j ≤ hg ∧ hg - j ≤ gj ∧ i = .int .i64 j ∧ cv = .int .i64 (cntX zs hg k + cntY zs k j) ∧ Aside (Below w.heap.size w w2))
      case atStart => exact ⟨0, Nat.zero_le _, by omega, rfl, by simp [cntY], BW.out⟩
      case round =>
        obtain ⟨j, hj, hgj, rfl, rfl, BV⟩ := hrel
        have by_ := cntY_bd zs k j
        by_cases hlj : j < hg
        · have hlji : (j : Int) < (hg : Int) := by omega
          go_wp2
          go_loopg [10, 11] n (fun gi sv i w3 => ∃ l : Nat, l ≤ n ∧ n - l ≤ gi ∧ i = .int .i64 l ∧ sv = .bool (upB zs k j l) ∧ Aside (Below w.heap.size w w3))
          case atStart => exact ⟨0, Nat.zero_le _, by omega, rfl, by rw [upB_0], BV.out⟩
          case round =>
            obtain ⟨l, hl, hgl, rfl, rfl, BX⟩ := hrel
            cases hu : upB zs k j l with
            | true =>
              have HQ := hide (cntY_hit (upB_hit hu))
              clear hu
              have hc : (l : Int) < (n : Int) ∨ ¬ (l : Int) < (n : Int) := by omega
              rcases hc with hc | hc
              all_goals
                go_wp2
                go_roundg (hg - (j + 1))
                case measure => omega
                case rel => exact ⟨j + 1, by omega, by omega, by go_num, by rw [HQ.out], BX.out⟩
            | false =>
              by_cases hll : l < n
              · have hlli : (l : Int) < (n : Int) := by omega
                obtain ⟨b, off, rfl, hb1, hat⟩ := rdCv HR.out (by rw [HZ.out]; omega)
                obtain ⟨x, hx, hxc⟩ := hat l (by rw [HZ.out]; exact hll)
                have HU := hide (upB_succ hx k j hu)
                obtain ⟨hbr, c0, c1, c2, c3, c4, c5⟩ := hxc _ BX.out
                clear hx hxc hat hu
                go_wp2_with fail
                refine (l12Shows_any x _ _ _).mono ?_
                rintro e w4 ⟨rfl, hb⟩
                have HB := hide (BX.out.trans (hb.mono BX.out.size))
                clear hb
                go_wp2
                go_roundg (n - (l + 1))
                case measure => omega
                case rel => exact ⟨l + 1, by omega, by omega, by go_num, by rw [HU.out], HB.out⟩
              · have hge : ¬ (l : Int) < (n : Int) := by omega
                have HQ := hide (cntY_miss (show anyB zs k j = false by rw [← upB_all HZ.out (show n ≤ l by omega)]; exact hu))
                have k5 : IntKind.i64.wrap (cntX zs hg k + cntY zs k j + 1) = cntX zs hg k + cntY zs k j + 1 := IntWalk.i64_in _ (by omega)
                clear hu
                go_wp2
                go_roundg (hg - (j + 1))
                case measure => omega
                case rel => exact ⟨j + 1, by omega, by omega, by go_num, by rw [HQ.out, Int.add_assoc], BX.out⟩
        · have hge : ¬ (j : Int) < (hg : Int) := by omega
          go_wp2
          go_roundg (wd - (k + 1))
          case measure => omega
          case rel =>
            obtain rfl : j = hg := by omega
            exact ⟨k + 1, by omega, by omega, by go_num, by rw [cntX_succ], BV.out⟩
    · have hge : ¬ (k : Int) < (wd : Int) := by omega
      go_wp2
      go_ret
      obtain rfl : k = wd := by omega
      exact ⟨rfl, BW.out⟩

end Go.Proofs.Ytpdfbijfklmonaa
