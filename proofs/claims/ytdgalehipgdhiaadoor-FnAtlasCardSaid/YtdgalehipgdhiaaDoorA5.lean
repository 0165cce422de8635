/- RoughTurns and its reference. -/
import Derived.Test.YtdgalehipgdhiaaDoorA4
import Derived.StillTailTactics
namespace Go.Proofs.YtdgalehipgdhiaaDoor
open Go.RowKit
set_option linter.unusedVariables false
set_option linter.unusedSimpArgs false

def roughV (zs : List Pg) (n : Nat) : Int := if atlasB zs then ruf zs (n - 1) else 0
set_option maxRecDepth 100000 in
set_option maxHeartbeats 1000000 in
theorem rough_any (ao : Option Addr) (n c : Nat) (zs : List Pg) (w : World) (hz : zs.length = n) (hn : n ≤ 1048576) (hr : Rd encPg 4 w.heap.size w ao zs) (ha : atlasB zs = true) :
    Calls Tryd.prog 35 #[.slice ao n c] w fun e w' => e = .returned (.int .i64 (ruf zs (n - 1))) ∧ Below w.heap.size w w' := by
  have HZ := hide hz
  have HR := hide hr
  have HA := hide ha
  clear hz hr ha
  go_enter Tryd.func35, Tryd.ntmps35
  go_wp2
  go_loopg [3, 4] n (fun gk cv i wr => ∃ k : Nat, 1 ≤ k ∧ (k ≤ n ∨ k = 1) ∧ n - k ≤ gk ∧ i = .int .i64 k ∧ cv = .int .i64 (ruf zs (k - 1)) ∧ Aside (Below w.heap.size w wr))
  case atStart => exact ⟨1, by omega, by omega, by omega, rfl, rfl, Below.refl _ _⟩
  case round =>
    obtain ⟨k, hk1, hk, hgk, rfl, rfl, BW⟩ := hrel
    have bx := ruf_bd zs (k - 1)
    by_cases hlt : k < n
    · have hlti : (k : Int) < (n : Int) := by omega
      obtain ⟨b, off, rfl, hb1, hat⟩ := rdPg HR.out (by rw [HZ.out]; omega)
      obtain ⟨x, hx, hxc⟩ := hat (k - 1) (by rw [HZ.out]; omega)
      obtain ⟨y, hy, hyc⟩ := hat k (by rw [HZ.out]; exact hlt)
      have HX := hide (getB hx)
      have HY := hide (getB hy)
      have HAX := hide (atlas_at HA.out hx)
      have HAY := hide (atlas_at HA.out hy)
      obtain ⟨hbr, c0, c1, c2, c3⟩ := hxc wr BW.out
      obtain ⟨hbs, d0, d1, d2, d3⟩ := hyc wr BW.out
      clear hx hxc hy hyc hat
      have k0 : 0 < k := by omega
      have k2 : (1 : Int) ≤ (k : Int) := by omega
      have k3 : (0 : Int) ≤ (k : Int) - 1 := by omega
      have k4 : (k : Int) - 1 < (n : Int) := by omega
      have k5 : IntKind.i64.wrap ((k : Int) - 1) = (k : Int) - 1 := IntWalk.i64_in _ (by omega)
      have k6 : ((k : Int) - 1).toNat = k - 1 := by omega
      have k7 : IntKind.i64.wrap (ruf zs (k - 1) + 1) = ruf zs (k - 1) + 1 := IntWalk.i64_in _ (by omega)
      go_wp2_with fail
      go_still_tail 9, (by kernel_rfl)
      change wpList _ _ _ _ _ wr.drew
      go_wp2_with fail
      refine (areBeside_any x y HAX.out HAY.out _).mono ?_
      rintro e w2 ⟨rfl, hb⟩
      have HB := hide (bl_step (Below.drew BW.out) hb)
      clear hb
      cases hq : besB x y with
      | true =>
        have HQ := hide (ruf_y hk1 HX.out HY.out hq)
        clear hq
        go_wp2
        go_roundg (n - (k + 1))
        case measure => omega
        case rel => exact ⟨k + 1, by omega, by omega, by omega, by go_num, by simp [HQ.out], HB.out⟩
      | false =>
        have HQ := hide (ruf_n hk1 HX.out HY.out hq)
        clear hq
        go_wp2
        go_roundg (n - (k + 1))
        case measure => omega
        case rel => exact ⟨k + 1, by omega, by omega, by omega, by go_num, by simp [HQ.out], HB.out⟩
    · have hge : ¬ (k : Int) < (n : Int) := by omega
      have HE : Hid (ruf zs (k - 1) = ruf zs (n - 1)) := hide (by
        rcases hk with h | h
        · rw [show k = n by omega]
        · rw [show n - 1 = k - 1 by omega])
      go_wp2
      go_ret
      exact ⟨ret_int HE.out, BW.out⟩

theorem RoughTurns_any (ao : Option Addr) (n c : Nat) (zs : List Pg) (w : World) (hz : zs.length = n) (hn : n ≤ 1048576) (hr : Rd encPg 4 w.heap.size w ao zs) :
    Calls Tryd.prog 10 #[.slice ao n c] w fun e w' => e = .returned (.tuple #[.int .i64 (roughV zs n), .bool (atlasB zs)]) ∧ Below w.heap.size w w' := by
  have HZ := hide hz
  have HR := hide hr
  clear hz hr
  cases hA : atlasB zs with
  | false =>
    have HA := hide hA
    clear hA
    go_enter Tryd.func10, Tryd.ntmps10
    go_wp2_with fail
    refine (IsAtlas_any _ _ _ zs _ HZ.out hn HR.out).mono ?_
    rintro e w1 ⟨rfl, hb⟩
    rw [HA.out]
    go_wp2
    go_ret2
    exact ⟨ret_ib3 (by unfold roughV; rw [HA.out]; rfl) rfl, hb⟩
  | true =>
    have HA := hide hA
    clear hA
    go_enter Tryd.func10, Tryd.ntmps10
    go_wp2_with fail
    refine (IsAtlas_any _ _ _ zs _ HZ.out hn HR.out).mono ?_
    rintro e w1 ⟨rfl, hb⟩
    rw [HA.out]
    have HB := hide hb
    clear hb
    go_wp2_with fail
    refine (rough_any _ _ _ zs _ HZ.out hn (rd_step HR.out HB.out) HA.out).mono ?_
    rintro e w2 ⟨rfl, hb⟩
    go_wp2
    go_ret2
    exact ⟨ret_ib3 (by unfold roughV; rw [HA.out]; rfl) rfl, bl_step HB.out hb⟩

end Go.Proofs.YtdgalehipgdhiaaDoor
