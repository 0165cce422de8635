/- eq -/
import Derived.Test.YtbjnepojjfmifaaA2
import Derived.StillTailTactics
import Derived.Deep.RegionHeld3
import Derived.Deep.DeepCutAuto
namespace Go.Proofs.Ytbjnepojjfmifaa
open Go.RowKit
theorem eqRight_same (x : Rt) (w : World) : Calls Try.prog 61 #[.agg #[.int .i64 x.s, .int .i64 x.e, .int .i64 x.h, .int .i64 x.f], .agg #[.int .i64 x.s, .int .i64 x.e, .int .i64 x.h, .int .i64 x.f]] w fun e w' => e = .returned (.bool true) ∧ Below w.heap.size w w' := by
  go_enter Try.func61, Try.ntmps61
  go_wp2
  go_ret
  exact ⟨rfl, (((Below.refl _ _).alloc (Nat.le_refl _) _).alloc (by simp) _)⟩

set_option maxRecDepth 100000 in
theorem eqRightS_same (ao bo : Option Addr) (n c d : Nat) (zs : List Rt) (w : World) (hz : zs.length = n) (hn : n ≤ 1048576) (hr : Rd encR 4 w.heap.size w ao zs) (hr2 : Rd encR 4 w.heap.size w bo zs) :
    Calls Try.prog 19 #[.slice ao n c, .slice bo n d] w fun e w' => e = .returned (.bool true) ∧ Below w.heap.size w w' := by
  have HZ := hide hz
  have HR := hide hr
  have HR2 := hide hr2
  clear hz hr hr2
  go_enter Try.func19, Try.ntmps19
  go_wp2
  go_loopg [5] n (fun gk i wr => ∃ k : Nat, k ≤ n ∧ n - k ≤ gk ∧ i = .int .i64 k ∧ Aside (Below w.heap.size w wr))
  case atStart => exact ⟨0, Nat.zero_le _, by omega, rfl, Below.refl _ _⟩
  case round =>
    obtain ⟨k, hk, hg, rfl, BW⟩ := hrel
    by_cases hlt : k < n
    · have hlti : (k : Int) < (n : Int) := by omega
      obtain ⟨b, off, rfl, hb1, hb2, hc⟩ := HR.out.at_ (by rw [HZ.out]; omega)
      obtain ⟨b', off', rfl, hb1', hb2', hc'⟩ := HR2.out.at_ (by rw [HZ.out]; omega)
      obtain ⟨x, hx⟩ : ∃ x, zs[k]? = some x := ⟨_, List.getElem?_eq_getElem (by rw [HZ.out]; exact hlt)⟩
      have c0 : wr.cell? ⟨b, off + k * 4, none⟩ = some (.int .i64 x.s) := (BW.out.cell (p := ⟨b, _, none⟩) hb1).trans (hc k x hx 0 _ rfl)
      have c1 : wr.cell? ⟨b, off + k * 4 + 1, none⟩ = some (.int .i64 x.e) := (BW.out.cell (p := ⟨b, _, none⟩) hb1).trans (hc k x hx 1 _ rfl)
      have c2 : wr.cell? ⟨b, off + k * 4 + 2, none⟩ = some (.int .i64 x.h) := (BW.out.cell (p := ⟨b, _, none⟩) hb1).trans (hc k x hx 2 _ rfl)
      have c3 : wr.cell? ⟨b, off + k * 4 + 3, none⟩ = some (.int .i64 x.f) := (BW.out.cell (p := ⟨b, _, none⟩) hb1).trans (hc k x hx 3 _ rfl)
      have d0 : wr.cell? ⟨b', off' + k * 4, none⟩ = some (.int .i64 x.s) := (BW.out.cell (p := ⟨b', _, none⟩) hb1').trans (hc' k x hx 0 _ rfl)
      have d1 : wr.cell? ⟨b', off' + k * 4 + 1, none⟩ = some (.int .i64 x.e) := (BW.out.cell (p := ⟨b', _, none⟩) hb1').trans (hc' k x hx 1 _ rfl)
      have d2 : wr.cell? ⟨b', off' + k * 4 + 2, none⟩ = some (.int .i64 x.h) := (BW.out.cell (p := ⟨b', _, none⟩) hb1').trans (hc' k x hx 2 _ rfl)
      have d3 : wr.cell? ⟨b', off' + k * 4 + 3, none⟩ = some (.int .i64 x.f) := (BW.out.cell (p := ⟨b', _, none⟩) hb1').trans (hc' k x hx 3 _ rfl)
      clear hx hc hc'
      go_wp2_with fail
      go_still_tail 8, (by kernel_rfl)
      change wpList _ _ _ _ _ wr.drew
      go_wp2_with fail
      refine (eqRight_same x _).mono ?_
      rintro e w2 ⟨rfl, hb⟩
      have HB := hide hb
      clear hb
      go_wp2
      go_roundg (n - (k + 1))
      case measure => omega
      case rel => exact ⟨k + 1, by omega, by omega, by go_num, BW.out.drew.trans (HB.out.mono BW.out.size)⟩
    · have hge : ¬ (k : Int) < (n : Int) := by omega
      go_wp2
      go_ret
      exact ⟨rfl, BW.out⟩
end Go.Proofs.Ytbjnepojjfmifaa
