/- PlacesOn: the program. -/
import Derived.Test.YthcfkihpihgjeaaT20
import Derived.Test.YthcfkihpihgjeaaT17
import Derived.Test.YthcfkihpihgjeaaT6
namespace Go.Proofs.Ythcfkihpihgjeaa
open Go.RowKit
set_option linter.unusedVariables false
set_option linter.unusedSimpArgs false

set_option maxRecDepth 100000 in
theorem PlacesOn_any (ao : Option Addr) (n c : Nat) (zs : List Lg) (w : World) (hz : zs.length = n) (hn : n ≤ 1048576) (hr : Rd encLg 3 w.heap.size w ao zs) :
    Calls Try.prog 37 #[.slice ao n c] w fun e w' => ∃ v, e = .returned (.tuple #[v, .bool (routeB zs)]) ∧ w'.ownsRow w.heap.size 60 2 v (plcV zs).length ((plcV zs).flatMap encP) ∧ Below w.heap.size w w' := by
  have HZ := hide hz
  have HR := hide hr
  have HA := hide (IsRoute_any ao n c zs w hz hn hr)
  clear hz hr
  cases h1 : routeB zs with
  | false =>
    have HC := hide (plc_no h1)
    go_enter Try.func37, Try.ntmps37
    go_wp2_with fail
    refine HA.out.mono ?_
    rintro e w1 ⟨rfl, hb⟩
    rw [h1]
    have HB := hide hb
    clear hb
    go_wp2
    go_ret2
    exact ⟨_, rfl, by rw [HC.out]; exact World.ownsRow_nil _ _ _ _, HB.out⟩
  | true =>
    have HH1 := hide h1
    have HC := hide (plc_yes HZ.out h1)
    go_enter Try.func37, Try.ntmps37
    go_wp2_with fail
    refine HA.out.mono ?_
    rintro e w1 ⟨rfl, hb⟩
    rw [HH1.out]
    have HB := hide hb
    clear hb HA
    go_wp2_with fail
    refine (placesOn_any ao n c zs _ HZ.out hn (rd_step HR.out HB.out) HH1.out).mono ?_
    rintro e w2 ⟨v, rfl, ho, hb⟩
    have HB2 := hide (bl_step HB.out hb)
    have HO2 := hide (own_base ho HB.out.size)
    clear ho hb
    go_wp2
    go_ret2
    exact ⟨_, rfl, by rw [HC.out, psL_len]; exact HO2.out, HB2.out⟩

end Go.Proofs.Ythcfkihpihgjeaa
