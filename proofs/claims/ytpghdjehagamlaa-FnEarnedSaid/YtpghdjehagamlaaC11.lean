/- Sheets, readers and days drawn. -/
import Derived.Test.YtpghdjehagamlaaC7
namespace Go.Proofs.Ytpghdjehagamlaa
open Go.RowKit
set_option linter.unusedVariables false
set_option linter.unusedSimpArgs false

set_option maxRecDepth 100000 in
theorem draw_sheet14_any (B g m : Nat) (w : World) (hc : Cur B w g m) (hm : m ≤ 100000000) :
    Calls Try.prog 68 #[.pointer (some ⟨g, 0, none⟩)] w fun e w' => ∃ v : Int, e = .returned (.int .i64 v) ∧ Cur B w' g (m + 4) ∧ w.grownBy w' (some g) := by
  have HC := hide hc
  have HOP : Hid (∀ cs : Array Value, cs = ([1, 2, 3, 4, 5, 999, 0, 1000].map (Value.int .i64)).toArray → Opts (w.alloc (.cells cs 3)) g (some ⟨w.heap.size, 0, none⟩) 8 [1, 2, 3, 4, 5, 999, 0, 1000]) := hide (fun cs h => Opts.lit (H := w.heap.size) [1, 2, 3, 4, 5, 999, 0, 1000] hc.lt h rfl)
  clear hc
  go_enter Try.func68, Try.ntmps68
  go_wp2_with fail
  refine (pick_any B g m 24 _ (HC.out.alloc _) (by omega) (by omega) (by omega)).mono ?_
  rintro e w1 ⟨v, rfl, v0, v1, hc, hg⟩
  have HC := hide hc
  have HOP := hide ((HOP.out _ rfl).grown hg)
  have HG := hide (gr_trans (gr_alloc (gr_refl w (some g)) _) hg)
  clear hc hg
  obtain ⟨q, hq⟩ : ∃ q : Nat, v / 12 = (q : Int) := ⟨(v / 12).toNat, by omega⟩
  have hq2 : q ≤ 1 := by omega
  have k5 : (7 + (q : Int)).toNat = 7 + q := by omega
  have k6 : (0 : Int) ≤ 7 + (q : Int) := by omega
  have k7 : 7 + (q : Int) ≤ 8 := by omega
  go_wp2_with fail
  refine (among_any B g (m + 2) _ (7 + q) 8 [1, 2, 3, 4, 5, 999, 0, 1000] _ HC.out (HOP.out.fewer (by omega)) (by omega) (by omega) (by omega)).mono ?_
  rintro e w2 ⟨z, rfl, _, hc, hg⟩
  have HC := hide hc
  have HG := hide (gr_trans HG.out hg)
  clear hc hg hq
  go_wp2
  go_ret
  exact ⟨z, rfl, HC.out.mono (by omega), HG.out⟩

set_option maxRecDepth 100000 in
theorem draw_reader14_any (B g m : Nat) (w : World) (hc : Cur B w g m) (hm : m ≤ 100000000) :
    Calls Try.prog 74 #[.pointer (some ⟨g, 0, none⟩)] w fun e w' => ∃ v : Int, e = .returned (.int .i64 v) ∧ Cur B w' g (m + 4) ∧ w.grownBy w' (some g) := by
  have HC := hide hc
  have HOP : Hid (∀ cs : Array Value, cs = ([1, 1, 2, 999, 7, 0, 1000].map (Value.int .i64)).toArray → Opts (w.alloc (.cells cs 3)) g (some ⟨w.heap.size, 0, none⟩) 7 [1, 1, 2, 999, 7, 0, 1000]) := hide (fun cs h => Opts.lit (H := w.heap.size) [1, 1, 2, 999, 7, 0, 1000] hc.lt h rfl)
  clear hc
  go_enter Try.func74, Try.ntmps74
  go_wp2_with fail
  refine (pick_any B g m 24 _ (HC.out.alloc _) (by omega) (by omega) (by omega)).mono ?_
  rintro e w1 ⟨v, rfl, v0, v1, hc, hg⟩
  have HC := hide hc
  have HOP := hide ((HOP.out _ rfl).grown hg)
  have HG := hide (gr_trans (gr_alloc (gr_refl w (some g)) _) hg)
  clear hc hg
  obtain ⟨q, hq⟩ : ∃ q : Nat, v / 12 = (q : Int) := ⟨(v / 12).toNat, by omega⟩
  have hq2 : q ≤ 1 := by omega
  have k5 : (6 + (q : Int)).toNat = 6 + q := by omega
  have k6 : (0 : Int) ≤ 6 + (q : Int) := by omega
  have k7 : 6 + (q : Int) ≤ 7 := by omega
  go_wp2_with fail
  refine (among_any B g (m + 2) _ (6 + q) 7 [1, 1, 2, 999, 7, 0, 1000] _ HC.out (HOP.out.fewer (by omega)) (by omega) (by omega) (by omega)).mono ?_
  rintro e w2 ⟨z, rfl, _, hc, hg⟩
  have HC := hide hc
  have HG := hide (gr_trans HG.out hg)
  clear hc hg hq
  go_wp2
  go_ret
  exact ⟨z, rfl, HC.out.mono (by omega), HG.out⟩

set_option maxRecDepth 100000 in
theorem draw_day14_any (B g m : Nat) (w : World) (hc : Cur B w g m) (hm : m ≤ 100000000) :
    Calls Try.prog 60 #[.pointer (some ⟨g, 0, none⟩)] w fun e w' => ∃ v : Int, e = .returned (.int .i64 v) ∧ Cur B w' g (m + 4) ∧ w.grownBy w' (some g) := by
  have HC := hide hc
  have HOP : Hid (∀ cs : Array Value, cs = ([0, 50, 100, 101, 200, 201, 4000, (-1), 4001].map (Value.int .i64)).toArray → Opts (w.alloc (.cells cs 3)) g (some ⟨w.heap.size, 0, none⟩) 9 [0, 50, 100, 101, 200, 201, 4000, (-1), 4001]) := hide (fun cs h => Opts.lit (H := w.heap.size) [0, 50, 100, 101, 200, 201, 4000, (-1), 4001] hc.lt h rfl)
  clear hc
  go_enter Try.func60, Try.ntmps60
  go_wp2_with fail
  refine (pick_any B g m 24 _ (HC.out.alloc _) (by omega) (by omega) (by omega)).mono ?_
  rintro e w1 ⟨v, rfl, v0, v1, hc, hg⟩
  have HC := hide hc
  have HOP := hide ((HOP.out _ rfl).grown hg)
  have HG := hide (gr_trans (gr_alloc (gr_refl w (some g)) _) hg)
  clear hc hg
  obtain ⟨q, hq⟩ : ∃ q : Nat, v / 12 = (q : Int) := ⟨(v / 12).toNat, by omega⟩
  have hq2 : q ≤ 1 := by omega
  have k5 : (8 + (q : Int)).toNat = 8 + q := by omega
  have k6 : (0 : Int) ≤ 8 + (q : Int) := by omega
  have k7 : 8 + (q : Int) ≤ 9 := by omega
  go_wp2_with fail
  refine (among_any B g (m + 2) _ (8 + q) 9 [0, 50, 100, 101, 200, 201, 4000, (-1), 4001] _ HC.out (HOP.out.fewer (by omega)) (by omega) (by omega) (by omega)).mono ?_
  rintro e w2 ⟨z, rfl, _, hc, hg⟩
  have HC := hide hc
  have HG := hide (gr_trans HG.out hg)
  clear hc hg hq
  go_wp2
  go_ret
  exact ⟨z, rfl, HC.out.mono (by omega), HG.out⟩

end Go.Proofs.Ytpghdjehagamlaa
