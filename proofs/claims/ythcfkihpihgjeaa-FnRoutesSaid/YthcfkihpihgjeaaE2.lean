/- The draws of FnRoutes. -/
import Derived.Test.YthcfkihpihgjeaaC6
namespace Go.Proofs.Ythcfkihpihgjeaa
open Go.RowKit
set_option linter.unusedVariables false
set_option linter.unusedSimpArgs false

theorem own_base0 {w : World} {b b2 n k : Nat} {e : TypeId} {v : Value} {xs : List Value} (ho : w.ownsRow b e k v n xs) (h : b2 ≤ b) : w.ownsRow b2 e k v n xs := ⟨ho.1, ho.2.imp id (fun ⟨g, cap, cur, h1, h2, r⟩ => ⟨g, cap, cur, h1, Nat.le_trans h h2, r⟩)⟩

set_option maxRecDepth 100000 in
theorem DrawIsRoute_any (ao : Option Addr) (n c : Nat) (w : World) (hn : n ≤ 65536) (hnc : n ≤ c) (hby : Bytes w.heap.size w ao n) :
    Calls Try.prog 58 #[.slice ao n c] w fun e w' => ∃ v, ∃ zs : List Lg, e = .returned v ∧ zs.length ≤ 13 ∧ w'.ownsRow w.heap.size 65 3 v zs.length (zs.flatMap encLg) ∧ Below w.heap.size w w' := by
  have HCUR : Hid (Cur w.heap.size (w.alloc (.cells #[.slice ao n c, .int .i64 ((0 : Nat) : Int), .int .u64 0] 90)) w.heap.size 0) := hide ⟨ao, n, c, 0, 0, Blk.new w _ _, Nat.le_refl _, Nat.le_refl _, hn, hnc, hby.keep (by simp) (fun j hj _ => Below.heap_alloc w _ j hj)⟩
  clear hby
  go_enter Try.func58, Try.ntmps58
  go_wp2_with fail
  refine (draw_route_any w.heap.size w.heap.size 0 _ HCUR.out (by omega)).mono ?_
  rintro e w1 ⟨v, zs, rfl, hl, ho, _, hg⟩
  have HO := hide (own_base0 (b2 := w.heap.size) ho (by simp))
  have HB := hide (bl_gr ((Below.refl _ w).alloc (Nat.le_refl _) _) hg (Nat.le_refl _) (by simp))
  clear ho hg
  go_wp2
  go_ret
  exact ⟨_, zs, rfl, hl, HO.out, HB.out⟩
theorem DrawWayBack_any (ao : Option Addr) (n c : Nat) (w : World) (hn : n ≤ 65536) (hnc : n ≤ c) (hby : Bytes w.heap.size w ao n) :
    Calls Try.prog 26 #[.slice ao n c] w fun e w' => ∃ v, ∃ zs : List Lg, e = .returned v ∧ zs.length ≤ 13 ∧ w'.ownsRow w.heap.size 65 3 v zs.length (zs.flatMap encLg) ∧ Below w.heap.size w w' := by
  have H := hide (DrawIsRoute_any ao n c w hn hnc hby)
  clear hby
  go_enter Try.func26, Try.ntmps26
  go_wp2_with fail
  refine H.out.mono ?_
  rintro e w1 ⟨v, zs, rfl, hl, ho, hb⟩
  have HO := hide ho
  have HB := hide hb
  clear ho hb
  go_wp2
  go_ret
  exact ⟨_, zs, rfl, hl, HO.out, HB.out⟩

end Go.Proofs.Ythcfkihpihgjeaa
