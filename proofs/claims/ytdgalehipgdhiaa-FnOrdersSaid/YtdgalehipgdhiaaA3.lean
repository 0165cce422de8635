/- PageAt and its reference. -/
import Derived.Test.YtdgalehipgdhiaaA2
namespace Go.Proofs.Ytdgalehipgdhiaa
open Go.RowKit
set_option linter.unusedVariables false
set_option linter.unusedSimpArgs false

def pOk (zs : List Pg) (r c : Int) : Bool := atlasB zs && placeB r c
def pageV (zs : List Pg) (r c : Int) : Int := if pOk zs r c then idxB (isP r c) zs + 1 else 0
theorem ret_ib3 {a b : Int} {c d : Bool} (h1 : a = b) (h2 : c = d) : Ending.returned (.tuple #[.int .i64 a, .bool c]) = .returned (.tuple #[.int .i64 b, .bool d]) := by rw [h1, h2]
theorem idx_wrap {p : Pg → Bool} {zs : List Pg} {n : Nat} (hz : zs.length = n) (hn : n ≤ 1048576) : IntKind.i64.wrap (idxB p zs + 1) = idxB p zs + 1 := by
  have := idx_le (p := p) hz
  exact IntWalk.i64_in _ (by omega)

set_option maxRecDepth 100000 in
theorem PageAt_any (ao : Option Addr) (n c : Nat) (zs : List Pg) (r s : Int) (w : World) (hz : zs.length = n) (hn : n ≤ 1048576) (hr : Rd encPg 4 w.heap.size w ao zs) :
    Calls Try.prog 31 #[.slice ao n c, .int .i64 r, .int .i64 s] w fun e w' => e = .returned (.tuple #[.int .i64 (pageV zs r s), .bool (pOk zs r s)]) ∧ Below w.heap.size w w' := by
  have HZ := hide hz
  have HR := hide hr
  clear hz hr
  rcases first3 (atlasB zs) (inB r 0 99) (inB s 0 99) with h1 | ⟨h1, h2⟩ | ⟨h1, h2, h3⟩ | ⟨h1, h2, h3⟩
  iterate 3
    · have HO : Hid (pOk zs r s = false) := hide (by unfold pOk placeB; simp [*])
      first | have hp := place_1 (c := s) h2 | have hp := place_2 (r := r) h3 | skip
      go_enter Try.func31, Try.ntmps31
      go_wp2_with fail
      refine (IsAtlas_any _ _ _ zs _ HZ.out hn HR.out).mono ?_
      rintro e w1 ⟨rfl, hb⟩
      have HB := hide hb
      clear hb
      go_wp2_with (first | (go_at_call 62; refine (isGrid_any _ _).mono ?_; rintro e w' ⟨rfl, rfl⟩) | (go_at_call 64; refine (within_any _ _ _ _).mono ?_; rintro e w' ⟨rfl, rfl⟩))
      go_ret2
      exact ⟨ret_ib3 (by unfold pageV; rw [HO.out]; rfl) HO.out.symm, HB.out⟩
  · have HO : Hid (pOk zs r s = true) := hide (by unfold pOk placeB; simp [*])
    have hp := place_3 h2 h3
    have k5 : IntKind.i64.wrap (idxB (isP r s) zs + 1) = idxB (isP r s) zs + 1 := idx_wrap HZ.out hn
    go_enter Try.func31, Try.ntmps31
    go_wp2_with fail
    refine (IsAtlas_any _ _ _ zs _ HZ.out hn HR.out).mono ?_
    rintro e w1 ⟨rfl, hb⟩
    have HR1 := hide (rd_step HR.out hb)
    have HB := hide hb
    clear hb
    go_wp2_with (first | (go_at_call 62; refine (isGrid_any _ _).mono ?_; rintro e w' ⟨rfl, rfl⟩) | (go_at_call 64; refine (within_any _ _ _ _).mono ?_; rintro e w' ⟨rfl, rfl⟩))
    refine (pageOn_any _ _ _ zs _ _ _ HZ.out hn HR1.out).mono ?_
    rintro e w2 ⟨rfl, hb2⟩
    have HB2 := hide (bl_step HB.out hb2)
    clear hb2
    go_wp2
    go_ret2
    exact ⟨ret_ib3 (by unfold pageV; rw [HO.out]; rfl) HO.out.symm, HB2.out⟩
theorem bl_eq {w w' : World} (h : w = w') : Below w.heap.size w w' := by subst h; exact Below.refl _ _

set_option maxRecDepth 100000 in
theorem sPageAt_any (ao : Option Addr) (n : Nat) (zs : List Pg) (r s : Int) (w : World) (hz : zs.length = n) (hn : n ≤ 1048576) (hr : Rd encPg 4 w.heap.size w ao zs) :
    Calls Try.prog 36 #[.slice ao n n, .int .i64 r, .int .i64 s] w fun e w' => e = .returned (.tuple #[.int .i64 (pageV zs r s), .bool (pOk zs r s)]) ∧ Below w.heap.size w w' := by
  have HZ := hide hz
  have HR := hide hr
  clear hz hr
  rcases first3 (atlasB zs) (inB r 0 99) (inB s 0 99) with h1 | ⟨h1, h2⟩ | ⟨h1, h2, h3⟩ | ⟨h1, h2, h3⟩
  iterate 3
    · have HO : Hid (pOk zs r s = false) := hide (by unfold pOk placeB; simp [*])
      first | have hp := place_1 (c := s) h2 | have hp := place_2 (r := r) h3 | skip
      go_enter Try.func36, Try.ntmps36
      go_wp2_with fail
      refine (l13Good_any _ _ zs _ HZ.out hn HR.out).mono ?_
      rintro e w1 ⟨rfl, hb⟩
      have HB := hide hb
      clear hb
      go_wp2_with (go_at_call 70; refine (l13Place_any _ _ _).mono ?_; rintro e w' ⟨rfl, rfl⟩)
      go_ret2
      exact ⟨ret_ib3 (by unfold pageV; rw [HO.out]; rfl) HO.out.symm, HB.out⟩
  · have HO : Hid (pOk zs r s = true) := hide (by unfold pOk placeB; simp [*])
    have hp := place_3 h2 h3
    have k5 : IntKind.i64.wrap (idxB (isP r s) zs + 1) = idxB (isP r s) zs + 1 := idx_wrap HZ.out hn
    go_enter Try.func36, Try.ntmps36
    go_wp2_with fail
    refine (l13Good_any _ _ zs _ HZ.out hn HR.out).mono ?_
    rintro e w1 ⟨rfl, hb⟩
    have HR1 := hide (rd_step HR.out hb)
    have HB := hide hb
    clear hb
    go_wp2_with (go_at_call 70; refine (l13Place_any _ _ _).mono ?_; rintro e w' ⟨rfl, rfl⟩)
    refine (l13At_any _ _ _ zs _ _ _ HZ.out hn HR1.out).mono ?_
    rintro e w2 ⟨rfl, hb2⟩
    have HB2 := hide (bl_step HB.out (bl_eq hb2))
    clear hb2
    go_wp2
    go_ret2
    exact ⟨ret_ib3 (by unfold pageV; rw [HO.out]; rfl) HO.out.symm, HB2.out⟩

end Go.Proofs.Ytdgalehipgdhiaa
