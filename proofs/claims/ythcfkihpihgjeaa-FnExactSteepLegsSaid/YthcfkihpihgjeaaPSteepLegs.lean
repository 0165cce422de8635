/- PROVED: laws.FnExactSteepLegs returns true for every input: the program's SteepLegs returns what the reference's returns, and the arguments read afterwards as they read before. Conditions: none. -/
import Derived.Lib.SmallJoins
import Derived.Test.YthcfkihpihgjeaaRows
import Derived.Test.YthcfkihpihgjeaaLSteepLegs
import Derived.Test.YthcfkihpihgjeaaOL
import Derived.Test.YthcfkihpihgjeaaO
namespace Go.Proofs.Ythcfkihpihgjeaa.pSteepLegs
open Go.ChangeShapes Go.WideShapes Go.ChangeAt Go.RowKit
set_option linter.unusedVariables false

theorem own : ownKnob Try.prog.godebug = none := by kernel_rfl
theorem laidOut : laidOutB Try.prog = true := by kernel_rfl

set_option maxRecDepth 100000 in
theorem lifted (os : Os) (started : os.Started) (H : Type) (enc : TypeId × Value → H) :
    ReturnsInHanded {} Try.checked os 5 .any (Rows.fnExactSteepLegsSpec.pre6 enc Try.prog Try.f5 Rows.fnExactSteepLegsRow.domain false) (Rows.fnExactSteepLegsSpec.post enc Try.prog Try.f5 false true false false) := by
  refine returnsInHanded_of_change (C := Try.checked) own started (by kernel_rfl) Try.func5
    (ChangeSpec.witness6 (enc := enc) (C := Try.checked) false ⟨#[], #[.agg #[.int .i64 0, .int .i64 0, .slice none 0 0, .int .i64 0], .slice none 0 0], []⟩ 8 (by kernel_rfl) (by kernel_rfl) (by kernel_rfl) (by kernel_rfl)) ?_
  intro W base args ds gs before hval0 hW hcnd _
  have hval : ∀ (j : Nat) t v, Try.f5.params[j]? = some t → args[j]? = some v → Value.okWide Try.prog W .any base t v := hval0
  have hW' := hW
  obtain ⟨p, q, hA0, hV, rfl, hfz, hnd⟩ := hW
  have hA : DataW.TrodAll enc Try.prog W 0 (fun _ => true) true Try.f5.params.toList args.toList ds p := hA0
  rw [Try.params5] at hA hval
  obtain ⟨v0, vs0, d0, ds0, p0, q0, hargs, rfl, rfl, h0, r0⟩ := trodAll_cons hA
  obtain ⟨v1, vs1, d1, ds1, p1, q1, rfl, rfl, rfl, h1, r1⟩ := trodAll_cons r0
  obtain ⟨rfl, rfl, rfl⟩ := trodAll_nil r1
  obtain rfl : args = #[v0, v1] := by cases args; simp_all
  obtain ⟨rfl, rfl⟩ := trodVars_none hV
  have k0 := h0
  have lt0 : ∀ x ∈ p0, x.block < W.heap.size := by obtain ⟨m, hm⟩ := k0; exact DataW.trod_lt m _ _ _ hm
  obtain ⟨u0, u1, u2, u3, y0, y1, y2, y3, nn, rfl, _, _, g0, g1, g2, g3⟩ := Go.Joins.open_agg4 Try.underlying30 (by kernel_rfl) (by kernel_rfl) (hval 0 30 v0 rfl rfl) h0
  obtain ⟨q0, e0, _, _⟩ := DataW.trod_int Try.underlying3 g0
  obtain rfl : u0 = .int .i64 q0 := by simpa using e0
  obtain ⟨q1, e1, _, _⟩ := DataW.trod_int Try.underlying3 g1
  obtain rfl : u1 = .int .i64 q1 := by simpa using e1
  obtain ⟨q3, e3, _, _⟩ := DataW.trod_int Try.underlying3 g3
  obtain rfl : u3 = .int .i64 q3 := by simpa using e3
  obtain ⟨a2, len2, cap2, rfl, gg⟩ := field_slice Try.underlying28 g2
  obtain ⟨zs, e2, m2, w2⟩ := open_Ar4 gg
  obtain ⟨a1, len1, cap1, rfl⟩ := okWide_slice Try.underlying37 (hval 1 37 v1 rfl rfl)
  have k1 := h1
  have lt1 : ∀ x ∈ p1, x.block < W.heap.size := by obtain ⟨m, hm⟩ := k1; exact DataW.trod_lt m _ _ _ hm
  obtain ⟨z1, e1, m1, _, ww1⟩ := open_Lg h1
  clear hA0 hval0
  refine (law_FnExactSteepLegs q0 q1 q3 a2 len2 cap2 zs a1 len1 cap1 z1 W e2 (by unfold maxLen at m2; omega) w2 e1 (by unfold maxLen at m1; omega) ww1).mono fun e W' ⟨he, bel⟩ => ?_
  subst he
  exact ⟨_, rfl, _, _, _, [], _, [], hW', trodAll_mk1 (shut_bool Try.underlying4 _), (trodAll_cons_mk (Below.trod laidOut (by kernel_rfl) (of_decide_eq_true (by kernel_rfl)) k0 bel lt0) (trodAll_cons_mk (Below.trod laidOut (by kernel_rfl) (of_decide_eq_true (by kernel_rfl)) k1 bel lt1) trodAll_mk0)), rfl, bel.frame _, fun h => by cases h⟩

theorem over : Rows.fnExactSteepLegsRow.holds Try.pinned (OpenSpec.ofChange Rows.fnExactSteepLegsSpec) :=
  OpenClaim.holds_of_wide 5 Try.f5 rfl rfl rfl rfl rfl rfl rfl ⟨rfl, rfl, rfl, rfl, rfl⟩ rfl rfl rfl rfl rfl (by kernel_rfl) Try.func5 (by kernel_rfl)
    (of_decide_eq_true (by kernel_rfl)) (by unfold Func.isWrapper; first | (rw [if_pos (by decide +kernel)]; kernel_rfl) | (rw [if_neg (by decide +kernel)]; exact ⟨rfl, rfl⟩))
    (fun os started H enc _ => lifted os started H enc)

theorem proved : Rows.FnExactSteepLegsSaid := over
#print axioms proved
end Go.Proofs.Ythcfkihpihgjeaa.pSteepLegs
