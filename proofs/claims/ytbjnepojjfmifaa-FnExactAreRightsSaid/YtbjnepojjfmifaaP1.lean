/- PROVED: 'laws.FnExactAreRights' returns true for every input: the program's AreRights returns what the reference's returns, and the arguments read afterwards as they read before. Conditions: none. -/
import Derived.Test.YtbjnepojjfmifaaRows
import Derived.Test.YtbjnepojjfmifaaA6
import Derived.Test.YtbjnepojjfmifaaPK
namespace Go.Proofs.Ytbjnepojjfmifaa.pAreRights
open Go.ChangeShapes Go.WideShapes Go.ChangeAt Go.RowKit
set_option linter.unusedVariables false

theorem own : ownKnob Try.prog.godebug = none := by kernel_rfl
theorem laidOut : laidOutB Try.prog = true := by kernel_rfl

def mkR (l : List Int) : Rt := ⟨l.getD 0 0, l.getD 1 0, l.getD 2 0, l.getD 3 0⟩
theorem mkR_enc (l : List Int) (h : l.length = 4) : encR (mkR l) = encL l := by
  match l, h with
  | [a, b, c, d], _ => rfl

theorem open_R {H : Type} {enc : TypeId × Value → H} {w : World} {a : Option Addr} {len cap : Nat} {d : DataW H} {ps : List MemPlace} (h : DataW.Trod enc Try.prog w 0 (fun _ => true) true 22 (.slice a len cap) d ps) :
    ∃ zs : List Rt, zs.length = len ∧ len ≤ maxLen ∧ Rd encR 4 w.heap.size w a zs := by
  obtain ⟨zs, h1, h2, h3, h4⟩ := open_structs (ti := 3) Try.underlying22 Try.underlying75 Try.underlying3 (by kernel_rfl) (by kernel_rfl) (by decide) (by intro j f hj; match j, hj with | 0, hj => simp at hj; rw [← hj] | 1, hj => simp at hj; rw [← hj] | 2, hj => simp at hj; rw [← hj] | 3, hj => simp at hj; rw [← hj] | j + 4, hj => simp at hj) h
  exact ⟨zs.map mkR, by simp [h1], h2, h4.conv mkR mkR_enc (fun l hl => (h3 l hl).1)⟩

set_option maxRecDepth 100000 in
theorem lifted (os : Os) (started : os.Started) (H : Type) (enc : TypeId × Value → H) :
    ReturnsInHanded {} Try.checked os 3 .any (Rows.fnExactAreRightsSpec.pre6 enc Try.prog Try.f3 Rows.fnExactAreRightsRow.domain false) (Rows.fnExactAreRightsSpec.post enc Try.prog Try.f3 false true false false) := by
  refine returnsInHanded_of_change (C := Try.checked) own started (by kernel_rfl) Try.func3
    (ChangeSpec.witness6 (enc := enc) (C := Try.checked) false ⟨#[], #[.slice none 0 0], []⟩ 8 (by kernel_rfl) (by kernel_rfl) (by kernel_rfl) (by kernel_rfl)) ?_
  intro W base args ds gs before hval0 hW hcnd _
  have hval : ∀ (j : Nat) t v, Try.f3.params[j]? = some t → args[j]? = some v → Value.okWide Try.prog W .any base t v := hval0
  have hW' := hW
  obtain ⟨p, q, hA0, hV, rfl, hfz, hnd⟩ := hW
  have hA : DataW.TrodAll enc Try.prog W 0 (fun _ => true) true Try.f3.params.toList args.toList ds p := hA0
  rw [Try.params3] at hA hval
  obtain ⟨v0, vs0, d0, ds0, p0, q0, hargs, rfl, rfl, h0, r0⟩ := trodAll_cons hA
  obtain ⟨rfl, rfl, rfl⟩ := trodAll_nil r0
  obtain rfl : args = #[v0] := by cases args; simp_all
  obtain ⟨rfl, rfl⟩ := trodVars_none hV
  obtain ⟨a0, len0, cap0, rfl⟩ := okWide_slice Try.underlying22 (hval 0 22 v0 rfl rfl)
  have k0 := h0
  have lt0 : ∀ x ∈ p0, x.block < W.heap.size := by obtain ⟨m, hm⟩ := k0; exact DataW.trod_lt m _ _ _ hm
  obtain ⟨z0, e0, m0, w0⟩ := open_R h0
  clear hA0 hval0
  refine (lawAreRights a0 len0 cap0 z0 W e0 (by unfold maxLen at m0; omega) w0).mono fun e W' ⟨he, bel⟩ => ?_
  subst he
  exact ⟨_, rfl, _, _, _, [], _, [], hW', trodAll_mk1 (shut_bool Try.underlying4 _), (trodAll_cons_mk (Below.trod laidOut (by kernel_rfl) (of_decide_eq_true (by kernel_rfl)) k0 bel lt0) trodAll_mk0), rfl, bel.frame _, fun h => by cases h⟩

theorem over : Rows.fnExactAreRightsRow.holds Try.pinned (OpenSpec.ofChange Rows.fnExactAreRightsSpec) :=
  OpenClaim.holds_of_wide 3 Try.f3 rfl rfl rfl rfl rfl rfl rfl ⟨rfl, rfl, rfl, rfl, rfl⟩ rfl rfl rfl rfl rfl (by kernel_rfl) Try.func3 (by kernel_rfl)
    (of_decide_eq_true (by kernel_rfl)) (by unfold Func.isWrapper; first | (rw [if_pos (by decide +kernel)]; kernel_rfl) | (rw [if_neg (by decide +kernel)]; exact ⟨rfl, rfl⟩))
    (fun os started H enc _ => lifted os started H enc)

theorem proved : Rows.FnExactAreRightsSaid := over
#print axioms proved
end Go.Proofs.Ytbjnepojjfmifaa.pAreRights
