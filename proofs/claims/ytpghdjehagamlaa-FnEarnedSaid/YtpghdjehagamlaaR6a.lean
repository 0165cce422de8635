/- The plain law on copyings. -/
import Derived.Test.YtpghdjehagamlaaR5
namespace Go.Proofs.Ytpghdjehagamlaa
open Go.RowKit

/-! The plain law: the program's and the reference's test of copyings answer alike. No Go here. -/
def okCp (x : Cp) : Bool := inB x.s 1 999 && inB x.r 1 999 && inB x.d 0 4000 && inB x.p 1 100
def stepC (zs : List Cp) (k : Nat) : Bool := okCp zs[k]! && (decide (k = 0) || decide (zs[k - 1]!.d ≤ zs[k]!.d))
def shareOk (rz : List Rt) (cz : List Cp) (x : Cp) : Bool := match rz.find? (isS x.s) with | none => true | some r => decide (usedV r x.r cz ≤ r.h)
def lawI (rz : List Rt) (cz : List Cp) : Bool := areR rz && decide (cz.length ≤ 15) && allB cz.length (fun k => stepC cz k && shareOk rz cz cz[k]!)
def leftOk (rz : List Rt) (cz : List Cp) (x : Cp) : Bool := decide (0 ≤ leftV rz cz x.s x.r x.d)
def lawful (rz : List Rt) (cz : List Cp) : Bool := areR rz && decide (cz.length ≤ 15) && allB cz.length (stepC cz) && allB cz.length (fun k => leftOk rz cz cz[k]!)
theorem allB_congr {n : Nat} {p q : Nat → Bool} (h : ∀ k, k < n → p k = q k) : allB n p = allB n q := by
  rw [Bool.eq_iff_iff]
  exact ⟨fun hp => allB_true fun j hj => (h j hj) ▸ allB_at hp j hj, fun hp => allB_true fun j hj => (h j hj).symm ▸ allB_at hp j hj⟩
theorem allB_and (n : Nat) (p q : Nat → Bool) : allB n (fun k => p k && q k) = (allB n p && allB n q) := by
  rw [Bool.eq_iff_iff, Bool.and_eq_true]
  refine ⟨fun h => ⟨allB_true fun j hj => ?_, allB_true fun j hj => ?_⟩, fun h => allB_true fun j hj => ?_⟩
  · have := allB_at h j hj; simp only [Bool.and_eq_true] at this; exact this.1
  · have := allB_at h j hj; simp only [Bool.and_eq_true] at this; exact this.2
  · simp only [Bool.and_eq_true]; exact ⟨allB_at h.1 j hj, allB_at h.2 j hj⟩
theorem part_bd {cz : List Cp} (h : allB cz.length (stepC cz) = true) : ∀ x ∈ cz, 0 ≤ x.p ∧ x.p ≤ (100 : Nat) := by
  intro x hx
  obtain ⟨k, hk, rfl⟩ := List.getElem_of_mem hx
  have := allB_at h k hk
  unfold stepC okCp at this
  rw [getB (List.getElem?_eq_getElem hk)] at this
  simp only [Bool.and_eq_true] at this
  have := inB_iff.1 this.1.2
  omega
theorem used_bd {r : Rt} {rd : Int} {cz : List Cp} (h : allB cz.length (stepC cz) = true) (hl : cz.length ≤ 15) : 0 ≤ usedV r rd cz ∧ usedV r rd cz ≤ 1500 := by
  have := sum_bd (c := condU r rd) cz (m := 100) (by omega) (by omega) (part_bd h)
  unfold usedV
  omega
theorem find_ok {rz : List Rt} {s : Int} {r : Rt} (ha : areR rz = true) (h : rz.find? (isS s) = some r) : okRt r = true := by
  obtain ⟨k, hk, hr⟩ := List.getElem_of_mem (List.mem_of_find?_eq_some h)
  exact areR_at ha (by rw [List.getElem?_eq_getElem hk, hr])
theorem share_bd {r : Rt} (h : okRt r = true) : 0 ≤ r.h ∧ r.h ≤ 100 := by
  unfold okRt at h; simp only [Bool.and_eq_true] at h; exact inB_iff.1 h.1.2
theorem used_none {r : Rt} {rd : Int} {cz : List Cp} (h : ∀ x ∈ cz, condU r rd x = false) : usedV r rd cz = 0 := by
  suffices H : ∀ k, k ≤ cz.length → sumI Cp.p (condU r rd) (cz.take k) = 0 by
    have := H cz.length (Nat.le_refl _); rw [List.take_length] at this; exact this
  intro k
  induction k with
  | zero => intro _; exact sum_zero
  | succ k ih =>
    intro hk
    have hx := List.getElem?_eq_getElem (show k < cz.length by omega)
    rw [sum_no hx (h _ (List.getElem_mem _))]
    exact ih (by omega)
theorem law_eq (rz : List Rt) (cz : List Cp) : lawI rz cz = lawful rz cz := by
  unfold lawI lawful
  rw [allB_and]
  cases ha : areR rz with
  | false => rfl
  | true =>
    cases hb : allB cz.length (stepC cz) with
    | false => simp
    | true =>
      by_cases hl : cz.length ≤ 15
      · simp only [Bool.true_and, Bool.and_true]
        congr 1
        rw [Bool.eq_iff_iff]
        refine ⟨fun h => allB_true fun k hk => ?_, fun h => allB_true fun k hk => ?_⟩
        · have hs := allB_at h k hk
          have hx := List.getElem?_eq_getElem hk
          simp only [getB hx] at hs ⊢
          generalize cz[k] = x at hs
          unfold leftOk
          rw [decide_eq_true_eq]
          unfold shareOk at hs
          unfold leftV
          cases hf : rz.find? (isS x.s) with
          | none => simp
          | some r =>
            rw [hf] at hs
            simp only [decide_eq_true_eq] at hs
            have hu := used_bd (r := r) (rd := x.r) hb hl
            have hr := share_bd (find_ok ha hf)
            simp only
            split
            · omega
            · rw [wrap_in (by omega) (by omega)]; omega
        · have hx := List.getElem?_eq_getElem hk
          simp only [getB hx]
          generalize cz[k] = x at hx
          unfold shareOk
          cases hf : rz.find? (isS x.s) with
          | none => rfl
          | some r =>
            simp only [decide_eq_true_eq]
            have hu := used_bd (r := r) (rd := x.r) hb hl
            have hr := share_bd (find_ok ha hf)
            by_cases hex : ∃ y ∈ cz, condU r x.r y = true
            · obtain ⟨y, hy, hc⟩ := hex
              obtain ⟨j, hj, rfl⟩ := List.getElem_of_mem hy
              have hs := allB_at h j hj
              simp only [getB (List.getElem?_eq_getElem hj)] at hs
              generalize cz[j] = y at hs hc
              unfold condU at hc
              simp only [Bool.and_eq_true, beq_iff_eq, decide_eq_true_eq] at hc
              have hrs : r.s = x.s := by have := List.find?_some hf; unfold isS at this; simpa using this
              unfold leftOk leftV at hs
              rw [decide_eq_true_eq, hc.1.1, hrs, hf, hc.1.2] at hs
              simp only at hs
              rw [if_neg (by omega), wrap_in (by omega) (by omega)] at hs
              omega
            · rw [used_none (fun y hy => by
                cases hc : condU r x.r y with
                | false => rfl
                | true => exact absurd ⟨y, hy, hc⟩ hex)]
              exact hr.1
      · simp [hl]

end Go.Proofs.Ytpghdjehagamlaa
