/- FnRights and FnEarned: the plain laws. -/
import Derived.Test.YtpghdjehagamlaaRE
import Derived.Test.YtpghdjehagamlaaRB
import Derived.Test.YtpghdjehagamlaaRA
import Derived.Test.YtpghdjehagamlaaR9
namespace Go.Proofs.Ytpghdjehagamlaa
open Go.RowKit
set_option linter.unusedVariables false
set_option linter.unusedSimpArgs false

theorem lawful_parts {rz : List Rt} {zs : List Cp} (h : lawful rz zs = true) : areR rz = true ∧ zs.length ≤ 15 ∧ (∀ x ∈ zs, okCp x = true) ∧ (∀ x ∈ zs, 0 ≤ leftV rz zs x.s x.r x.d) ∧ allB zs.length (stepC zs) = true := by
  unfold lawful at h
  simp only [Bool.and_eq_true, decide_eq_true_eq] at h
  obtain ⟨⟨⟨h1, h2⟩, h3⟩, h4⟩ := h
  refine ⟨h1, h2, fun x hx => ?_, fun x hx => ?_, h3⟩
  · obtain ⟨k, hk, rfl⟩ := List.getElem_of_mem hx
    have := allB_at h3 k hk
    unfold stepC at this
    rw [getB (List.getElem?_eq_getElem hk)] at this
    simp only [Bool.and_eq_true] at this
    exact this.1
  · obtain ⟨k, hk, rfl⟩ := List.getElem_of_mem hx
    have := allB_at h4 k hk
    simp only [getB (List.getElem?_eq_getElem hk)] at this
    unfold leftOk at this
    simpa using this
theorem okCp_parts {x : Cp} (h : okCp x = true) : inB x.s 1 999 = true ∧ inB x.r 1 999 = true ∧ inB x.d 0 4000 = true ∧ (1 ≤ x.p ∧ x.p ≤ 100) := by
  unfold okCp at h; simp only [Bool.and_eq_true] at h
  exact ⟨h.1.1.1, h.1.1.2, h.1.2, inB_iff.1 h.2⟩
theorem okRt_parts {r : Rt} (h : okRt r = true) : inB r.s 1 999 = true ∧ (0 ≤ r.e ∧ r.e ≤ 4000) ∧ (0 ≤ r.h ∧ r.h ≤ 100) ∧ (0 ≤ r.f ∧ r.f ≤ 1000) := by
  unfold okRt at h; simp only [Bool.and_eq_true] at h
  exact ⟨h.1.1.1, inB_iff.1 h.1.1.2, inB_iff.1 h.1.2, inB_iff.1 h.2⟩
theorem copy_parts {rz : List Rt} {zs : List Cp} {x : Cp} (h : okCopy rz zs x = true) : lawful rz zs = true ∧ lawful rz (zs ++ [x]) = true ∧ okCp x = true ∧ cpV rz zs x = zs ++ [x] ∧ cpF rz zs x = costV rz x := by
  have h' := h
  unfold okCopy at h
  simp only [Bool.and_eq_true] at h
  refine ⟨h.1, h.2, (lawful_parts h.2).2.2.1 x (by simp), ?_, ?_⟩
  · unfold cpV; rw [h']; rfl
  · unfold cpF; rw [h']; rfl
theorem copy_ok {rz : List Rt} {zs : List Cp} {x : Cp} (h : okCopy rz zs x = true) : okPL rz zs x.s x.r x.d = true ∧ okPL rz (cpV rz zs x) x.s x.r x.d = true ∧ okSD rz x.s x.d = true ∧ okOne rz zs x.r = true ∧ okOne rz (cpV rz zs x) x.r = true ∧
    okOne rz zs x.s = true ∧ okOne rz (cpV rz zs x) x.s = true := by
  obtain ⟨h1, h2, h3, h4, _⟩ := copy_parts h
  obtain ⟨p1, p2, p3, _⟩ := okCp_parts h3
  have hA := (lawful_parts h1).1
  unfold okPL okSD okOne
  rw [h4, h1, h2, p1, p2, p3, hA]
  exact ⟨rfl, rfl, rfl, rfl, rfl, rfl, rfl⟩
theorem used_snoc {r : Rt} {rd : Int} {zs : List Cp} {x : Cp} (hb : allB zs.length (stepC zs) = true) (hl : zs.length ≤ 15) (hx : okCp x = true) (hc : condU r rd x = true) : usedV r rd (zs ++ [x]) = usedV r rd zs + x.p := by
  have hu := used_bd (r := r) (rd := rd) hb hl
  have hp := (okCp_parts hx).2.2.2
  have e : (zs ++ [x])[zs.length]? = some x := by simp
  have := sum_yes (f := Cp.p) (c := condU r rd) e hc
  rw [show (zs ++ [x]).take (zs.length + 1) = zs ++ [x] from List.take_of_length_le (by simp), show (zs ++ [x]).take zs.length = zs from by simp] at this
  unfold usedV at *
  rw [this, wrap_in (by omega) (by omega)]
/-- what is left ahead of a copying and behind it -/
theorem copy_left {rz : List Rt} {zs : List Cp} {x : Cp} (h : okCopy rz zs x = true) :
    (freeR rz x.s x.d = true ∧ partV rz zs x.s x.r x.d = 100 ∧ partV rz (cpV rz zs x) x.s x.r x.d = 100 ∧ cpF rz zs x = 0) ∨
    (freeR rz x.s x.d = false ∧ -10000 ≤ partV rz zs x.s x.r x.d ∧ partV rz zs x.s x.r x.d ≤ 10000 ∧ partV rz zs x.s x.r x.d = partV rz (cpV rz zs x) x.s x.r x.d + x.p ∧ 1 ≤ x.p ∧ x.p ≤ 100) := by
  obtain ⟨h1, h2, h3, h4, h5⟩ := copy_parts h
  obtain ⟨k1, k2, _⟩ := copy_ok h
  obtain ⟨a1, a2, _, _, a5⟩ := lawful_parts h1
  obtain ⟨b1, b2, _, _, b5⟩ := lawful_parts h2
  have hp := (okCp_parts h3).2.2.2
  unfold partV
  rw [k1, k2, h4, h5]
  simp only [if_true]
  cases hf : rz.find? (isS x.s) with
  | none =>
    left
    obtain ⟨e1, e2⟩ := left_none (cz := zs) (rd := x.r) (d := x.d) hf
    obtain ⟨e3, _⟩ := left_none (cz := zs ++ [x]) (rd := x.r) (d := x.d) hf
    exact ⟨e2, e1, e3, (cost_none hf).1⟩
  | some r =>
    by_cases hd : r.e < x.d
    · left
      obtain ⟨e1, e2⟩ := left_free (cz := zs) (rd := x.r) hf hd
      obtain ⟨e3, _⟩ := left_free (cz := zs ++ [x]) (rd := x.r) hf hd
      exact ⟨e2, e1, e3, (cost_free hf hd).1⟩
    · right
      obtain ⟨e1, e2⟩ := left_some (cz := zs) (rd := x.r) hf hd
      obtain ⟨e3, _⟩ := left_some (cz := zs ++ [x]) (rd := x.r) hf hd
      have hrs : r.s = x.s := by have := List.find?_some hf; unfold isS at this; simpa using this
      have hc : condU r x.r x = true := by unfold condU; simp [hrs]; omega
      have hu := used_snoc a5 a2 h3 hc
      have hb := used_bd (r := r) (rd := x.r) a5 a2
      have hr := share_bd (find_ok a1 hf)
      rw [e1, e3, e2, hu, wrap_in (by omega) (by omega), wrap_in (by omega) (by omega)]
      refine ⟨rfl, ?_, ?_, ?_, ?_⟩ <;> omega
/-! ### what readers paid and sheets earned -/
theorem cost_bd {rz : List Rt} {x : Cp} (ha : areR rz = true) (hx : okCp x = true) : 0 ≤ costV rz x ∧ costV rz x ≤ (100000 : Nat) := by
  have hp := (okCp_parts hx).2.2.2
  cases hf : rz.find? (isS x.s) with
  | none => rw [(cost_none hf).1]; omega
  | some r =>
    by_cases hd : r.e < x.d
    · rw [(cost_free hf hd).1]; omega
    · rw [(cost_some hf hd).1]
      have hr := (okRt_parts (find_ok ha hf)).2.2.2
      have h0 : 0 ≤ r.f * x.p := Int.mul_nonneg hr.1 (by omega)
      have h1 : r.f * x.p ≤ 1000 * 100 := Int.mul_le_mul hr.2 hp.2 (by omega) (by omega)
      rw [wrap_in (by omega) (by omega)]; omega
theorem sumI_snoc {f : Cp → Int} {c : Cp → Bool} {zs : List Cp} {x : Cp} (hc : c x = true) : sumI f c (zs ++ [x]) = wrap64 (sumI f c zs + f x) := by
  have e : (zs ++ [x])[zs.length]? = some x := by simp
  have := sum_yes (f := f) (c := c) e hc
  rw [show (zs ++ [x]).take (zs.length + 1) = zs ++ [x] from List.take_of_length_le (by simp), show (zs ++ [x]).take zs.length = zs from by simp] at this
  exact this
theorem cost_sum {rz : List Rt} {zs : List Cp} {x : Cp} {c : Cp → Bool} (h : okCopy rz zs x = true) (hc : c x = true) :
    0 ≤ sumI (costV rz) c zs ∧ sumI (costV rz) c zs ≤ 1500000 ∧ sumI (costV rz) c (zs ++ [x]) = sumI (costV rz) c zs + costV rz x ∧ 0 ≤ costV rz x ∧ costV rz x ≤ 100000 := by
  obtain ⟨h1, h2, h3, h4, h5⟩ := copy_parts h
  obtain ⟨a1, a2, a3, _, a5⟩ := lawful_parts h1
  have hs := sum_bd (f := costV rz) (c := c) zs (m := 100000) (by omega) (by omega) (fun y hy => cost_bd a1 (a3 y hy))
  have hx := cost_bd a1 h3
  have hl : (zs.length : Int) * (100000 : Nat) ≤ 15 * (100000 : Nat) := Int.mul_le_mul_of_nonneg_right (by omega) (by omega)
  rw [sumI_snoc hc, wrap_in (by omega) (by omega)]
  refine ⟨hs.1, ?_, rfl, hx.1, ?_⟩ <;> omega
theorem copy_paid {rz : List Rt} {zs : List Cp} {x : Cp} (h : okCopy rz zs x = true) :
    0 ≤ paidV rz zs x.r ∧ paidV rz zs x.r ≤ 1500000 ∧ paidV rz (cpV rz zs x) x.r = paidV rz zs x.r + cpF rz zs x ∧ 0 ≤ cpF rz zs x ∧ cpF rz zs x ≤ 100000 := by
  obtain ⟨_, _, _, h4, h5⟩ := copy_parts h
  obtain ⟨_, _, _, k4, k5, _, _⟩ := copy_ok h
  unfold paidV
  rw [k4, k5, h4, h5]
  exact cost_sum h (by unfold isRd; simp)
theorem copy_earned {rz : List Rt} {zs : List Cp} {x : Cp} (h : okCopy rz zs x = true) :
    0 ≤ earnedV rz zs x.s ∧ earnedV rz zs x.s ≤ 1500000 ∧ earnedV rz (cpV rz zs x) x.s = earnedV rz zs x.s + cpF rz zs x ∧ 0 ≤ cpF rz zs x ∧ cpF rz zs x ≤ 100000 := by
  obtain ⟨_, _, _, h4, h5⟩ := copy_parts h
  obtain ⟨_, _, _, _, _, k6, k7⟩ := copy_ok h
  unfold earnedV earnV
  rw [k6, k7, h4, h5]
  exact cost_sum h (by unfold isSh; simp)
/-! ### the first free day -/
theorem from_free {rz : List Rt} {s : Int} (h : fromOk rz s = true) : okSD rz s (fromV rz s) = true ∧ freeR rz s (fromV rz s) = true ∧ 0 ≤ fromV rz s ∧ fromV rz s ≤ 4000 ∧
    (0 < fromV rz s → okSD rz s (fromV rz s - 1) = true ∧ freeR rz s (fromV rz s - 1) = false) := by
  unfold fromOk at h
  simp only [Bool.and_eq_true] at h
  obtain ⟨h1, h2⟩ := h
  have h1' := h1
  unfold okS at h1'; simp only [Bool.and_eq_true] at h1'
  have hv : fromV rz s = (match rz.find? (isS s) with | none => 0 | some x => if x.e = 4000 then 0 else x.e + 1) := by unfold fromV; rw [h1]; rfl
  have sd : ∀ d : Int, 0 ≤ d → d ≤ 4000 → okSD rz s d = true := fun d a b => by unfold okSD; rw [h1'.1, h1'.2, inB_iff.2 ⟨a, b⟩]; rfl
  cases hf : rz.find? (isS s) with
  | none =>
    rw [hf] at hv; simp only at hv
    rw [hv]
    exact ⟨sd 0 (by omega) (by omega), by unfold freeR; rw [hf], by omega, by omega, fun h => absurd h (by omega)⟩
  | some r =>
    rw [hf] at h2 hv
    simp only [decide_eq_true_eq] at h2 hv
    rw [if_neg h2] at hv
    have hr := (okRt_parts (find_ok h1'.1 hf)).2.1
    rw [hv]
    refine ⟨sd _ (by omega) (by omega), by unfold freeR; rw [hf]; simp; omega, by omega, by omega, fun _ => ⟨sd _ (by omega) (by omega), ?_⟩⟩
    unfold freeR; rw [hf]; simp
/-! ### closed sheets; an extended right -/
theorem closed_zero {rz : List Rt} {zs : List Cp} {rd dy : Int} {s : Int} (h : s ∈ closedV rz zs rd dy) : okPL rz zs s rd dy = true ∧ partV rz zs s rd dy = 0 := by
  unfold closedV at h
  split at h
  · rename_i hk
    unfold gather at h
    rw [List.mem_map] at h
    obtain ⟨r, hr, rfl⟩ := h
    rw [List.mem_filter] at hr
    obtain ⟨hm, hs⟩ := hr
    unfold okTwo at hk; simp only [Bool.and_eq_true] at hk
    obtain ⟨k, hkk, rfl⟩ := List.getElem_of_mem hm
    have hok := areR_at (lawful_parts hk.1.1).1 (List.getElem?_eq_getElem hkk)
    have h1 : okPL rz zs rz[k].s rd dy = true := by unfold okPL; rw [hk.1.1, hk.1.2, hk.2, (okRt_parts hok).1]; rfl
    refine ⟨h1, ?_⟩
    unfold partV; rw [h1]
    unfold shut at hs
    simpa using hs
  · simp at h
theorem ext_free {rz : List Rt} {zs : List Cp} {s y : Int} (h : okExt rz zs s y = true) : okSD (extV rz zs s y) s y = true ∧ freeR (extV rz zs s y) s y = false := by
  have hv : extV rz zs s y = extL rz s y := by unfold extV; rw [h]; rfl
  have hd : inB y 0 4000 = true := by
    cases hh : inB y 0 4000 with
    | true => rfl
    | false => rw [ext_day hh] at h; cases h
  have h' := h
  unfold okExt at h'
  simp only [Bool.and_eq_true, decide_eq_true_eq] at h'
  obtain ⟨⟨⟨l1, i1⟩, _⟩, l2⟩ := h'
  rcases rt_cases rz s with hn | ⟨k, r, hk, hx, hi⟩
  · omega
  · have hL := extL_at (y := y) hi hx
    have hA := (lawful_parts l2).1
    have hsr : isS s r = true ∧ ∀ j, j < k → ∀ z, rz[j]? = some z → isS s z = false := by
      unfold rtI at hi
      rcases idx_cases (isS s) rz with ⟨e, _⟩ | ⟨k', x', _, hx', hp, e, _, hb⟩
      · rw [e] at hi; omega
      · rw [e] at hi
        have : k' = k := by omega
        subst this
        rw [hx] at hx'; injection hx' with hx'; subst hx'
        exact ⟨hp, hb⟩
    have hs1 : r.s = s := by have := hsr.1; unfold isS at this; simpa using this
    have hf : (extL rz s y).find? (isS s) = some (extX r y) := by
      rw [hL]
      refine (idx_hit (k := k) (by simp [List.getElem?_set_self hk]) (by unfold isS extX; simp [hs1]) (fun j hj z hz => ?_)).2
      rw [List.getElem?_set_ne (by omega)] at hz
      exact hsr.2 j hj z hz
    have hr1 : inB s 1 999 = true := by
      have := (okRt_parts (find_ok hA hf)).1
      unfold extX at this; simp only [hs1] at this; exact this
    rw [hv]
    refine ⟨by unfold okSD; rw [hA, hr1, hd]; rfl, ?_⟩
    unfold freeR; rw [hf]; unfold extX; simp

end Go.Proofs.Ytpghdjehagamlaa
