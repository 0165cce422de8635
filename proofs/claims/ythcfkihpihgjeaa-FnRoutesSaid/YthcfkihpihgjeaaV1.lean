/- FnRoutes: the plain law. -/
import Derived.Test.YthcfkihpihgjeaaT9
import Derived.Test.YthcfkihpihgjeaaT13a
import Derived.Test.YthcfkihpihgjeaaT16
import Derived.Test.YthcfkihpihgjeaaT20
namespace Go.Proofs.Ythcfkihpihgjeaa
open Go.RowKit
set_option linter.unusedVariables false
set_option linter.unusedSimpArgs false

/-! ### sums without wrapping -/
theorem foldl_ex {f : Lg → Int} (M : Nat) : ∀ (zs : List Lg) (t : Int), (∀ x ∈ zs, -(M : Int) ≤ f x ∧ f x ≤ M) → -9000000000000000000 ≤ t - (zs.length * M : Nat) → t + (zs.length * M : Nat) ≤ 9000000000000000000 →
    zs.foldl (fun t x => if yes x then wrap64 (t + f x) else t) t = t + (zs.map f).sum
  | [], t, _, _, _ => by simp
  | x :: zs, t, h, h0, h1 => by
    have hx := h x (by simp)
    have e : ((x :: zs).length * M : Nat) = zs.length * M + M := by rw [List.length_cons, Nat.succ_mul]
    rw [e] at h0 h1
    simp only [List.foldl_cons, List.map_cons, List.sum_cons, yes, if_true]
    rw [wrap_in (by omega) (by omega)]
    have := foldl_ex M zs (t + f x) (fun y hy => h y (by simp [hy])) (by omega) (by omega)
    simp only [yes, if_true] at this
    rw [this]; omega
theorem sumI_ex {f : Lg → Int} {zs : List Lg} (M : Nat) (hM : M ≤ 1000000) (hl : zs.length ≤ 1000) (h : ∀ x ∈ zs, -(M : Int) ≤ f x ∧ f x ≤ M) : sumI f yes zs = (zs.map f).sum := by
  unfold sumI
  have hb : zs.length * M ≤ 1000 * 1000000 := Nat.mul_le_mul hl hM
  rw [foldl_ex M zs 0 h (by omega) (by omega)]; omega
theorem route_mem {zs : List Lg} (h : routeB zs = true) {x : Lg} (hx : x ∈ zs) : legBd x := by
  obtain ⟨k, hk, rfl⟩ := List.getElem_of_mem hx
  exact route_bd h (List.getElem?_eq_getElem hk)
theorem route_mk {zs : List Lg} (hl : zs.length ≤ 12) (h : ∀ x ∈ zs, legBd x) : routeB zs = true := by
  unfold routeB
  rw [Bool.and_eq_true]
  refine ⟨allB_true fun j hj => ?_, by simpa using hl⟩
  have hx := List.getElem?_eq_getElem hj
  simp only [getB hx]
  have := h _ (List.getElem_mem hj)
  unfold legBd at this
  unfold okLeg; simp only [Bool.and_eq_true, inB_iff]; omega
theorem fE_bd {x : Lg} (h : legBd x) : -((14000 : Nat) : Int) ≤ fE x ∧ fE x ≤ (14000 : Nat) := by unfold fE; have := up_bd h.2.1 (d_bd x.w).1; omega
theorem fN_bd {x : Lg} (h : legBd x) : -((14000 : Nat) : Int) ≤ fN x ∧ fN x ≤ (14000 : Nat) := by unfold fN; have := up_bd h.2.1 (d_bd x.w).2; omega
theorem fC_bd {x : Lg} (h : legBd x) : -((14000 : Nat) : Int) ≤ fC x ∧ fC x ≤ (14000 : Nat) := by unfold fC; have := h.2.2; omega
theorem fW_bd {x : Lg} (h : legBd x) : -((14000 : Nat) : Int) ≤ walkV x ∧ walkV x ≤ (14000 : Nat) := by have := walk_bd h; omega
theorem sumOf_ex {f : Lg → Int} {zs : List Lg} (hf : ∀ x, legBd x → -((14000 : Nat) : Int) ≤ f x ∧ f x ≤ (14000 : Nat)) (h : routeB zs = true) : sumOf f zs = (zs.map f).sum := by
  unfold sumOf; rw [h]
  have := route_12 h
  exact sumI_ex 14000 (by omega) (by omega) fun x hx => hf x (route_mem h hx)
/-! ### the way back -/
theorem bk_bd {x : Lg} (h : legBd x) : legBd (bkX x) := by unfold legBd at *; unfold bkX; simp only; omega
theorem d_back {a : Int} (h : 0 ≤ a ∧ a ≤ 7) : dX ((a + 4) % 8) = -dX a ∧ dY ((a + 4) % 8) = -dY a := by
  have : a = 0 ∨ a = 1 ∨ a = 2 ∨ a = 3 ∨ a = 4 ∨ a = 5 ∨ a = 6 ∨ a = 7 := by omega
  rcases this with rfl | rfl | rfl | rfl | rfl | rfl | rfl | rfl <;> decide
theorem bk_E {x : Lg} (h : legBd x) : fE (bkX x) = -fE x := by unfold fE bkX; simp only; rw [(d_back h.1).1, Int.mul_neg]
theorem bk_N {x : Lg} (h : legBd x) : fN (bkX x) = -fN x := by unfold fN bkX; simp only; rw [(d_back h.1).2, Int.mul_neg]
theorem bk_C {x : Lg} : fC (bkX x) = -fC x := rfl
theorem bk_W {x : Lg} (h : legBd x) : walkV (bkX x) = walkV x := by
  unfold legBd at h
  unfold walkV bkX; simp only
  by_cases e : x.w % 2 = 0
  · rw [if_pos e, if_pos (by omega)]
  · rw [if_neg e, if_neg (by omega)]
theorem wb_route {zs : List Lg} (h : routeB zs = true) : routeB (wbV zs) = true := by
  unfold wbV wbL; rw [h]
  refine route_mk (by simpa using route_12 h) fun y hy => ?_
  simp only [if_true, List.mem_reverse, List.mem_map] at hy
  obtain ⟨x, hx, rfl⟩ := hy
  exact bk_bd (route_mem h hx)
theorem sum_rev (l : List Int) : l.reverse.sum = l.sum := by
  induction l with
  | nil => rfl
  | cons a l ih => simp [ih, Int.add_comm]
theorem wb_sum {f g : Lg → Int} (hf : ∀ x, legBd x → -((14000 : Nat) : Int) ≤ f x ∧ f x ≤ (14000 : Nat)) {zs : List Lg} (h : routeB zs = true) (hg : ∀ x, legBd x → f (bkX x) = g x) : sumOf f (wbV zs) = (zs.map g).sum := by
  rw [sumOf_ex hf (wb_route h)]
  unfold wbV wbL; rw [h]
  simp only [if_true, List.map_reverse, sum_rev, List.map_map]
  congr 1
  exact List.map_congr_left fun x hx => hg x (route_mem h hx)
theorem sum_neg (l : List Lg) (f : Lg → Int) : (l.map fun x => -f x).sum = -(l.map f).sum := by
  induction l with
  | nil => rfl
  | cons a l ih => simp [ih]; omega
/-! ### the plain route -/
theorem sum_snoc (l : List Lg) (x : Lg) (f : Lg → Int) : ((l ++ [x]).map f).sum = (l.map f).sum + f x := by simp
def smallLg (k : Nat) (y : Lg) : Prop := (0 ≤ y.w ∧ y.w ≤ 7) ∧ (1 ≤ y.u ∧ y.u ≤ 999 * (k : Int)) ∧ (-(999 * (k : Int)) ≤ y.c ∧ y.c ≤ 999 * (k : Int))
theorem plS_small {acc : List Lg} {k : Nat} (hk : k ≤ 20) (h : ∀ y ∈ acc, smallLg k y) {x : Lg} (hx : legBd x) :
    (∀ y ∈ plS acc x, smallLg (k + 1) y) ∧ (((plS acc x).map fE).sum = (acc.map fE).sum + fE x) ∧ (((plS acc x).map fN).sum = (acc.map fN).sum + fN x) ∧ (((plS acc x).map fC).sum = (acc.map fC).sum + fC x) ∧
      (((plS acc x).map walkV).sum = (acc.map walkV).sum + walkV x) := by
  have hx1 : smallLg (k + 1) x := by unfold legBd at hx; unfold smallLg; omega
  have up : ∀ y, smallLg k y → smallLg (k + 1) y := by intro y hy; unfold smallLg at *; omega
  rcases List.eq_nil_or_concat acc with rfl | ⟨a, y, rfl⟩
  · rw [plS_nil rfl]
    refine ⟨fun z hz => ?_, by simp, by simp, by simp, by simp⟩
    simp at hz; subst hz; exact hx1
  · simp only [List.concat_eq_append] at h ⊢
    have hy : (a ++ [y])[a.length]? = some y := by simp
    have hys := h y (by simp)
    cases he : y.w == x.w with
    | false =>
      rw [plS_no (i := a.length) (by simp) hy he]
      refine ⟨fun z hz => ?_, sum_snoc _ _ _, sum_snoc _ _ _, sum_snoc _ _ _, sum_snoc _ _ _⟩
      rw [List.mem_append] at hz
      rcases hz with hz | hz
      · exact up z (h z hz)
      · simp at hz; subst hz; exact hx1
    | true =>
      have hw : y.w = x.w := by simpa using he
      rw [plS_yes (i := a.length) (by simp) hy he]
      have es : (a ++ [y]).set a.length (mrg y x) = a ++ [mrg y x] := by simp
      rw [es]
      unfold smallLg at hys; unfold legBd at hx
      have e1 : wrap64 (y.u + x.u) = y.u + x.u := wrap_in (by omega) (by omega)
      have e2 : wrap64 (y.c + x.c) = y.c + x.c := wrap_in (by omega) (by omega)
      have em : mrg y x = ⟨x.w, y.u + x.u, y.c + x.c⟩ := by unfold mrg; rw [e1, e2]
      rw [em]
      refine ⟨fun z hz => ?_, ?_, ?_, ?_, ?_⟩
      · rw [List.mem_append] at hz
        rcases hz with hz | hz
        · exact up z (h z (by simp [hz]))
        · simp at hz; subst hz; unfold smallLg; simp only; omega
      · rw [sum_snoc, sum_snoc]; unfold fE; simp only; rw [hw, Int.add_mul]; omega
      · rw [sum_snoc, sum_snoc]; unfold fN; simp only; rw [hw, Int.add_mul]; omega
      · rw [sum_snoc, sum_snoc]; unfold fC; simp only; omega
      · rw [sum_snoc, sum_snoc]; unfold walkV; simp only; rw [hw]; split <;> omega
theorem pl_sums {zs : List Lg} (h : routeB zs = true) : ∀ k, k ≤ zs.length →
    (∀ y ∈ plL (zs.take k), smallLg k y) ∧ (((plL (zs.take k)).map fE).sum = ((zs.take k).map fE).sum) ∧ (((plL (zs.take k)).map fN).sum = ((zs.take k).map fN).sum) ∧ (((plL (zs.take k)).map fC).sum = ((zs.take k).map fC).sum) ∧
      (((plL (zs.take k)).map walkV).sum = ((zs.take k).map walkV).sum)
  | 0, _ => by simp [plL]
  | k + 1, hk => by
    have h12 := route_12 h
    obtain ⟨i1, i2, i3, i4, i5⟩ := pl_sums h k (by omega)
    have hx := List.getElem?_eq_getElem (show k < zs.length by omega)
    obtain ⟨j1, j2, j3, j4, j5⟩ := plS_small (by omega) i1 (route_bd h hx)
    have et : ∀ f : Lg → Int, ((zs.take (k + 1)).map f).sum = ((zs.take k).map f).sum + f zs[k] := fun f => by rw [List.take_add_one, hx]; exact sum_snoc _ _ _
    rw [pl_succ hx]
    exact ⟨j1, by rw [j2, i2, et], by rw [j3, i3, et], by rw [j4, i4, et], by rw [j5, i5, et]⟩
theorem pl_route {zs : List Lg} (h : okPl zs = true) : routeB zs = true ∧ routeB (plV zs) = true ∧ plV zs = plL zs := by
  have h' := h
  unfold okPl at h; simp only [Bool.and_eq_true] at h
  have e : plV zs = plL zs := by unfold plV; rw [h']; rfl
  exact ⟨h.1, by rw [e]; exact h.2, e⟩
theorem pl_same {zs : List Lg} (h : okPl zs = true) : sumOf fE (plV zs) = sumOf fE zs ∧ sumOf fN (plV zs) = sumOf fN zs ∧ sumOf fC (plV zs) = sumOf fC zs ∧ sumOf walkV (plV zs) = sumOf walkV zs := by
  obtain ⟨h1, h2, e⟩ := pl_route h
  obtain ⟨_, i2, i3, i4, i5⟩ := pl_sums h1 zs.length (Nat.le_refl _)
  rw [List.take_length] at i2 i3 i4 i5
  refine ⟨?_, ?_, ?_, ?_⟩
  · rw [sumOf_ex (fun _ => fE_bd) h2, sumOf_ex (fun _ => fE_bd) h1, e, i2]
  · rw [sumOf_ex (fun _ => fN_bd) h2, sumOf_ex (fun _ => fN_bd) h1, e, i3]
  · rw [sumOf_ex (fun _ => fC_bd) h2, sumOf_ex (fun _ => fC_bd) h1, e, i4]
  · rw [sumOf_ex (fun _ => fW_bd) h2, sumOf_ex (fun _ => fW_bd) h1, e, i5]
theorem wb_same {zs : List Lg} (h : routeB zs = true) : sumOf fE (wbV zs) = -sumOf fE zs ∧ sumOf fN (wbV zs) = -sumOf fN zs ∧ sumOf fC (wbV zs) = -sumOf fC zs ∧ sumOf walkV (wbV zs) = sumOf walkV zs := by
  refine ⟨?_, ?_, ?_, ?_⟩
  · rw [wb_sum (fun _ => fE_bd) h (g := fun x => -fE x) (fun x hx => bk_E hx), sum_neg, sumOf_ex (fun _ => fE_bd) h]
  · rw [wb_sum (fun _ => fN_bd) h (g := fun x => -fN x) (fun x hx => bk_N hx), sum_neg, sumOf_ex (fun _ => fN_bd) h]
  · rw [wb_sum (fun _ => fC_bd) h (g := fun x => -fC x) (fun x hx => bk_C), sum_neg, sumOf_ex (fun _ => fC_bd) h]
  · rw [wb_sum (fun _ => fW_bd) h (g := walkV) (fun x hx => bk_W hx), sumOf_ex (fun _ => fW_bd) h]
theorem sum_abs (f : Lg → Int) : ∀ l : List Lg, (∀ x ∈ l, -((14000 : Nat) : Int) ≤ f x ∧ f x ≤ (14000 : Nat)) → -(14000 * (l.length : Int)) ≤ (l.map f).sum ∧ (l.map f).sum ≤ 14000 * (l.length : Int)
  | [], _ => by simp
  | x :: l, h => by
    have ih := sum_abs f l (fun y hy => h y (by simp [hy]))
    have hx := h x (by simp)
    simp only [List.map_cons, List.sum_cons, List.length_cons]
    omega
theorem sumOf_bd {f : Lg → Int} {zs : List Lg} (hf : ∀ x, legBd x → -((14000 : Nat) : Int) ≤ f x ∧ f x ≤ (14000 : Nat)) : -200000 ≤ sumOf f zs ∧ sumOf f zs ≤ 200000 := by
  cases h : routeB zs with
  | false => unfold sumOf; rw [h]; simp
  | true =>
    rw [sumOf_ex hf h]
    have := sum_abs f zs (fun x hx => hf x (route_mem h hx))
    have := route_12 h
    omega
theorem plc_last {zs : List Lg} {j : Nat} (h : routeB zs = true) (hj : (plcV zs).length = j + 1) : (plcV zs)[j]? = some (sumOf fE zs, sumOf fN zs) := by
  have e := plc_yes rfl h
  rw [e] at hj ⊢
  rw [psL_len] at hj
  have := psL_last rfl hj
  rw [this]; unfold sumOf; rw [h]; rfl

end Go.Proofs.Ythcfkihpihgjeaa
