/- The best mosaics: plain. -/
import Derived.Test.YtpdfbijfklmonaaM18
import Derived.Test.YtpdfbijfklmonaaM13
namespace Go.Proofs.Ytpdfbijfklmonaa
open Go.RowKit
set_option linter.unusedVariables false
set_option linter.unusedSimpArgs false

def bitV (s k : Nat) : Int := bits .and .i64 ((s : Int) / 2 ^ k) 1
def bitB (s k : Nat) : Bool := bitV s k == 1
theorem bits_all : ∀ n, n < 11 → ∀ k, k < n → bitB (2 ^ n - 1) k = true := by decide +kernel
def sel (p : Nat → Bool) (zs : List Cv) : Nat → List Cv | 0 => [] | k + 1 => sel p zs k ++ if p k then [zs[k]!] else []
def subs (s : Nat) (zs : List Cv) : List Cv := sel (bitB s) zs zs.length
theorem sel_len (p : Nat → Bool) (zs : List Cv) : ∀ n, (sel p zs n).length ≤ n
  | 0 => by simp [sel]
  | n + 1 => by have := sel_len p zs n; simp only [sel]; split <;> simp <;> omega
theorem sel_yes {p : Nat → Bool} {zs : List Cv} {k : Nat} {x : Cv} (hx : zs[k]! = x) (h : p k = true) : sel p zs (k + 1) = sel p zs k ++ [x] := by rw [sel, h, hx]; rfl
theorem sel_no {p : Nat → Bool} {zs : List Cv} {k : Nat} (h : p k = false) : sel p zs (k + 1) = sel p zs k := by rw [sel, h]; simp
theorem sel_sub (p : Nat → Bool) (zs : List Cv) : ∀ n, n ≤ zs.length → (sel p zs n).Sublist (zs.take n)
  | 0, _ => by simp [sel]
  | n + 1, h => by
    have ih := sel_sub p zs n (by omega)
    have hx : zs[n]? = some zs[n]! := by rw [List.getElem?_eq_getElem (by omega), getB (List.getElem?_eq_getElem (by omega))]
    rw [List.take_add_one, hx]
    cases hp : p n with
    | true => rw [sel_yes rfl hp]; exact ih.append (List.Sublist.refl _)
    | false => rw [sel_no hp]; exact ih.trans (List.sublist_append_left _ _)
theorem sel_all {p : Nat → Bool} {zs : List Cv} : ∀ n, n ≤ zs.length → (∀ k, k < n → p k = true) → sel p zs n = zs.take n
  | 0, _, _ => by simp [sel]
  | n + 1, h, hp => by
    have hx : zs[n]? = some zs[n]! := by rw [List.getElem?_eq_getElem (by omega), getB (List.getElem?_eq_getElem (by omega))]
    rw [sel_yes rfl (hp n (by omega)), sel_all n (by omega) (fun k hk => hp k (by omega)), List.take_add_one, hx]; rfl
theorem subs_sub (s : Nat) (zs : List Cv) : (subs s zs).Sublist zs := by have := sel_sub (bitB s) zs zs.length (Nat.le_refl _); rwa [List.take_length] at this
theorem subs_full {zs : List Cv} (h : zs.length ≤ 10) : subs (2 ^ zs.length - 1) zs = zs := by
  unfold subs; rw [sel_all _ (Nat.le_refl _) (bits_all zs.length (by omega)), List.take_length]
def sumP (zs : List Cv) : Int := (zs.map Cv.p).sum
theorem sumP_snoc (zs : List Cv) (x : Cv) : sumP (zs ++ [x]) = sumP zs + x.p := by simp [sumP]
theorem sumP_bd : ∀ (zs : List Cv), (∀ x ∈ zs, 1 ≤ x.p ∧ x.p ≤ 1000) → 0 ≤ sumP zs ∧ sumP zs ≤ 1000 * (zs.length : Int)
  | [], _ => by simp [sumP]
  | x :: xs, h => by
    have ih := sumP_bd xs (fun y hy => h y (List.mem_cons_of_mem _ hy))
    have hx := h x (List.mem_cons_self ..)
    have e : sumP (x :: xs) = x.p + sumP xs := by simp [sumP]
    rw [e, List.length_cons]; omega
theorem good_mem {zs : List Cv} (h : goodAll zs) : ∀ x ∈ zs, okCv x = true := fun x hx => by obtain ⟨k, hk⟩ := List.getElem?_of_mem hx; exact h k x hk
theorem good_sub {zs cs : List Cv} (h : goodAll zs) (hs : cs.Sublist zs) : goodAll cs := fun k x hx => good_mem h x (hs.subset (List.mem_of_getElem? hx))
theorem good_p {zs : List Cv} (h : goodAll zs) : ∀ x ∈ zs, 1 ≤ x.p ∧ x.p ≤ 1000 := fun x hx => by have := okCv_bd (good_mem h x hx); omega

def lexC : List Int → List Int → Int | a :: p, b :: q => if a = b then lexC p q else cmpI a b | _, _ => 0
theorem cmpI_ne {a b : Int} (h : ¬ a = b) : ¬ cmpI a b = 0 := by
  unfold cmpI
  rcases Int.lt_or_gt_of_ne h with h1 | h1
  · simp [h1]
  · have h2 : ¬ a < b := by omega
    have h3 : b < a := h1
    simp [h2, h3]
theorem cmpI_neg {a b : Int} : cmpI a b < 0 ↔ a < b := by
  unfold cmpI
  by_cases h1 : a < b
  · simp [h1]
  · by_cases h2 : b < a
    · simp [h1, h2]
    · simp [h1, h2]
theorem lexC_diff : ∀ {xs ys : List Int} {k : Nat}, k < xs.length → k < ys.length → (∀ j, j < k → xs[j]! = ys[j]!) → ¬ xs[k]! = ys[k]! → lexC xs ys = cmpI xs[k]! ys[k]!
  | [], _, k, h, _, _, _ => absurd h (by simp)
  | _ :: _, [], k, _, h, _, _ => absurd h (by simp)
  | x :: xs, y :: ys, 0, _, _, _, h => by
    have h' : ¬ x = y := by simpa using h
    rw [lexC, if_neg h']; simp
  | x :: xs, y :: ys, k + 1, h1, h2, ha, h => by
    have e : x = y := by have := ha 0 (by omega); simpa using this
    have := lexC_diff (xs := xs) (ys := ys) (k := k) (by simpa using h1) (by simpa using h2) (fun j hj => by have := ha (j + 1) (by omega); simpa using this) (by simpa using h)
    rw [lexC, if_pos e, this]; simp
theorem lexC_same : ∀ {xs ys : List Int}, xs.length = ys.length → (∀ j, j < xs.length → xs[j]! = ys[j]!) → lexC xs ys = 0
  | [], ys, _, _ => by cases ys <;> rfl
  | _ :: _, [], h, _ => by simp at h
  | x :: xs, y :: ys, h, ha => by
    have e : x = y := by have := ha 0 (by simp); simpa using this
    rw [lexC, if_pos e]
    exact lexC_same (by simpa using h) (fun j hj => by have := ha (j + 1) (by simp; omega); simpa using this)
theorem lexC_zero : ∀ {xs ys : List Int}, xs.length = ys.length → lexC xs ys = 0 → xs = ys
  | [], [], _, _ => rfl
  | [], _ :: _, h, _ => by simp at h
  | _ :: _, [], h, _ => by simp at h
  | x :: xs, y :: ys, h, h0 => by
    by_cases e : x = y
    · rw [lexC, if_pos e] at h0; rw [e, lexC_zero (by simpa using h) h0]
    · rw [lexC, if_neg e] at h0; exact absurd h0 (cmpI_ne e)
theorem lexC_tri : ∀ {xs ys : List Int}, ¬ lexC xs ys < 0 → ¬ lexC ys xs < 0 → lexC xs ys = 0
  | [], ys, _, _ => by cases ys <;> rfl
  | _ :: _, [], _, _ => rfl
  | x :: xs, y :: ys, h1, h2 => by
    by_cases e : x = y
    · rw [lexC, if_pos e] at h1 ⊢; rw [lexC, if_pos e.symm] at h2; exact lexC_tri h1 h2
    · rw [lexC, if_neg e, cmpI_neg] at h1; rw [lexC, if_neg (fun h => e h.symm), cmpI_neg] at h2
      exact absurd (show x = y by omega) e
theorem lexC_trans : ∀ {xs ys zs : List Int}, lexC xs ys < 0 → lexC ys zs < 0 → lexC xs zs < 0
  | [], ys, _, h, _ => by cases ys <;> simp [lexC] at h
  | _ :: _, [], _, h, _ => by simp [lexC] at h
  | _ :: _, _ :: _, [], _, h => by simp [lexC] at h
  | x :: xs, y :: ys, z :: zs, h1, h2 => by
    by_cases e1 : x = y
    · rw [lexC, if_pos e1] at h1
      by_cases e2 : y = z
      · rw [lexC, if_pos e2] at h2; rw [lexC, if_pos (e1.trans e2)]; exact lexC_trans h1 h2
      · rw [lexC, if_neg e2, cmpI_neg] at h2; rw [lexC, if_neg (by omega), cmpI_neg]; omega
    · rw [lexC, if_neg e1, cmpI_neg] at h1
      by_cases e2 : y = z
      · rw [lexC, if_neg (by omega), cmpI_neg]; omega
      · rw [lexC, if_neg e2, cmpI_neg] at h2; rw [lexC, if_neg (by omega), cmpI_neg]; omega
def befB (a b : List Int) : Bool := decide (a.length < b.length) || (decide (a.length = b.length) && decide (lexC a b < 0))
theorem befB_iff {a b : List Int} : befB a b = true ↔ a.length < b.length ∨ (a.length = b.length ∧ lexC a b < 0) := by simp [befB]
theorem bef_trans {a b c : List Int} (h1 : befB a b = true) (h2 : befB b c = true) : befB a c = true := by
  rw [befB_iff] at *
  rcases h1 with h1 | ⟨h1, h3⟩ <;> rcases h2 with h2 | ⟨h2, h4⟩
  · left; omega
  · left; omega
  · left; omega
  · right; exact ⟨by omega, lexC_trans h3 h4⟩
theorem bef_tri {a b : List Int} (h1 : befB a b = false) (h2 : befB b a = false) : a = b := by
  have h1 : ¬ befB a b = true := by rw [h1]; simp
  have h2 : ¬ befB b a = true := by rw [h2]; simp
  rw [befB_iff] at h1 h2
  have hl : a.length = b.length := by
    rcases Nat.lt_trichotomy a.length b.length with h | h | h
    · exact absurd (.inl h) h1
    · exact h
    · exact absurd (.inl h) h2
  exact lexC_zero hl (lexC_tri (fun h => h1 (.inr ⟨hl, h⟩)) (fun h => h2 (.inr ⟨hl.symm, h⟩)))
def ltK (pr : Bool) (x y : Int × List Int) : Bool := if pr then decide (x.1 < y.1) || (decide (x.1 = y.1) && befB x.2 y.2) else befB x.2 y.2
theorem ltK_trans {pr : Bool} {x y z : Int × List Int} (h1 : ltK pr x y = true) (h2 : ltK pr y z = true) : ltK pr x z = true := by
  cases pr with
  | false => simp only [ltK] at *; exact bef_trans h1 h2
  | true =>
    simp only [ltK, if_true, Bool.or_eq_true, Bool.and_eq_true, decide_eq_true_eq] at *
    rcases h1 with h1 | ⟨h1, h3⟩ <;> rcases h2 with h2 | ⟨h2, h4⟩
    · left; omega
    · left; omega
    · left; omega
    · right; exact ⟨by omega, bef_trans h3 h4⟩
theorem ltK_tri {pr : Bool} {x y : Int × List Int} (h1 : ltK pr x y = false) (h2 : ltK pr y x = false) : x.2 = y.2 ∧ (pr = true → x.1 = y.1) := by
  cases pr with
  | false => simp only [ltK] at *; exact ⟨bef_tri h1 h2, fun h => by cases h⟩
  | true =>
    simp only [ltK, if_true, Bool.or_eq_false_iff, Bool.and_eq_false_iff, decide_eq_false_iff_not] at *
    have e : x.1 = y.1 := by omega
    refine ⟨bef_tri ?_ ?_, fun _ => e⟩
    · rcases h1.2 with h | h
      · exact absurd e h
      · exact h
    · rcases h2.2 with h | h
      · exact absurd e.symm h
      · exact h
def keyOf (cs : List Cv) : Int × List Int := (sumP cs, cs.map Cv.i)

theorem lexC_irr : ∀ xs : List Int, lexC xs xs = 0
  | [] => rfl
  | x :: xs => by rw [lexC, if_pos rfl]; exact lexC_irr xs
theorem bef_irr {a : List Int} : befB a a = false := by unfold befB; rw [lexC_irr]; simp
theorem ltK_irr {pr : Bool} {x : Int × List Int} : ltK pr x x = false := by unfold ltK; rw [bef_irr]; cases pr <;> simp

theorem cntX_nn (zs : List Cv) (h : Nat) : ∀ n : Nat, 0 ≤ cntX zs h n
  | 0 => by simp [cntX]
  | n + 1 => by have := cntX_nn zs h n; have := cntY_bd zs n h; unfold cntX; omega
theorem cntY_zero {zs : List Cv} {a : Int} : ∀ {n : Nat}, cntY zs a n = 0 ↔ ∀ k : Nat, k < n → anyB zs a k = true
  | 0 => by simp [cntY]
  | n + 1 => by
    have ih := cntY_zero (zs := zs) (a := a) (n := n)
    have bd := cntY_bd zs a n
    cases h : anyB zs a n with
    | true =>
      rw [cntY_hit h, ih]
      exact ⟨fun H k hk => by rcases Nat.lt_succ_iff_lt_or_eq.1 hk with h1 | h1; exact H k h1; subst h1; exact h, fun H k hk => H k (by omega)⟩
    | false =>
      rw [cntY_miss h]
      exact ⟨fun H => by omega, fun H => by have := H n (by omega); rw [h] at this; cases this⟩
theorem cntX_zero {zs : List Cv} {hg : Nat} : ∀ {n : Nat}, cntX zs hg n = 0 ↔ ∀ j : Nat, j < n → cntY zs j hg = 0
  | 0 => by simp [cntX]
  | n + 1 => by
    have ih := cntX_zero (zs := zs) (hg := hg) (n := n)
    have b1 := cntX_nn zs hg n
    have b2 := cntY_bd zs n hg
    rw [cntX_succ]
    constructor
    · intro H j hj
      rcases Nat.lt_succ_iff_lt_or_eq.1 hj with h1 | h1
      · exact ih.1 (by omega) j h1
      · subst h1; omega
    · intro H
      have h1 := ih.2 (fun j hj => H j (by omega))
      have h2 := H n (by omega)
      omega
theorem cnt_mono {cs zs : List Cv} {hg wd : Nat} (hs : ∀ x ∈ cs, x ∈ zs) (h : cntX cs hg wd = 0) : cntX zs hg wd = 0 := by
  rw [cntX_zero] at h ⊢
  intro j hj
  have h1 := h j hj
  rw [cntY_zero] at h1 ⊢
  intro k hk
  have h2 := h1 k hk
  unfold anyB at h2 ⊢
  rw [List.any_eq_true] at h2 ⊢
  obtain ⟨x, hx, hp⟩ := h2
  exact ⟨x, hs x hx, hp⟩
def upd (pr : Bool) (wd hg : Nat) (c : List Cv) (b : Option (List Cv)) : Bool := (cntX c hg wd == 0) && (match b with | none => true | some b => ltK pr (keyOf c) (keyOf b))
def bestI (pr : Bool) (wd hg : Nat) (zs : List Cv) : Nat → Option (List Cv) | 0 => none | s + 1 => if upd pr wd hg (subs s zs) (bestI pr wd hg zs s) then some (subs s zs) else bestI pr wd hg zs s
def bestS (pr : Bool) (wd hg : Nat) (zs : List Cv) : Nat → List Cv | 0 => subs (2 ^ zs.length - 1) zs | s + 1 => if ltK pr (keyOf (subs s zs)) (keyOf (bestS pr wd hg zs s)) && (cntX (subs s zs) hg wd == 0) then subs s zs else bestS pr wd hg zs s
theorem bi_yes {pr : Bool} {wd hg : Nat} {zs : List Cv} {s : Nat} (h : upd pr wd hg (subs s zs) (bestI pr wd hg zs s) = true) : bestI pr wd hg zs (s + 1) = some (subs s zs) := by rw [bestI, h]; rfl
theorem bi_no {pr : Bool} {wd hg : Nat} {zs : List Cv} {s : Nat} (h : upd pr wd hg (subs s zs) (bestI pr wd hg zs s) = false) : bestI pr wd hg zs (s + 1) = bestI pr wd hg zs s := by rw [bestI, h]; simp
theorem bs_yes {pr : Bool} {wd hg : Nat} {zs : List Cv} {s : Nat} (h : ltK pr (keyOf (subs s zs)) (keyOf (bestS pr wd hg zs s)) = true) (h2 : cntX (subs s zs) hg wd = 0) : bestS pr wd hg zs (s + 1) = subs s zs := by rw [bestS, h, h2]; rfl
theorem bs_no {pr : Bool} {wd hg : Nat} {zs : List Cv} {s : Nat} (h : ltK pr (keyOf (subs s zs)) (keyOf (bestS pr wd hg zs s)) = false) : bestS pr wd hg zs (s + 1) = bestS pr wd hg zs s := by rw [bestS, h]; simp
theorem bs_no2 {pr : Bool} {wd hg : Nat} {zs : List Cv} {s : Nat} (h2 : ¬ cntX (subs s zs) hg wd = 0) : bestS pr wd hg zs (s + 1) = bestS pr wd hg zs s := by rw [bestS, beq_eq_false_iff_ne.2 h2, Bool.and_false]; simp
theorem invI (pr : Bool) (wd hg : Nat) (zs : List Cv) : ∀ s, match bestI pr wd hg zs s with
    | none => ∀ t, t < s → ¬ cntX (subs t zs) hg wd = 0
    | some b => (∃ t, t < s ∧ b = subs t zs ∧ cntX b hg wd = 0) ∧ ∀ t, t < s → cntX (subs t zs) hg wd = 0 → ltK pr (keyOf (subs t zs)) (keyOf b) = false
  | 0 => by simp [bestI]
  | s + 1 => by
    have ih := invI pr wd hg zs s
    cases hu : upd pr wd hg (subs s zs) (bestI pr wd hg zs s) with
    | true =>
      rw [bi_yes hu]
      unfold upd at hu
      simp only [Bool.and_eq_true, beq_iff_eq] at hu
      refine ⟨⟨s, by omega, rfl, hu.1⟩, fun t ht hc => ?_⟩
      rcases Nat.lt_succ_iff_lt_or_eq.1 ht with h1 | h1
      · cases hb : bestI pr wd hg zs s with
        | none => rw [hb] at ih; exact absurd hc (ih t h1)
        | some b =>
          rw [hb] at ih hu
          have h3 := ih.2 t h1 hc
          cases h4 : ltK pr (keyOf (subs t zs)) (keyOf (subs s zs)) with
          | false => rfl
          | true => rw [ltK_trans h4 hu.2] at h3; cases h3
      · subst h1
        cases h4 : ltK pr (keyOf (subs t zs)) (keyOf (subs t zs)) with
        | false => rfl
        | true => exact absurd h4 (by rw [ltK_irr]; simp)
    | false =>
      rw [bi_no hu]
      unfold upd at hu
      cases hb : bestI pr wd hg zs s with
      | none =>
        rw [hb] at ih hu
        simp only [Bool.and_true, beq_eq_false_iff_ne] at hu
        intro t ht
        rcases Nat.lt_succ_iff_lt_or_eq.1 ht with h1 | h1
        · exact ih t h1
        · subst h1; exact hu
      | some b =>
        rw [hb] at ih hu
        refine ⟨?_, fun t ht hc => ?_⟩
        · obtain ⟨t, h1, h2⟩ := ih.1; exact ⟨t, by omega, h2⟩
        · rcases Nat.lt_succ_iff_lt_or_eq.1 ht with h1 | h1
          · exact ih.2 t h1 hc
          · subst h1; rw [hc] at hu; simpa using hu
theorem invS {pr : Bool} {wd hg : Nat} {zs : List Cv} (h10 : zs.length ≤ 10) (h0 : cntX zs hg wd = 0) : ∀ s, s ≤ 2 ^ zs.length → (∃ t, t < 2 ^ zs.length ∧ bestS pr wd hg zs s = subs t zs ∧ cntX (subs t zs) hg wd = 0) ∧ ∀ t, t < s → cntX (subs t zs) hg wd = 0 → ltK pr (keyOf (subs t zs)) (keyOf (bestS pr wd hg zs s)) = false
  | 0, _ => ⟨⟨2 ^ zs.length - 1, by have := Nat.two_pow_pos zs.length; omega, rfl, by rw [subs_full h10]; exact h0⟩, fun t ht => absurd ht (Nat.not_lt_zero _)⟩
  | s + 1, hs => by
    have ih := invS (pr := pr) h10 h0 s (by omega)
    by_cases hc : cntX (subs s zs) hg wd = 0
    · cases hl : ltK pr (keyOf (subs s zs)) (keyOf (bestS pr wd hg zs s)) with
      | true =>
        rw [bs_yes hl hc]
        refine ⟨⟨s, by omega, rfl, hc⟩, fun t ht hct => ?_⟩
        rcases Nat.lt_succ_iff_lt_or_eq.1 ht with h1 | h1
        · have h3 := ih.2 t h1 hct
          cases h4 : ltK pr (keyOf (subs t zs)) (keyOf (subs s zs)) with
          | false => rfl
          | true => rw [ltK_trans h4 hl] at h3; cases h3
        · subst h1; exact ltK_irr
      | false =>
        rw [bs_no hl]
        refine ⟨ih.1, fun t ht hct => ?_⟩
        rcases Nat.lt_succ_iff_lt_or_eq.1 ht with h1 | h1
        · exact ih.2 t h1 hct
        · subst h1; exact hl
    · rw [bs_no2 hc]
      refine ⟨ih.1, fun t ht hct => ?_⟩
      rcases Nat.lt_succ_iff_lt_or_eq.1 ht with h1 | h1
      · exact ih.2 t h1 hct
      · subst h1; exact absurd hct hc
theorem best_same {pr : Bool} {wd hg : Nat} {zs : List Cv} (h10 : zs.length ≤ 10) (h0 : cntX zs hg wd = 0) : ∃ b, bestI pr wd hg zs (2 ^ zs.length) = some b ∧ (∃ t, b = subs t zs) ∧ b.map Cv.i = (bestS pr wd hg zs (2 ^ zs.length)).map Cv.i ∧ (pr = true → sumP b = sumP (bestS pr wd hg zs (2 ^ zs.length))) := by
  have hI := invI pr wd hg zs (2 ^ zs.length)
  obtain ⟨⟨t, ht, hbt, hct⟩, hS⟩ := invS (pr := pr) h10 h0 (2 ^ zs.length) (Nat.le_refl _)
  cases hb : bestI pr wd hg zs (2 ^ zs.length) with
  | none =>
    rw [hb] at hI
    exact absurd hct (hI t ht)
  | some b =>
    rw [hb] at hI
    obtain ⟨⟨u, hu, rfl, hcu⟩, hI2⟩ := hI
    have h1 := hS u hu hcu
    have h2 := hI2 t ht hct
    rw [← hbt] at h2
    have h3 := ltK_tri h1 h2
    exact ⟨_, rfl, ⟨u, rfl⟩, h3.1, h3.2⟩
theorem best_none {pr : Bool} {wd hg : Nat} {zs : List Cv} (h0 : ¬ cntX zs hg wd = 0) : bestI pr wd hg zs (2 ^ zs.length) = none := by
  have hI := invI pr wd hg zs (2 ^ zs.length)
  cases hb : bestI pr wd hg zs (2 ^ zs.length) with
  | none => rfl
  | some b =>
    rw [hb] at hI
    obtain ⟨⟨u, hu, rfl, hcu⟩, _⟩ := hI
    exact absurd (cnt_mono (fun x hx => (subs_sub u zs).subset hx) hcu) h0

theorem asc_of {zs : List Cv} (h : coversB zs = true) : ∀ k j : Nat, j < k → k < zs.length → zs[j]!.i < zs[k]!.i := by
  unfold coversB at h; simp only [Bool.and_eq_true] at h
  have step : ∀ k, 0 < k → k < zs.length → zs[k - 1]!.i < zs[k]!.i := fun k h0 hk => by
    have := allB_at h.1 k hk
    unfold stepCv at this; simp only [Bool.and_eq_true, Bool.or_eq_true, decide_eq_true_eq] at this
    rcases this.2 with h1 | h1
    · omega
    · exact h1
  intro k
  induction k with
  | zero => intro j hj; omega
  | succ k ih =>
    intro j hj hk
    have h1 := step (k + 1) (by omega) hk
    rw [Nat.add_sub_cancel] at h1
    rcases Nat.lt_succ_iff_lt_or_eq.1 hj with h2 | h2
    · have := ih j h2 (by omega); omega
    · subst h2; exact h1
theorem pw_of {zs : List Cv} (h : coversB zs = true) : zs.Pairwise fun x y => x.i < y.i := by
  rw [List.pairwise_iff_getElem]
  intro i j hi hj hij
  have := asc_of h j i hij hj
  rw [getB (List.getElem?_eq_getElem hi), getB (List.getElem?_eq_getElem hj)] at this
  exact this
theorem covers_10 {zs : List Cv} (h : coversB zs = true) : zs.length ≤ 10 := by unfold coversB at h; simp only [Bool.and_eq_true, decide_eq_true_eq] at h; exact h.2
theorem pick_self {zs : List Cv} (h : coversB zs = true) {x : Cv} (hx : x ∈ zs) : hasC zs x.i = true ∧ pick zs x.i = x := by
  obtain ⟨j, hj⟩ := List.getElem?_of_mem hx
  have hjl := (List.getElem?_eq_some_iff.1 hj).1
  rcases idx_cases (isC x.i) zs with ⟨_, _, h3⟩ | ⟨k, y, hk, hy, hp, h1, _, _⟩
  · have := h3 j x hj; unfold isC at this; simp at this
  · have e : y.i = x.i := by unfold isC at hp; exact beq_iff_eq.1 hp
    have : y = x := by
      rcases Nat.lt_trichotomy j k with h2 | h2 | h2
      · have := asc_of h k j h2 hk; rw [getB hj, getB hy] at this; omega
      · subst h2; rw [hj] at hy; injection hy with hy; exact hy.symm
      · have := asc_of h j k h2 hjl; rw [getB hj, getB hy] at this; omega
    exact ⟨has_yes h1, by unfold pick; rw [h1]; exact (getB hy).trans this⟩
theorem picks_subs {zs : List Cv} (h : coversB zs = true) (s : Nat) : picks zs ((subs s zs).map Cv.i) = subs s zs := by
  unfold picks
  rw [List.map_map]
  have : ∀ x ∈ subs s zs, (pick zs ∘ Cv.i) x = id x := fun x hx => (pick_self h ((subs_sub s zs).subset hx)).2
  rw [List.map_congr_left this, List.map_id]
theorem fr_subs {zs : List Cv} (h : coversB zs = true) (s : Nat) : (foundB zs ((subs s zs).map Cv.i) && risB ((subs s zs).map Cv.i)) = true := by
  rw [Bool.and_eq_true]
  constructor
  · unfold foundB
    refine allB_true fun j hj => ?_
    have hx := List.getElem?_eq_getElem hj
    have hm := List.mem_of_getElem? hx
    rw [List.mem_map] at hm
    obtain ⟨x, hm, he⟩ := hm
    rw [getI! hx, ← he]
    exact (pick_self h ((subs_sub s zs).subset hm)).1
  · unfold risB
    refine allB_true fun j hj => ?_
    have pw : ((subs s zs).map Cv.i).Pairwise (· < ·) := by
      rw [List.pairwise_map]; exact (pw_of h).sublist (subs_sub s zs)
    by_cases h0 : j = 0
    · exact stepR_0 h0
    · rw [List.pairwise_iff_getElem] at pw
      have := pw (j - 1) j (by omega) hj (by omega)
      exact stepR_yes (getI! (List.getElem?_eq_getElem hj)) (getI! (List.getElem?_eq_getElem (by omega))) this

end Go.Proofs.Ytpdfbijfklmonaa
