/- FnMosaics and FnLonely: the plain laws. -/
import Derived.Test.YtpdfbijfklmonaaM21b
import Derived.Test.YtpdfbijfklmonaaM17
namespace Go.Proofs.Ytpdfbijfklmonaa
open Go.RowKit
set_option linter.unusedVariables false
set_option linter.unusedSimpArgs false

/-! ### every part of the list is told by bits -/
theorem ofInt_i64q (a : Nat) (ha : a < 9223372036854775808) : (BitVec.ofInt 64 (a : Int)).toNat = a := by
  rw [BitVec.ofInt_natCast, BitVec.toNat_ofNat]; exact Nat.mod_eq_of_lt (by omega)
theorem i64_and_natq (a b : Nat) (ha : a < 9223372036854775808) (hb : b < 9223372036854775808) : bits .and .i64 (a : Int) (b : Int) = ((a &&& b : Nat) : Int) := by
  have hx : a &&& b < 2 ^ 63 := Nat.and_lt_two_pow _ (by omega)
  show IntKind.i64.wrap ((BitVec.ofInt 64 (a : Int) &&& BitVec.ofInt 64 (b : Int)).toNat : Int) = _
  rw [BitVec.toNat_and, ofInt_i64q a ha, ofInt_i64q b hb, IntKind.wrap_i64]
  omega
theorem bitB_test {s k : Nat} (hs : s < 9223372036854775808) : bitB s k = s.testBit k := by
  unfold bitB bitV
  have e : ((s : Int) / 2 ^ k) = ((s / 2 ^ k : Nat) : Int) := by rw [Int.natCast_ediv, Int.natCast_pow]; rfl
  have hd := Nat.div_le_self s (2 ^ k)
  have := i64_and_natq (s / 2 ^ k) 1 (by omega) (by omega)
  rw [e, show (1 : Int) = ((1 : Nat) : Int) from rfl, this, Nat.testBit_eq_decide_div_mod_eq, Nat.and_one_is_mod]
  rw [Bool.eq_iff_iff]; simp; omega
theorem sel_congr {p q : Nat → Bool} {zs : List Cv} : ∀ n, (∀ k, k < n → p k = q k) → sel p zs n = sel q zs n
  | 0, _ => rfl
  | n + 1, h => by simp only [sel]; rw [sel_congr n (fun k hk => h k (by omega)), h n (by omega)]
theorem sub1 {l : List Cv} {x : Cv} (h : l.Sublist [x]) : l = [] ∨ l = [x] := by
  cases h with
  | cons _ h => exact .inl (List.sublist_nil.1 h)
  | cons_cons _ h => exact .inr (by rw [List.sublist_nil.1 h])
theorem sub_sel {zs : List Cv} : ∀ n, n ≤ zs.length → ∀ cs : List Cv, cs.Sublist (zs.take n) → ∃ t, t < 2 ^ n ∧ sel (Nat.testBit t) zs n = cs
  | 0, _, cs, h => ⟨0, by simp, by simp at h; subst h; rfl⟩
  | n + 1, hn, cs, h => by
    have hx : zs[n]? = some zs[n]! := by rw [List.getElem?_eq_getElem (by omega), getB (List.getElem?_eq_getElem (by omega))]
    rw [List.take_add_one, hx, List.sublist_append_iff] at h
    obtain ⟨c1, c2, rfl, h1, h2⟩ := h
    obtain ⟨t, ht, hs⟩ := sub_sel n (by omega) c1 h1
    have e2 : 2 ^ (n + 1) = 2 ^ n + 2 ^ n := by rw [Nat.pow_succ]; omega
    simp only [Option.toList_some] at h2
    rcases sub1 h2 with rfl | rfl
    · refine ⟨t, by omega, ?_⟩
      rw [sel_no (by exact Nat.testBit_lt_two_pow ht), hs, List.append_nil]
    · refine ⟨2 ^ n + t, by omega, ?_⟩
      have hb : Nat.testBit (2 ^ n + t) n = true := by rw [Nat.testBit_two_pow_add_eq, Nat.testBit_lt_two_pow ht]; rfl
      rw [sel_yes rfl hb, sel_congr (q := Nat.testBit t) n (fun k hk => Nat.testBit_two_pow_add_gt hk t), hs]
theorem sub_subs {zs cs : List Cv} (h10 : zs.length ≤ 10) (h : cs.Sublist zs) : ∃ t, t < 2 ^ zs.length ∧ subs t zs = cs := by
  obtain ⟨t, ht, hs⟩ := sub_sel zs.length (Nat.le_refl _) cs (by rw [List.take_length]; exact h)
  have h2 : 2 ^ zs.length ≤ 2 ^ 10 := Nat.pow_le_pow_right (by omega) h10
  refine ⟨t, ht, ?_⟩
  unfold subs
  rw [sel_congr (q := Nat.testBit t) _ (fun k _ => bitB_test (by omega)), hs]
/-! ### the best are the least -/
theorem few_ok {a b : Int} {zs : List Cv} (h : okFew a b zs = true) : wallB a b zs = true ∧ coversB zs = true ∧ zs.length ≤ 10 ∧ cntX zs b.toNat a.toNat = 0 := by
  unfold okFew at h; simp only [Bool.and_eq_true, beq_iff_eq] at h
  have hw := h.1
  unfold wallB at hw; simp only [Bool.and_eq_true] at hw
  exact ⟨h.1, hw.2, covers_10 hw.2, h.2⟩
def top (pr : Bool) (a b : Int) (zs : List Cv) : List Cv := bestS pr a.toNat b.toNat zs (2 ^ zs.length)
theorem top_is {pr : Bool} {a b : Int} {zs : List Cv} (h : okFew a b zs = true) : ∃ t, top pr a b zs = subs t zs ∧ cntX (subs t zs) b.toNat a.toNat = 0 := by
  obtain ⟨_, _, h10, h0⟩ := few_ok h
  obtain ⟨⟨t, _, h1, h2⟩, _⟩ := invS (pr := pr) h10 h0 (2 ^ zs.length) (Nat.le_refl _)
  exact ⟨t, h1, h2⟩
theorem top_sub {pr : Bool} {a b : Int} {zs : List Cv} (h : okFew a b zs = true) : (top pr a b zs).Sublist zs ∧ cntX (top pr a b zs) b.toNat a.toNat = 0 := by
  obtain ⟨t, h1, h2⟩ := top_is (pr := pr) h
  rw [h1]; exact ⟨subs_sub t zs, h2⟩
theorem top_min {pr : Bool} {a b : Int} {zs cs : List Cv} (h : okFew a b zs = true) (hs : cs.Sublist zs) (hc : cntX cs b.toNat a.toNat = 0) : ltK pr (keyOf cs) (keyOf (top pr a b zs)) = false := by
  obtain ⟨_, _, h10, h0⟩ := few_ok h
  obtain ⟨t, ht, rfl⟩ := sub_subs h10 hs
  exact (invS (pr := pr) h10 h0 (2 ^ zs.length) (Nat.le_refl _)).2 t ht hc
theorem few_min {a b : Int} {zs cs : List Cv} (h : okFew a b zs = true) (hs : cs.Sublist zs) (hc : cntX cs b.toNat a.toNat = 0) : (top false a b zs).length ≤ cs.length := by
  have := top_min (pr := false) h hs hc
  unfold ltK befB keyOf at this
  simp at this; omega
theorem che_min {a b : Int} {zs cs : List Cv} (h : okFew a b zs = true) (hs : cs.Sublist zs) (hc : cntX cs b.toNat a.toNat = 0) : sumP (top true a b zs) ≤ sumP cs := by
  have := top_min (pr := true) h hs hc
  unfold ltK keyOf at this
  simp at this; omega
theorem few_eq {a b : Int} {zs : List Cv} (h : okFew a b zs = true) : fewV a b zs = (top false a b zs).map Cv.i := by unfold fewV; rw [h]; rfl
theorem che_eq {a b : Int} {zs : List Cv} (h : okFew a b zs = true) : cheV a b zs = (top true a b zs).map Cv.i ∧ cheP a b zs = sumP (top true a b zs) := by unfold cheV cheP; rw [h]; exact ⟨rfl, rfl⟩
theorem top_mos {pr : Bool} {a b : Int} {zs : List Cv} (h : okFew a b zs = true) : okMos a b zs ((top pr a b zs).map Cv.i) = true ∧ mosV a b zs ((top pr a b zs).map Cv.i) = true ∧ picks zs ((top pr a b zs).map Cv.i) = top pr a b zs := by
  obtain ⟨hw, hcv, _, _⟩ := few_ok h
  obtain ⟨t, h1, h2⟩ := top_is (pr := pr) h
  rw [h1]
  have hf := fr_subs hcv t
  have hp := picks_subs hcv t
  simp only [Bool.and_eq_true] at hf
  have ho : okMos a b zs ((subs t zs).map Cv.i) = true := by unfold okMos; rw [hw, hf.1, hf.2]; rfl
  exact ⟨ho, by unfold mosV; rw [ho, hp, h2]; rfl, hp⟩
theorem nd_nil {a b : Int} {ps : List Cv} {is : List Int} : ∀ n, (∀ k, k < n → ndB a b ps k = false) → ndL a b ps is n = []
  | 0, _ => rfl
  | n + 1, h => by rw [ndL, nd_nil n (fun k hk => h k (by omega)), h n (by omega)]; rfl
theorem dropC_sub (zs : List Cv) (k : Nat) : (dropC zs k).Sublist zs := by
  unfold dropC
  have h1 : (zs.take k ++ zs.drop (k + 1)).Sublist (zs.take k ++ zs.drop k) := (List.Sublist.refl _).append (by rw [show k + 1 = k + 1 from rfl, ← List.drop_drop]; exact List.drop_sublist _ _)
  rwa [List.take_append_drop] at h1
theorem dropC_ln {zs : List Cv} {k : Nat} (hk : k < zs.length) : (dropC zs k).length + 1 = zs.length := by unfold dropC; simp; omega
theorem sumP_app (a b : List Cv) : sumP (a ++ b) = sumP a + sumP b := by simp [sumP]
theorem sumP_cons (x : Cv) (b : List Cv) : sumP (x :: b) = x.p + sumP b := by simp [sumP]
theorem dropC_sum {zs : List Cv} {k : Nat} (hk : k < zs.length) : sumP (dropC zs k) + zs[k].p = sumP zs := by
  have e : zs.take k ++ zs[k] :: zs.drop (k + 1) = zs := by rw [← List.drop_eq_getElem_cons hk, List.take_append_drop]
  have h1 := congrArg sumP e
  rw [sumP_app, sumP_cons] at h1
  unfold dropC
  rw [sumP_app]
  omega
theorem top_need {pr : Bool} {a b : Int} {zs : List Cv} (h : okFew a b zs = true) : needL a b zs ((top pr a b zs).map Cv.i) = [] := by
  obtain ⟨_, hm, hp⟩ := top_mos (pr := pr) h
  obtain ⟨hs, _⟩ := top_sub (pr := pr) h
  unfold needL
  rw [hm, hp]
  simp only [if_true]
  refine nd_nil _ fun k hk => ?_
  rw [List.length_map] at hk
  unfold ndB
  rw [beq_eq_false_iff_ne]
  intro hc
  have hsub := (dropC_sub (top pr a b zs) k).trans hs
  cases pr with
  | false => have := few_min h hsub hc; have := dropC_ln hk; omega
  | true =>
    have h1 := che_min h hsub hc
    have h2 := dropC_sum hk
    obtain ⟨_, hcv, _, _⟩ := few_ok h
    have hg := good_sub (good_of hcv) hs
    have := good_p hg _ (List.getElem_mem hk)
    omega
theorem few_le_che {a b : Int} {zs : List Cv} (h : okFew a b zs = true) : (fewV a b zs).length ≤ (cheV a b zs).length := by
  rw [few_eq h, (che_eq h).1, List.length_map, List.length_map]
  exact few_min h (top_sub h).1 (top_sub h).2
/-! ### sums of prices over the ids told -/
def hasI (is : List Int) (x : Cv) : Bool := is.contains x.i
theorem hasI_of {is : List Int} {x : Cv} (h : x.i ∈ is) : hasI is x = true := by unfold hasI; simpa using h
theorem filt_all {a b : Int} {zs cs : List Cv} {is : List Int} (hs : ∀ x ∈ cs, x ∈ zs) (hi : ∀ x ∈ cs, x.i ∈ is) (h0 : cntX cs b.toNat a.toNat = 0) : cntX (zs.filter (hasI is)) b.toNat a.toNat = 0 :=
  cnt_mono (fun x hx => List.mem_filter.2 ⟨hs x hx, hasI_of (hi x hx)⟩) h0
theorem few_price {a b : Int} {zs : List Cv} (h : okFew a b zs = true) : cheP a b zs ≤ sumP (zs.filter (hasI (fewV a b zs))) := by
  rw [(che_eq h).2]
  refine che_min h List.filter_sublist (filt_all (cs := top false a b zs) (fun x hx => (top_sub h).1.subset hx) (fun x hx => ?_) (top_sub h).2)
  rw [few_eq h]; exact List.mem_map_of_mem hx
def psum (zs : List Cv) (is : List Int) (k : Nat) : Int := sumP ((zs.take k).filter (hasI is))
theorem psum_yes {zs : List Cv} {is : List Int} {k : Nat} {x : Cv} (hx : zs[k]? = some x) (h : is.contains x.i = true) : psum zs is (k + 1) = psum zs is k + x.p := by
  unfold psum; rw [List.take_add_one, hx, List.filter_append, sumP_app]
  have h2 : hasI is x = true := h
  simp [List.filter_cons, h2, sumP]
theorem psum_no {zs : List Cv} {is : List Int} {k : Nat} {x : Cv} (hx : zs[k]? = some x) (h : is.contains x.i = false) : psum zs is (k + 1) = psum zs is k := by
  unfold psum; rw [List.take_add_one, hx, List.filter_append, sumP_app]
  have h2 : hasI is x = false := h
  simp [List.filter_cons, h2, sumP]
theorem psum_bd {zs : List Cv} (hg : goodAll zs) (is : List Int) (k : Nat) : 0 ≤ psum zs is k ∧ psum zs is k ≤ 1000 * (k : Int) := by
  unfold psum
  have hs : ((zs.take k).filter (hasI is)).Sublist zs := List.filter_sublist.trans (List.take_sublist _ _)
  have h := sumP_bd _ (good_p (good_sub hg hs))
  have h1 : ((zs.take k).filter (hasI is)).length ≤ k := Nat.le_trans (List.length_filter_le _ _) (List.length_take_le _ _)
  omega
theorem psum_end {a b : Int} {zs : List Cv} {N : Nat} (h : okFew a b zs = true) (hz : zs.length = N) : ¬ psum zs (fewV a b zs) N < cheP a b zs := by
  have := few_price h
  unfold psum
  rw [List.take_of_length_le (by omega)]
  omega
theorem nodup_len : ∀ (l m : List Int), l.Nodup → (∀ x ∈ l, x ∈ m) → l.length ≤ m.length
  | [], _, _, _ => by simp
  | x :: l, m, hn, hm => by
    rw [List.nodup_cons] at hn
    have hx := hm x (by simp)
    have := nodup_len l (m.erase x) hn.2 (fun y hy => by
      have hy2 := hm y (by simp [hy])
      have : y ≠ x := fun e => hn.1 (e ▸ hy)
      exact (List.mem_erase_of_ne this).2 hy2)
    have hl := List.length_erase_of_mem hx
    have hp : 0 < m.length := List.length_pos_of_mem hx
    rw [List.length_cons]; omega
/-- a told mosaic has as many covers as the fewest at least -/
theorem mos_few {a b : Int} {zs : List Cv} {is : List Int} (h : mosV a b zs is = true) : okFew a b zs = true ∧ (fewV a b zs).length ≤ is.length := by
  unfold mosV at h; simp only [Bool.and_eq_true, beq_iff_eq] at h
  obtain ⟨h1, h2⟩ := h
  unfold okMos at h1; simp only [Bool.and_eq_true] at h1
  obtain ⟨⟨hw, hf⟩, _⟩ := h1
  have hpm : ∀ x ∈ picks zs is, x ∈ zs ∧ x.i ∈ is := by
    intro x hx
    unfold picks at hx
    rw [List.mem_map] at hx
    obtain ⟨q, hq, rfl⟩ := hx
    obtain ⟨k, hk, rfl⟩ := List.getElem_of_mem hq
    have hh := allB_at (p := fun k => hasC zs is[k]!) hf k hk
    have hh : hasC zs is[k]! = true := hh
    rw [getI! (List.getElem?_eq_getElem hk)] at hh
    obtain ⟨j, hj⟩ := pick_mem hh
    refine ⟨List.mem_of_getElem? hj, ?_⟩
    have : (pick zs is[k]).i = is[k] := by
      unfold hasC at hh
      rcases idx_cases (isC is[k]) zs with ⟨e, _, _⟩ | ⟨j, x, _, hx, hp, e, _, _⟩
      · rw [e] at hh; simp at hh
      · unfold pick; rw [e]
        have hg : zs[j]! = x := getB hx
        rw [show ((j : Int)).toNat = j from by omega, hg]
        unfold isC at hp; exact beq_iff_eq.1 hp
    rw [this]; exact List.getElem_mem hk
  have h0 : cntX zs b.toNat a.toNat = 0 := cnt_mono (fun x hx => (hpm x hx).1) h2
  have ho : okFew a b zs = true := by unfold okFew; rw [hw, h0]; rfl
  refine ⟨ho, ?_⟩
  obtain ⟨_, hcv, _, _⟩ := few_ok ho
  have hm := few_min ho List.filter_sublist (filt_all (zs := zs) (is := is) (fun x hx => (hpm x hx).1) (fun x hx => (hpm x hx).2) h2)
  rw [few_eq ho, List.length_map]
  refine Nat.le_trans hm ?_
  have hn : ((zs.filter (hasI is)).map Cv.i).Nodup := by
    have pw := (pw_of hcv).sublist (List.filter_sublist (p := hasI is))
    unfold List.Nodup
    rw [List.pairwise_map]
    exact pw.imp (fun h => by omega)
  have := nodup_len _ is hn (fun q hq => by
    rw [List.mem_map] at hq
    obtain ⟨x, hx, rfl⟩ := hq
    have := (List.mem_filter.1 hx).2
    unfold hasI at this; simpa using this)
  rwa [List.length_map] at this
/-! ### lonely squares -/
theorem cnt_any {zs : List Cv} {a b : Int} {x y : Int} (h : cntX zs b.toNat a.toNat = 0) (hx : 0 ≤ x ∧ x < a) (hy : 0 ≤ y ∧ y < b) : anyB zs x y = true := by
  rw [cntX_zero] at h
  have h1 := h x.toNat (by omega)
  rw [cntY_zero] at h1
  have := h1 y.toNat (by omega)
  rwa [show ((x.toNat : Nat) : Int) = x from by omega, show ((y.toNat : Nat) : Int) = y from by omega] at this
theorem cntS_count {f : Ar2 → Bool} {zq : List Ar2} : ∀ n, n ≤ zq.length → cntS f zq n = ((zq.take n).countP f : Nat)
  | 0, _ => by simp [cntS]
  | n + 1, h => by
    have hx : zq[n]? = some zq[n]! := by rw [List.getElem?_eq_getElem (by omega), getB (List.getElem?_eq_getElem (by omega))]
    rw [cntS, cntS_count n (by omega), List.take_add_one, hx, List.countP_append]
    simp [List.countP_cons]
    split <;> simp
theorem pigeon : ∀ (cs : List Cv) (zq : List Ar2) (f : Ar2 → Cv → Bool), (∀ q ∈ zq, ∃ x ∈ cs, f q x = true) → (∀ x ∈ cs, zq.countP (fun q => f q x) ≤ 1) → zq.length ≤ cs.length
  | [], zq, f, h, _ => by
    cases zq with
    | nil => simp
    | cons q zq => obtain ⟨x, hx, _⟩ := h q (by simp); simp at hx
  | x :: cs, zq, f, h, h1 => by
    have ih := pigeon cs (zq.filter fun q => !f q x) f (fun q hq => by
      rw [List.mem_filter] at hq
      obtain ⟨y, hy, hf⟩ := h q hq.1
      rcases List.mem_cons.1 hy with rfl | hy
      · rw [hf] at hq; simp at hq
      · exact ⟨y, hy, hf⟩) (fun y hy => Nat.le_trans (List.Sublist.countP_le List.filter_sublist) (h1 y (by simp [hy])))
    have hx := h1 x (by simp)
    have hl := List.length_eq_countP_add_countP (fun q => f q x) (l := zq)
    have hc : (zq.filter fun q => !f q x).length = zq.countP (fun q => !f q x) := by rw [List.countP_eq_length_filter]
    have he : zq.countP (fun q => decide ¬f q x = true) = zq.countP (fun q => !f q x) := by congr 1; funext q; cases f q x <;> rfl
    rw [List.length_cons]; omega
theorem lonely_few {a b : Int} {zs : List Cv} {zq : List Ar2} (h : okFew a b zs = true) (hq : sqB a b zq = true) (hl : loneB zs zq = true) : zq.length ≤ (fewV a b zs).length := by
  rw [few_eq h, List.length_map]
  obtain ⟨hs, h0⟩ := top_sub (pr := false) h
  refine pigeon (top false a b zs) zq (fun q x => showsB q.a q.b x) (fun q hm => ?_) (fun x hx => ?_)
  · obtain ⟨k, hk, rfl⟩ := List.getElem_of_mem hm
    unfold sqB at hq; simp only [Bool.and_eq_true] at hq
    have := allB_at hq.1 k hk
    unfold stepQ at this
    rw [getB (List.getElem?_eq_getElem hk)] at this
    simp only [Bool.and_eq_true] at this
    have hi := this.1
    unfold inSq at hi; simp only [Bool.and_eq_true] at hi
    have i1 := inB_iff.1 hi.1
    have i2 := inB_iff.1 hi.2
    have := cnt_any h0 (x := zq[k].a) (y := zq[k].b) ⟨by omega, by omega⟩ ⟨by omega, by omega⟩
    unfold anyB at this
    rw [List.any_eq_true] at this
    exact this
  · obtain ⟨k, hk, rfl⟩ := List.getElem_of_mem (hs.subset hx)
    unfold loneB at hl
    have := allB_at hl k hk
    simp only [getB (List.getElem?_eq_getElem hk)] at this
    unfold loneX at this
    rw [cntS_count _ (Nat.le_refl _), List.take_length] at this
    simp at this
    omega
theorem lone_few {a b : Int} {zs : List Cv} {zq : List Ar2} (hl : lonV a b zs zq = true) (h : okFew a b zs = true) : zq.length ≤ (fewV a b zs).length := by
  unfold lonV okLon at hl; simp only [Bool.and_eq_true] at hl
  exact lonely_few h hl.1.2 hl.2
theorem proves_few {a b : Int} {zs : List Cv} {is : List Int} {zq : List Ar2} (h : pfV a b zs is zq = true) : okFew a b zs = true ∧ (fewV a b zs).length = is.length := by
  unfold pfV okPF at h; simp only [Bool.and_eq_true, decide_eq_true_eq] at h
  obtain ⟨⟨⟨⟨_, hq⟩, hm⟩, hl⟩, he⟩ := h
  obtain ⟨ho, h1⟩ := mos_few hm
  have := lonely_few ho hq hl
  exact ⟨ho, by omega⟩
/-! ### squares that one cover alone shows -/
theorem cntY_le {cs zs : List Cv} (hs : ∀ x ∈ cs, x ∈ zs) (a : Int) : ∀ n, cntY zs a n ≤ cntY cs a n
  | 0 => by simp [cntY]
  | n + 1 => by
    have ih := cntY_le hs a n
    cases h : anyB zs a n with
    | true =>
      rw [cntY_hit h]
      cases h2 : anyB cs a n with
      | true => rw [cntY_hit h2]; omega
      | false => rw [cntY_miss h2]; omega
    | false =>
      have : anyB cs a n = false := by
        rw [Bool.eq_false_iff]; intro h2
        unfold anyB at h h2
        rw [List.any_eq_true] at h2
        obtain ⟨x, hx, hp⟩ := h2
        rw [List.any_eq_false] at h
        exact h x (hs x hx) hp
      rw [cntY_miss h, cntY_miss this]; omega
theorem cntX_le {cs zs : List Cv} (hs : ∀ x ∈ cs, x ∈ zs) (hg : Nat) : ∀ n, cntX zs hg n ≤ cntX cs hg n
  | 0 => by simp [cntX]
  | n + 1 => by have := cntX_le hs hg n; have := cntY_le hs n hg; rw [cntX_succ, cntX_succ]; omega
theorem only_nn {a b : Int} {zs : List Cv} {s : Int} : 0 ≤ onlyV a b zs s := by
  unfold onlyV
  split
  · have := cntX_le (fun x hx => (dropC_sub zs (idxB (isC s) zs).toNat).subset hx) b.toNat a.toNat; omega
  · omega
theorem few_bare {a b : Int} {zs : List Cv} : okFew a b zs = (wallB a b zs && (bareV a b zs == 0)) := by
  unfold okFew bareV
  cases wallB a b zs <;> rfl

end Go.Proofs.Ytpdfbijfklmonaa
