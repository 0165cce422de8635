/- FnOrders: the plain law. -/
import Derived.Test.YtdgalehipgdhiaaH1
import Derived.Test.YtdgalehipgdhiaaG1
import Derived.Test.YtdgalehipgdhiaaA8
import Derived.Test.YtdgalehipgdhiaaE1
import Derived.Test.YtdgalehipgdhiaaX1
namespace Go.Proofs.Ytdgalehipgdhiaa
open Go.RowKit
set_option linter.unusedVariables false
set_option linter.unusedSimpArgs false

theorem Bytes.later {w w' : World} {ao : Option Addr} {n : Nat} (h : Bytes w.heap.size w ao n) (hb : Below w.heap.size w w') : Bytes w'.heap.size w' ao n := by
  rcases h with h | ⟨b, off, rfl, h1, h2, h3⟩
  · exact .inl h
  · refine .inr ⟨b, off, rfl, Nat.lt_of_lt_of_le h2 hb.size, Nat.lt_of_lt_of_le h2 hb.size, fun i hi => ?_⟩
    obtain ⟨x, x0, x1, hx⟩ := h3 i hi
    exact ⟨x, x0, x1, (hb.cell (p := ⟨b, _, none⟩) h1).trans hx⟩

def hasQ (is : List Int) (q : Int) : Bool := is.contains q
theorem notin_succ {is : List Int} {k : Nat} {q y : Int} (h : ∀ j, j < k → ∀ z, is[j]? = some z → z ≠ q) (hy : is[k]? = some y) (hn : y ≠ q) : ∀ j, j < k + 1 → ∀ z, is[j]? = some z → z ≠ q := fun j hj z hz => by
  rcases Nat.lt_succ_iff_lt_or_eq.1 hj with h1 | h1
  · exact h j h1 z hz
  · subst h1; rw [hy] at hz; injection hz with hz; subst hz; exact hn
set_option maxRecDepth 100000 in
theorem rHas_any (ao : Option Addr) (n c : Nat) (is : List Int) (q : Int) (w : World) (hz : is.length = n) (hn : n ≤ 1048576) (hr : Rd encI 1 w.heap.size w ao is) :
    Calls Try.prog 28 #[.slice ao n c, .int .i64 q] w fun e w' => e = .returned (.bool (hasQ is q)) ∧ Below w.heap.size w w' := by
  have HZ := hide hz
  have HR := hide hr
  clear hz hr
  go_enter Try.func28, Try.ntmps28
  go_wp2
  go_loopg [5] n (fun gk i wr => ∃ k : Nat, k ≤ n ∧ n - k ≤ gk ∧ i = .int .i64 k ∧ Aside (Below w.heap.size w wr) ∧ Aside (∀ j, j < k → ∀ z, is[j]? = some z → z ≠ q))
  case atStart => exact ⟨0, Nat.zero_le _, by omega, rfl, Below.refl _ _, fun j hj => absurd hj (Nat.not_lt_zero _)⟩
  case round =>
    obtain ⟨k, hk, hgk, rfl, BW, A⟩ := hrel
    by_cases hlt : k < n
    · have hlti : (k : Int) < (n : Int) := by omega
      have hk0 : (0 : Int) ≤ (k : Int) := by omega
      obtain ⟨b, off, rfl, hb1, hat⟩ := rdI HR.out (by rw [HZ.out]; omega)
      obtain ⟨x, hx, hxc⟩ := hat k (by rw [HZ.out]; exact hlt)
      have HX := hide hx
      obtain ⟨hbr, c0⟩ := hxc wr BW.out
      clear hx hxc hat
      by_cases hq : x = q
      · subst hq
        have HC : Hid (hasQ is x = true) := hide (by unfold hasQ; simpa using List.mem_of_getElem? HX.out)
        go_wp2
        go_ret
        exact ⟨ret_bool HC.out.symm, BW.out⟩
      · have HQ := hide hq
        have h1 : decide (x = q) = false := by simpa using hq
        have h2 : (x == q) = false := by simpa using hq
        clear hq
        go_wp2
        go_roundg (n - (k + 1))
        case measure => omega
        case rel => exact ⟨k + 1, by omega, by omega, by go_num, BW.out, notin_succ A.out HX.out HQ.out⟩
    · have hge : ¬ (k : Int) < (n : Int) := by omega
      have HC : Hid (hasQ is q = false) := hide (by
        unfold hasQ; rw [Bool.eq_false_iff]; intro h
        have h : q ∈ is := by simpa using h
        obtain ⟨j, hj⟩ := List.getElem?_of_mem h
        exact A.out j (by have := (List.getElem?_eq_some_iff.1 hj).1; rw [HZ.out] at this; omega) q hj rfl)
      go_wp2
      go_ret
      exact ⟨ret_bool HC.out.symm, BW.out⟩

theorem rd_nil {α : Type} {enc : α → List Value} {k B : Nat} {w : World} {ao : Option Addr} {zs : List α} (h : Rd enc k B w ao zs) (ha : ao = none) : zs = [] := by
  rcases h with h | ⟨b, off, he, _⟩
  · exact h
  · rw [ha] at he; cases he
theorem num_get (zs : List Pg) (k : Nat) : (numL zs)[k]? = (zs[k]?).map (numX k) := by unfold numL; rw [List.getElem?_mapIdx]
theorem atlas_nodup {zs : List Pg} (h : atlasB zs = true) : zs.Nodup := by
  rw [List.nodup_iff_pairwise_ne, List.pairwise_iff_getElem]
  intro i j hi hj hij he
  have h1 := atlas_idx h (List.getElem?_eq_getElem hi)
  have h2 := atlas_idx h (List.getElem?_eq_getElem hj)
  rw [he] at h1
  omega
theorem ky_num (k : Nat) (x : Pg) : kyP (numX k x) = kyP x := rfl
theorem ky_eq {x y : Pg} (h1 : x.r = y.r) (h2 : x.c = y.c) : kyP x = kyP y := by unfold kyP; rw [h1, h2]
theorem ordA_atlas {zs : List Pg} (h : atlasB zs = true) : atlasB (ordA zs) = true := by
  have hperm := sortE_perm kyP zs
  have hnd : (sortE kyP zs).Nodup := hperm.nodup_iff.2 (atlas_nodup h)
  have hlen : (ordA zs).length = zs.length := ordA_len zs
  unfold atlasB
  rw [hlen]
  have h12 := atlas_12 h
  simp only [h12, decide_true, Bool.and_true]
  refine allB_true fun k hk => ?_
  have hS : k < (sortE kyP zs).length := by rw [sortE_len]; exact hk
  have hy := List.getElem?_eq_getElem hS
  have hL : (ordA zs)[k]? = some (numX k (sortE kyP zs)[k]) := by unfold ordA; rw [num_get, hy]; rfl
  have hm : (sortE kyP zs)[k] ∈ zs := hperm.subset (List.getElem_mem hS)
  have hin := atlas_in h _ hm
  obtain ⟨i, hi⟩ := List.getElem?_of_mem hm
  have hl := atlas_l h hi
  unfold stepPg
  rw [getB hL]
  unfold okPg
  simp only [Bool.and_eq_true, decide_eq_true_eq]
  unfold inP at hin
  refine ⟨⟨⟨⟨rfl, inB_iff.2 ⟨hin.1, hin.2.1⟩⟩, inB_iff.2 ⟨hin.2.2.1, hin.2.2.2⟩⟩, inB_iff.2 hl⟩, ?_⟩
  refine (idx_hit hL (isP_self _) (fun j hj y hy2 => ?_)).1
  have hjS : j < (sortE kyP zs).length := by omega
  have hyj := List.getElem?_eq_getElem hjS
  unfold ordA at hy2
  rw [num_get, hyj] at hy2
  simp only [Option.map_some] at hy2
  injection hy2 with hy2
  rw [← hy2]
  rw [Bool.eq_false_iff]
  intro hp
  unfold isP at hp
  simp only [Bool.and_eq_true, beq_iff_eq] at hp
  have h1 : (sortE kyP zs)[j].r = (sortE kyP zs)[k].r := hp.1
  have h2 : (sortE kyP zs)[j].c = (sortE kyP zs)[k].c := hp.2
  have hmj : (sortE kyP zs)[j] ∈ zs := hperm.subset (List.getElem_mem hjS)
  have he := atlas_inj h _ hmj _ hm (ky_eq h1 h2)
  have := (List.pairwise_iff_getElem.1 (List.nodup_iff_pairwise_ne.1 hnd)) j k hjS hS hj
  exact this he
theorem ordA_again {zs : List Pg} (h : atlasB zs = true) : ordA (ordA zs) = ordA zs := by
  have hp : (ordA zs).Pairwise fun a b => kyP b ≤ kyP a := by
    rw [List.pairwise_iff_getElem]
    intro i j hi hj hij
    have hl : (ordA zs).length = (sortE kyP zs).length := by rw [ordA_len, sortE_len]
    have e : ∀ k (hk : k < (ordA zs).length), kyP (ordA zs)[k] = kyP ((sortE kyP zs)[k]'(by omega)) := by
      intro k hk
      have h1 := List.getElem?_eq_getElem (show k < (sortE kyP zs).length by omega)
      have h2 : (ordA zs)[k]? = some (numX k ((sortE kyP zs)[k]'(by omega))) := by unfold ordA; rw [num_get, h1]; rfl
      have h3 := List.getElem?_eq_getElem hk
      rw [h3] at h2
      injection h2 with h2
      rw [h2]; rfl
    rw [e i hi, e j hj]
    exact List.pairwise_iff_getElem.1 (sortE_sorted kyP zs) i j (by omega) (by omega) hij
  have h1 := sorted_is (ordA_atlas h) (List.Perm.refl _) hp
  show numL (sortE kyP (ordA zs)) = ordA zs
  rw [← h1]
  apply List.ext_getElem?
  intro k
  rw [num_get]
  unfold ordA
  rw [num_get]
  cases (sortE kyP zs)[k]? with
  | none => rfl
  | some x => rfl
theorem oa_eq {zs : List Pg} (h : atlasB zs = true) : oaV zs = ordA zs := by unfold oaV; rw [h]; rfl
theorem oa_atlas {zs : List Pg} (h : atlasB zs = true) : atlasB (oaV zs) = true := by rw [oa_eq h]; exact ordA_atlas h
theorem oa_again {zs : List Pg} (h : atlasB zs = true) : oaV (oaV zs) = oaV zs := by rw [oa_eq (oa_atlas h), oa_eq h, ordA_again h]
theorem page_self {zs : List Pg} (h : atlasB zs = true) {k : Nat} {x : Pg} (hx : zs[k]? = some x) : pOk zs x.r x.c = true ∧ pageV zs x.r x.c = x.n := by
  have hb := atlas_at h hx
  have ho : pOk zs x.r x.c = true := by unfold pOk placeB; rw [h, inB_iff.2 ⟨hb.1, hb.2.1⟩, inB_iff.2 ⟨hb.2.2.1, hb.2.2.2⟩]; rfl
  refine ⟨ho, ?_⟩
  unfold pageV
  rw [if_pos ho, atlas_idx h hx, atlas_n h hx]
theorem seen_self {zs : List Pg} (h : atlasB zs = true) {k : Nat} {x : Pg} (hx : zs[k]? = some x) : okSeen zs (100 * x.c + 50) (100 * x.r + 50) = true ∧ x.n ∈ seenV zs (100 * x.c + 50) (100 * x.r + 50) := by
  have hb := atlas_at h hx
  have hl := atlas_l h hx
  have ho : okSeen zs (100 * x.c + 50) (100 * x.r + 50) = true := by unfold okSeen; rw [h, inB_iff.2 (by omega), inB_iff.2 (by omega)]; rfl
  refine ⟨ho, ?_⟩
  unfold seenV
  rw [if_pos ho]
  unfold gather
  refine List.mem_map.2 ⟨x, List.mem_filter.2 ⟨List.mem_of_getElem? hx, ?_⟩, rfl⟩
  unfold seenB
  rw [inB_iff.2 (by omega), inB_iff.2 (by omega)]; rfl
theorem has_yes {is : List Int} {q : Int} (h : q ∈ is) : hasQ is q = true := by unfold hasQ; simpa using h

end Go.Proofs.Ytdgalehipgdhiaa
