/- FnAtlas: the plain law. -/
import Derived.Test.YtdgalehipgdhiaaDoorA12
import Derived.Test.YtdgalehipgdhiaaDoorA5
import Derived.Test.YtdgalehipgdhiaaDoorD2
import Derived.Test.YtdgalehipgdhiaaDoorA9
import Derived.Test.YtdgalehipgdhiaaDoorK3
import Derived.Test.YtdgalehipgdhiaaDoorE1
import Derived.Test.YtdgalehipgdhiaaDoorX1
namespace Go.Proofs.YtdgalehipgdhiaaDoor
open Go.RowKit
set_option linter.unusedVariables false
set_option linter.unusedSimpArgs false

theorem Bytes.later {w w' : World} {ao : Option Addr} {n : Nat} (h : Bytes w.heap.size w ao n) (hb : Below w.heap.size w w') : Bytes w'.heap.size w' ao n := by
  rcases h with h | ⟨b, off, rfl, h1, h2, h3⟩
  · exact .inl h
  · refine .inr ⟨b, off, rfl, Nat.lt_of_lt_of_le h2 hb.size, Nat.lt_of_lt_of_le h2 hb.size, fun i hi => ?_⟩
    obtain ⟨x, x0, x1, hx⟩ := h3 i hi
    exact ⟨x, x0, x1, (hb.cell (p := ⟨b, _, none⟩) h1).trans hx⟩

def hasQ (is : List Int) (q : Int) : Bool := is.contains q
theorem notin_succ {is : List Int} {k : Nat} {q y : Int} (h : ∀ j, j < k → ∀ z, is[j]? = some z → z ≠ q) (hy : is[k]? = some y) (hn : y ≠ q) : ∀ j, j < k + 1 → ∀ z, is[j]? = some z → z ≠ q := fun j hj z hz => by
  rcases Nat.lt_succ_iff_lt_or_eq.1 hj with h1 | h1
  · exact h j h1 z hz
  · subst h1; rw [hy] at hz; injection hz with hz; subst hz; exact hn
set_option maxRecDepth 100000 in
theorem rHas_any (ao : Option Addr) (n c : Nat) (is : List Int) (q : Int) (w : World) (hz : is.length = n) (hn : n ≤ 1048576) (hr : Rd encI 1 w.heap.size w ao is) :
    Calls Tryd.prog 18 #[.slice ao n c, .int .i64 q] w fun e w' => e = .returned (.bool (hasQ is q)) ∧ Below w.heap.size w w' := by
  have HZ := hide hz
  have HR := hide hr
  clear hz hr
  go_enter Tryd.func18, Tryd.ntmps18
  go_wp2
  go_loopg [5] n (fun gk i wr => ∃ k : Nat, k ≤ n ∧ n - k ≤ gk ∧ i = .int .i64 k ∧ Aside (Below w.heap.size w wr) ∧ Aside (∀ j, j < k → ∀ z, is[j]? = some z → z ≠ q))
  case atStart => exact ⟨0, Nat.zero_le _, by omega, rfl, Below.refl _ _, fun j hj => absurd hj (Nat.not_lt_zero _)⟩
  case round =>
    obtain ⟨k, hk, hgk, rfl, BW, A⟩ := hrel
    by_cases hlt : k < n
    · have hlti : (k : Int) < (n : Int) := by omega
      have hk0 : (0 : Int) ≤ (k : Int) := by omega
      obtain ⟨b, off, rfl, hb1, hat⟩ := rdI HR.out (by rw [HZ.out]; omega)
      obtain ⟨x, hx, hxc⟩ := hat k (by rw [HZ.out]; exact hlt)
      have HX := hide hx
      obtain ⟨hbr, c0⟩ := hxc wr BW.out
      clear hx hxc hat
      by_cases hq : x = q
      · subst hq
        have HC : Hid (hasQ is x = true) := hide (by unfold hasQ; simpa using List.mem_of_getElem? HX.out)
        go_wp2
        go_ret
        exact ⟨ret_bool HC.out.symm, BW.out⟩
      · have HQ := hide hq
        have h1 : decide (x = q) = false := by simpa using hq
        have h2 : (x == q) = false := by simpa using hq
        clear hq
        go_wp2
        go_roundg (n - (k + 1))
        case measure => omega
        case rel => exact ⟨k + 1, by omega, by omega, by go_num, BW.out, notin_succ A.out HX.out HQ.out⟩
    · have hge : ¬ (k : Int) < (n : Int) := by omega
      have HC : Hid (hasQ is q = false) := hide (by
        unfold hasQ; rw [Bool.eq_false_iff]; intro h
        have h : q ∈ is := by simpa using h
        obtain ⟨j, hj⟩ := List.getElem?_of_mem h
        exact A.out j (by have := (List.getElem?_eq_some_iff.1 hj).1; rw [HZ.out] at this; omega) q hj rfl)
      go_wp2
      go_ret
      exact ⟨ret_bool HC.out.symm, BW.out⟩

theorem num_getA (zs : List Pg) (k : Nat) : (numL zs)[k]? = (zs[k]?).map (numX k) := by unfold numL; rw [List.getElem?_mapIdx]
theorem sn_at (a b C l : Int) (c : Nat) : ∀ r k : Nat, k < r * c → (snA a b C l c r)[k]? = some (snX a b C l (k / c) (k % c))
  | 0, k, h => by rw [Nat.zero_mul] at h; omega
  | r + 1, k, h => by
    rw [snA_succ]
    rw [Nat.succ_mul] at h
    by_cases hk : k < r * c
    · rw [List.getElem?_append_left (by rw [snA_len]; exact hk)]; exact sn_at a b C l c r k hk
    · rw [List.getElem?_append_right (by rw [snA_len]; omega), snA_len]
      have h1 : k / c = r := Nat.div_eq_of_lt_le (by omega) (by rw [Nat.succ_mul]; exact h)
      have h2 : k % c = k - r * c := by
        have := Nat.div_add_mod k c
        rw [h1, Nat.mul_comm] at this
        omega
      rw [h1, h2]
      unfold snR
      rw [List.getElem?_map, List.getElem?_range (by omega)]
      rfl
theorem sn_get {a b l : Int} {r c k : Nat} (hk : k < r * c) : (snL a b r c l)[k]! = numX k (snX a b c l (k / c) (k % c)) := by
  refine getB ?_
  unfold snL
  rw [num_getA, Int.toNat_natCast, Int.toNat_natCast, sn_at a b c l c r k hk]
  rfl
theorem sn_length {a b l : Int} {r c : Nat} : (snL a b r c l).length = r * c := by unfold snL; rw [num_len, Int.toNat_natCast, Int.toNat_natCast, snA_len]
theorem sn_step {a b l : Int} {r c : Nat} (h1 : 1 ≤ c) (h2 : c ≤ 4) (k : Nat) (hk : k + 1 < (snL a b r c l).length) : besB (snL a b r c l)[k]! (snL a b r c l)[k + 1]! = true := by
  rw [sn_length] at hk
  rw [sn_get (by omega), sn_get hk]
  unfold besB numX snX
  simp only [decide_eq_true_eq]
  have hc : c = 1 ∨ c = 2 ∨ c = 3 ∨ c = 4 := by omega
  rcases hc with rfl | rfl | rfl | rfl <;> (split <;> split <;> omega)
theorem ruf_path {zs : List Pg} (h : ∀ k, k + 1 < zs.length → besB zs[k]! zs[k + 1]! = true) : ∀ k, k < zs.length → ruf zs k = 0
  | 0, _ => rfl
  | k + 1, hk => by rw [ruf, h k hk, ruf_path h k (by omega)]; rfl
theorem inn_has {zs : List Pg} {seen : List Nat} {s k : Nat} (hb : besB zs[s]! zs[k]! = true) : ∀ n, k < n → k ∈ innC zs seen s n
  | 0, h => absurd h (Nat.not_lt_zero _)
  | n + 1, h => by
    rw [innC]
    rcases Nat.lt_succ_iff_lt_or_eq.1 h with h1 | h1
    · obtain ⟨t, ht⟩ := stp_pre zs (innC zs seen s n) s n
      rw [ht]; exact List.mem_append_left _ (inn_has hb n h1)
    · subst h1
      unfold stpC
      split
      · simp
      · rename_i hc
        rw [hb, Bool.true_and] at hc
        simpa using hc
theorem out_add (zs : List Pg) (i : Nat) : ∀ j, ∃ t, outC zs (i + j) = outC zs i ++ t
  | 0 => ⟨[], by simp⟩
  | j + 1 => by
    obtain ⟨t, ht⟩ := out_add zs i j
    obtain ⟨u, hu⟩ := out_pre zs (i + j)
    exact ⟨t ++ u, by rw [← Nat.add_assoc, hu, ht, List.append_assoc]⟩
theorem out_closed {zs : List Pg} (h0 : 0 < zs.length) {s k : Nat} (hs : s ∈ outC zs zs.length) (hk : k < zs.length) (hb : besB zs[s]! zs[k]! = true) : k ∈ outC zs zs.length := by
  obtain ⟨i, hi⟩ := List.getElem?_of_mem hs
  have hil := (List.getElem?_eq_some_iff.1 hi).1
  have hle := okS_len (out_ok h0 zs.length)
  have hi2 : i < (outC zs i).length := by
    rcases Nat.lt_or_ge i (outC zs i).length with h | h
    · exact h
    · have e := out_end h0 (i := i) (by omega) (by omega)
      rw [e] at hil; omega
  obtain ⟨t, ht⟩ := out_add zs i (zs.length - i)
  rw [show i + (zs.length - i) = zs.length from by omega] at ht
  rw [ht, List.getElem?_append_left hi2] at hi
  obtain ⟨u, hu⟩ := out_add zs (i + 1) (zs.length - (i + 1))
  rw [show i + 1 + (zs.length - (i + 1)) = zs.length from by omega] at hu
  rw [hu, out_go hi2 hi]
  exact List.mem_append_left _ (inn_has hb _ hk)
theorem one_path {zs : List Pg} (h0 : 0 < zs.length) (h : ∀ k, k + 1 < zs.length → besB zs[k]! zs[k + 1]! = true) : oneC zs = true := by
  have ha : ∀ k, k < zs.length → k ∈ outC zs zs.length := by
    intro k
    induction k with
    | zero =>
      intro _
      obtain ⟨t, ht⟩ := out_add zs 0 zs.length
      rw [Nat.zero_add] at ht
      rw [ht]; exact List.mem_append_left _ (by simp [outC])
    | succ k ih => intro hk; exact out_closed h0 (ih (by omega)) hk (h k hk)
  have h1 := okS_len (out_ok h0 zs.length)
  have h2 := nodup_le (List.range zs.length) (outC zs zs.length) List.nodup_range (fun x hx => ha x (List.mem_range.1 hx))
  rw [List.length_range] at h2
  unfold oneC
  simp only [decide_eq_true_eq]
  omega
/-- a snake that is told -/
theorem sn_law {a b R C l : Int} (h : okSn a b R C l = true) : atlasB (snV a b R C l) = true ∧ roughV (snV a b R C l) (snV a b R C l).length = 0 ∧ oneV (snV a b R C l) = true ∧ ((snV a b R C l).length : Int) = R * C ∧ IntKind.i64.wrap (R * C) = R * C := by
  have hv : snV a b R C l = snL a b R C l := by unfold snV; rw [if_pos h]
  rw [hv]
  unfold okSn okSn0 at h
  simp only [Bool.and_eq_true] at h
  have bR := inB_iff.1 h.1.1.2
  have bC := inB_iff.1 h.1.2
  have ha := h.2
  obtain ⟨r, rfl⟩ : ∃ k : Nat, R = k := ⟨R.toNat, by omega⟩
  obtain ⟨c, rfl⟩ : ∃ k : Nat, C = k := ⟨C.toNat, by omega⟩
  have hl := sn_length (a := a) (b := b) (l := l) (r := r) (c := c)
  have hp : 0 < r * c := Nat.mul_pos (by omega) (by omega)
  have hs := sn_step (a := a) (b := b) (l := l) (r := r) (c := c) (by omega) (by omega)
  have hm : r * c ≤ 4 * 4 := Nat.mul_le_mul (by omega) (by omega)
  refine ⟨ha, ?_, ?_, ?_, ?_⟩
  · unfold roughV; rw [if_pos ha]; exact ruf_path hs _ (by omega)
  · unfold oneV
    rw [ha, one_path (by omega) hs]
    cases hz : snL a b r c l with
    | nil => rw [hz] at hl; simp at hl; omega
    | cons x t => rfl
  · rw [hl]; push_cast; rfl
  · exact IntWalk.i64_in _ (by have : ((r * c : Nat) : Int) = (r : Int) * (c : Int) := by push_cast; rfl
                               omega)
theorem drp_one {zs : List Pg} {m : Int} (h : okDrop zs m = true) : (drpV zs m).length + 1 = zs.length := by
  unfold drpV
  rw [if_pos h, num_len]
  unfold okDrop at h; simp only [Bool.and_eq_true] at h
  have hm := inB_iff.1 h.2
  rw [dropP_len rfl (show (m - 1).toNat < zs.length by omega)]
  omega
theorem bes_back {zs : List Pg} {m q : Int} (h : q ∈ besV zs m) : okBes zs q = true ∧ m ∈ besV zs q := by
  unfold besV at h
  split at h
  · rename_i ho
    have ho2 := ho
    unfold okBes at ho2; simp only [Bool.and_eq_true] at ho2
    have ha := ho2.1
    have hm := inB_iff.1 ho2.2
    unfold gather at h
    obtain ⟨x, hx, hq⟩ := List.mem_map.1 h
    obtain ⟨hx, hb⟩ := List.mem_filter.1 hx
    obtain ⟨k, hk⟩ := List.getElem?_of_mem hx
    have hkl := (List.getElem?_eq_some_iff.1 hk).1
    have hn := atlas_n ha hk
    have hj : (m - 1).toNat < zs.length := by omega
    have hy := List.getElem?_eq_getElem hj
    have hny := atlas_n ha hy
    have hok : okBes zs q = true := by unfold okBes; rw [ha, inB_iff.2 (show 1 ≤ q ∧ q ≤ (zs.length : Int) by omega)]; rfl
    refine ⟨hok, ?_⟩
    unfold besV
    rw [if_pos hok]
    unfold gather
    refine List.mem_map.2 ⟨zs[(m - 1).toNat], List.mem_filter.2 ⟨List.getElem_mem hj, ?_⟩, by omega⟩
    unfold nextTo at hb ⊢
    rw [getB hy, bes_symm] at hb
    rw [show (q - 1).toNat = k from by omega, getB hk]
    exact hb
  · simp at h
theorem has_yes {is : List Int} {q : Int} (h : q ∈ is) : hasQ is q = true := by unfold hasQ; simpa using h

end Go.Proofs.YtdgalehipgdhiaaDoor
