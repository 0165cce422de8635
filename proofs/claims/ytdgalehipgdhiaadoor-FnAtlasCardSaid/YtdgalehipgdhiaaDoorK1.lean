/- IsOneCountry: the plain law. -/
import Derived.Test.YtdgalehipgdhiaaDoorA4
import Derived.Test.YtdgalehipgdhiaaDoorOwn
import Derived.Test.YtdgalehipgdhiaaDoorFInt
namespace Go.Proofs.YtdgalehipgdhiaaDoor
open Go.RowKit
set_option linter.unusedVariables false
set_option linter.unusedSimpArgs false

theorem ret_bb {a b c d : Bool} (h1 : a = b) (h2 : c = d) : Ending.returned (.tuple #[.bool a, .bool c]) = .returned (.tuple #[.bool b, .bool d]) := by rw [h1, h2]
theorem bes_symm (x y : Pg) : besB x y = besB y x := by unfold besB; rw [decide_eq_decide]; omega
def stpC (zs : List Pg) (seen : List Nat) (s k : Nat) : List Nat := if besB zs[s]! zs[k]! && !seen.contains k then seen ++ [k] else seen
def innC (zs : List Pg) (seen : List Nat) (s : Nat) : Nat → List Nat | 0 => seen | k + 1 => stpC zs (innC zs seen s k) s k
def outC (zs : List Pg) : Nat → List Nat | 0 => [0] | i + 1 => if i < (outC zs i).length then innC zs (outC zs i) (outC zs i)[i]! zs.length else outC zs i
def oneC (zs : List Pg) : Bool := decide ((outC zs zs.length).length = zs.length)
def oneV (zs : List Pg) : Bool := atlasB zs && (!zs.isEmpty && oneC zs)
theorem stp_pre (zs : List Pg) (seen : List Nat) (s k : Nat) : ∃ t, stpC zs seen s k = seen ++ t := by unfold stpC; split; exact ⟨_, rfl⟩; exact ⟨[], by simp⟩
theorem inn_pre (zs : List Pg) (seen : List Nat) (s : Nat) : ∀ k, ∃ t, innC zs seen s k = seen ++ t
  | 0 => ⟨[], by simp [innC]⟩
  | k + 1 => by
    obtain ⟨t, ht⟩ := inn_pre zs seen s k
    obtain ⟨u, hu⟩ := stp_pre zs (innC zs seen s k) s k
    exact ⟨t ++ u, by rw [innC, hu, ht, List.append_assoc]⟩
theorem out_pre (zs : List Pg) (i : Nat) : ∃ t, outC zs (i + 1) = outC zs i ++ t := by rw [outC]; split; exact inn_pre _ _ _ _; exact ⟨[], by simp⟩
def okS (n : Nat) (l : List Nat) : Prop := l.Nodup ∧ ∀ x ∈ l, x < n
theorem stp_ok {zs : List Pg} {seen : List Nat} {s k : Nat} (hk : k < zs.length) (h : okS zs.length seen) : okS zs.length (stpC zs seen s k) := by
  unfold stpC
  split
  · rename_i hc
    simp only [Bool.and_eq_true, Bool.not_eq_true'] at hc
    have hn : k ∉ seen := by intro hm; have := hc.2; simp [hm] at this
    refine ⟨?_, fun x hx => ?_⟩
    · rw [List.nodup_append]
      refine ⟨h.1, by simp, fun a ha b hb => ?_⟩
      simp at hb; subst hb
      intro e; subst e; exact hn ha
    · rw [List.mem_append] at hx
      rcases hx with hx | hx
      · exact h.2 x hx
      · simp at hx; omega
  · exact h
theorem inn_ok {zs : List Pg} {seen : List Nat} {s : Nat} (h : okS zs.length seen) : ∀ k, k ≤ zs.length → okS zs.length (innC zs seen s k)
  | 0, _ => h
  | k + 1, hk => stp_ok (by omega) (inn_ok h k (by omega))
theorem out_ok {zs : List Pg} (h0 : 0 < zs.length) : ∀ i, okS zs.length (outC zs i)
  | 0 => ⟨by simp [outC], by simp [outC]; exact h0⟩
  | i + 1 => by rw [outC]; split; exact inn_ok (out_ok h0 i) _ (Nat.le_refl _); exact out_ok h0 i
theorem nodup_le : ∀ (l m : List Nat), l.Nodup → (∀ x ∈ l, x ∈ m) → l.length ≤ m.length
  | [], _, _, _ => by simp
  | x :: l, m, hn, hm => by
    rw [List.nodup_cons] at hn
    have hx := hm x (by simp)
    have := nodup_le l (m.erase x) hn.2 (fun y hy => by
      have hy2 := hm y (by simp [hy])
      have : y ≠ x := fun e => hn.1 (e ▸ hy)
      exact (List.mem_erase_of_ne this).2 hy2)
    have hl := List.length_erase_of_mem hx
    have hp : 0 < m.length := List.length_pos_of_mem hx
    rw [List.length_cons]; omega
theorem okS_len {n : Nat} {l : List Nat} (h : okS n l) : l.length ≤ n := by
  have := nodup_le l (List.range n) h.1 (fun x hx => List.mem_range.2 (h.2 x hx))
  simpa using this
theorem out_stop {zs : List Pg} {i : Nat} (h : ¬ i < (outC zs i).length) : ∀ j, outC zs (i + j) = outC zs i
  | 0 => rfl
  | j + 1 => by
    have ih := out_stop h j
    rw [show i + (j + 1) = (i + j) + 1 from rfl, outC, ih, if_neg (by omega)]
theorem out_end {zs : List Pg} (h0 : 0 < zs.length) {i : Nat} (hi : i ≤ zs.length) (h : ¬ i < (outC zs i).length) : outC zs zs.length = outC zs i := by
  obtain ⟨j, hj⟩ : ∃ j, zs.length = i + j := ⟨zs.length - i, by omega⟩
  rw [hj]; exact out_stop h j
theorem out_lt {zs : List Pg} (h0 : 0 < zs.length) {i : Nat} (h : i < (outC zs i).length) : i < zs.length := by have := okS_len (out_ok h0 i); omega
theorem out_go {zs : List Pg} {i : Nat} {s : Nat} (h : i < (outC zs i).length) (hs : (outC zs i)[i]? = some s) : outC zs (i + 1) = innC zs (outC zs i) s zs.length := by
  rw [outC, if_pos h, List.getElem!_eq_getElem?_getD, hs]; rfl
theorem out_inc {zs : List Pg} {i : Nat} {s : Nat} (h : i < (outC zs i).length) (hs : (outC zs i)[i]? = some s) : (outC zs i).length ≤ (outC zs (i + 1)).length := by obtain ⟨t, ht⟩ := out_pre zs i; rw [ht]; simp
/-- places as numbers; as pages -/
def numN (l : List Nat) : List Int := l.map (fun j : Nat => (j : Int))
def pgN (zs : List Pg) (l : List Nat) : List Pg := l.map fun j => zs[j]!
def hasN (l : List Int) (q : Int) : Bool := l.contains q
theorem numN_len (l : List Nat) : (numN l).length = l.length := by simp [numN]
theorem pgN_len (zs : List Pg) (l : List Nat) : (pgN zs l).length = l.length := by simp [pgN]
theorem hasN_eq (l : List Nat) (k : Nat) : hasN (numN l) (k : Int) = l.contains k := by
  unfold hasN numN
  rw [Bool.eq_iff_iff, List.contains_iff_mem, List.contains_iff_mem, List.mem_map]
  constructor
  · rintro ⟨a, ha, he⟩
    have : a = k := by omega
    subst this; exact ha
  · intro h; exact ⟨k, h, rfl⟩
theorem stp_yes {zs : List Pg} {seen : List Nat} {s k : Nat} (h : besB zs[s]! zs[k]! = true) (h2 : seen.contains k = false) : stpC zs seen s k = seen ++ [k] := by unfold stpC; rw [h, h2]; rfl
theorem stp_no1 {zs : List Pg} {seen : List Nat} {s k : Nat} (h : besB zs[s]! zs[k]! = false) : stpC zs seen s k = seen := by unfold stpC; rw [h]; rfl
theorem stp_no2 {zs : List Pg} {seen : List Nat} {s k : Nat} (h2 : seen.contains k = true) : stpC zs seen s k = seen := by unfold stpC; rw [h2]; simp
theorem numN_snoc (l : List Nat) (k : Nat) : numN (l ++ [k]) = numN l ++ [(k : Int)] := by simp [numN]
theorem pg_snoc (zs : List Pg) (l : List Nat) (k : Nat) : pgN zs (l ++ [k]) = pgN zs l ++ [zs[k]!] := by simp [pgN]
theorem atlas_n {zs : List Pg} (h : atlasB zs = true) {k : Nat} {x : Pg} (hx : zs[k]? = some x) : x.n = (k : Int) + 1 := by
  unfold atlasB at h; simp only [Bool.and_eq_true] at h
  have := allB_at h.1 k (List.getElem?_eq_some_iff.1 hx).1
  unfold stepPg okPg at this; rw [getB hx] at this; simp only [Bool.and_eq_true, decide_eq_true_eq] at this
  exact this.1.1.1.1
def sameP (y x : Pg) : Bool := y.n == x.n && y.r == x.r && y.c == x.c && y.l == x.l
theorem sameP_iff {y x : Pg} : sameP y x = true ↔ y = x := by
  cases y; cases x; simp [sameP, and_assoc]
def hasP (l : List Pg) (x : Pg) : Bool := decide (0 ≤ idxB (sameP x) l)
theorem hasP_eq {zs : List Pg} (h : atlasB zs = true) {l : List Nat} (hl : ∀ j ∈ l, j < zs.length) {k : Nat} {x : Pg} (hx : zs[k]? = some x) : hasP (pgN zs l) x = l.contains k := by
  unfold hasP
  rw [Bool.eq_iff_iff]
  rcases idx_cases (sameP x) (pgN zs l) with ⟨e, _, hb⟩ | ⟨j, y, _, hy, hp, e, _, _⟩
  · rw [e]; simp
    intro hm
    obtain ⟨j, hj⟩ := List.getElem?_of_mem hm
    have : (pgN zs l)[j]? = some x := by unfold pgN; rw [List.getElem?_map, hj]; exact congrArg some (getB hx)
    have := hb j x this
    rw [Bool.eq_false_iff] at this
    exact this (sameP_iff.2 rfl)
  · rw [e]; simp
    have hxy := sameP_iff.1 hp
    unfold pgN at hy
    rw [List.getElem?_map] at hy
    cases hj : l[j]? with
    | none => rw [hj] at hy; cases hy
    | some q =>
      rw [hj] at hy
      simp only [Option.map_some] at hy
      injection hy with hy
      have hq := hl q (List.mem_of_getElem? hj)
      have hzq := List.getElem?_eq_getElem hq
      rw [getB hzq] at hy
      have n1 := atlas_n h hx
      have n2 := atlas_n h hzq
      rw [hy, ← hxy] at n2
      have : q = k := by omega
      subst this
      exact List.mem_of_getElem? hj

/-- a row of one element, made by a literal -/
theorem own_lit {α : Type} {enc : α → List Value} {k base : Nat} {w : World} {t : TypeId} {x : α} {cs : Array Value} (hcs : cs.toList = enc x ∧ (enc x).length = k) (hb : base ≤ w.heap.size) :
    (w.alloc (.cells cs t)).ownsRow base t k (.slice (some ⟨w.heap.size, 0, none⟩) 1 1) [x].length ([x].flatMap enc) := by
  refine World.ownsRow_of_blk (Blk.new w t cs) hb ?_ (Nat.le_refl _) (by simp [maxLen]) ?_ ?_
  · rw [← Array.length_toList, hcs.1, hcs.2]; omega
  · simp [hcs.2]
  · simp only [List.length_cons, List.length_nil, Nat.zero_add, Nat.one_mul, List.flatMap_cons, List.flatMap_nil, List.append_nil]
    rw [hcs.1, ← hcs.2, List.take_length]

end Go.Proofs.YtdgalehipgdhiaaDoor
