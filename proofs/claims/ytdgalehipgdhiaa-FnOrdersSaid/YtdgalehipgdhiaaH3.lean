/- slices.SortFunc on an own row of pages. -/
import Derived.Test.YtdgalehipgdhiaaH2
import Derived.Test.YtdgalehipgdhiaaChecked
import Derived.Shelf.SlSortCmp.NoneTotal
import Derived.Shelf.SlSortCmp.SmallK
import Derived.Shelf.Small.Bits
import Derived.Shelf.Lay
import Derived.Ground.SlsfProg
import Derived.Ground.NamesProg
namespace Go.Proofs.Ytdgalehipgdhiaa
open Go.RowKit Go.Shelf
shelf_lay_g SlLaysF0.n6 Slsf 6 at Try 56 as Try.sortPg
shelf_lay Lays.n125 Nm 125 at Try as Try.bitsLenP
open Go.Sort (SWO SortedIn PermIn flatK HoldsK get_flatK size_flatK putRowK putRow putCells mapBlock onCells heap_grow_old)
set_option linter.unusedVariables false
set_option linter.unusedSimpArgs false

theorem swo_ltP : SWO (ltOf cfP) := by
  have E : ∀ x y, ltOf cfP x y = ltP x y := by
    intro x y
    unfold ltOf cfP orC cmpC ltP
    rcases Int.lt_trichotomy x.r y.r with h | h | h
    · simp [h]
    · rw [h]
      rcases Int.lt_trichotomy x.c y.c with h2 | h2 | h2
      · simp [h2]
      · rw [h2]; simp
      · have h3 : ¬ x.c < y.c := by omega
        simp [h2, h3]
    · have h3 : ¬ x.r < y.r := by omega
      have h4 : ¬ x.r = y.r := by omega
      simp [h, h3, h4]
  refine ⟨fun x => ?_, fun x y z h1 h2 => ?_, fun x y z h1 h2 => ?_⟩
  · rw [E]; unfold ltP; simp
  · rw [E] at *; unfold ltP at *; simp at *; omega
  · rw [E] at *; unfold ltP at *; simp at *; omega
theorem ltOf_ltP (x y : Pg) : ltOf cfP x y = ltP x y := by
  unfold ltOf cfP orC cmpC ltP
  rcases Int.lt_trichotomy x.r y.r with h | h | h
  · simp [h]
  · rw [h]
    rcases Int.lt_trichotomy x.c y.c with h2 | h2 | h2
    · simp [h2]
    · rw [h2]; simp
    · have h3 : ¬ x.c < y.c := by omega
      simp [h2, h3]
  · have h3 : ¬ x.r < y.r := by omega
    have h4 : ¬ x.r = y.r := by omega
    simp [h, h3, h4]
theorem flatK_list (zs : List Pg) : (flatK encPg 4 zs.toArray).toList = zs.flatMap encPg := by
  apply List.ext_getElem?
  intro t
  have hs : (flatK encPg 4 zs.toArray).size = zs.length * 4 := by rw [size_flatK]; simp
  by_cases ht : t < zs.length * 4
  · have hq : t / 4 < zs.length := by omega
    have hx := List.getElem?_eq_getElem hq
    have hl : (encPg zs[t / 4]).length = 4 := rfl
    have hv := List.getElem?_eq_getElem (show t % 4 < (encPg zs[t / 4]).length by omega)
    have h2 := flat_at encPg_len zs (t / 4) _ hx (t % 4) _ hv
    rw [show t / 4 * 4 + t % 4 = t by omega] at h2
    rw [h2]
    have h3 := get_flatK encPg 4 zs.toArray t (by simpa using ht)
    rw [Array.getElem?_toList, Array.getElem?_eq_getElem (by omega)]
    rw [Array.getElem!_eq_getD, Array.getD, dif_pos (show t < (flatK encPg 4 zs.toArray).size by omega)] at h3
    congr 1
    refine h3.trans ?_
    rw [show (zs.toArray)[t / 4]! = zs[t / 4] by simp [hq]]
    rw [List.getElem!_eq_getElem?_getD, hv]; rfl
  · rw [List.getElem?_eq_none (by rw [Array.length_toList]; omega), List.getElem?_eq_none (by rw [flat_len encPg_len]; omega)]
theorem holds_blkP {w : World} {g : Nat} {t : TypeId} {cs : Array Value} {zs : List Pg} (hB : Blk w g t cs) (ht : cs.toList.take (zs.length * 4) = zs.flatMap encPg) : HoldsK encPg 4 w g 0 zs.toArray := by
  intro j hj
  refine ⟨?_, by rw [Nat.zero_add]; exact hB.frozen j⟩
  rw [size_flatK] at hj
  have hj' : j < zs.length * 4 := by simpa using hj
  rw [Nat.zero_add, hB.cell_list]
  have h1 : (cs.toList.take (zs.length * 4))[j]? = ((flatK encPg 4 zs.toArray).toList)[j]? := by rw [ht, flatK_list]
  rw [List.getElem?_take, if_pos hj'] at h1
  rw [h1, Array.getElem?_toList]
  have hs : j < (flatK encPg 4 zs.toArray).size := by rw [size_flatK]; exact hj
  rw [Array.getElem?_eq_getElem hs, Array.getElem!_eq_getD, Array.getD, dif_pos hs]
  rfl
theorem heap_sortedP {w : World} {g n : Nat} {os : Array Obj} {cs : Array Value} {t : TypeId} (d : Array Pg) (hB : Blk w g t cs) :
    Blk (sortWorldK encPg 4 w g 0 n d os) g t (putCells id 0 (flatK encPg 4 d) cs) := by
  have hg := hB.lt
  unfold Blk sortWorldK
  rw [heap_grow_old _ _ (by simpa [putRowK] using hg)]
  unfold Blk at hB
  simp [putRowK, putRow, mapBlock, Go.Sort.ahead, Array.getElem?_modify, hB, onCells]
theorem grownBy_sortedP {w : World} {g n : Nat} {os : Array Obj} (d : Array Pg) : w.grownBy (sortWorldK encPg 4 w g 0 n d os) (some g) := by
  refine ⟨rfl, rfl, rfl, by simp [sortWorldK, putRowK], fun k hk hne => ?_⟩
  unfold sortWorldK
  rw [heap_grow_old _ _ (by simpa [putRowK] using hk)]
  have : g ≠ k := fun e => hne (by rw [e])
  simp [putRowK, putRow, mapBlock, Go.Sort.ahead, Array.getElem?_modify, this]
theorem take_putP (cs : Array Value) (ts : List Pg) (h : ts.length * 4 ≤ cs.size) : (putCells id 0 (flatK encPg 4 ts.toArray) cs).toList.take (ts.length * 4) = ts.flatMap encPg := by
  have hs : (flatK encPg 4 ts.toArray).size = ts.length * 4 := by rw [size_flatK]; simp
  rw [← flatK_list]
  apply List.ext_getElem?
  intro j
  by_cases hj : j < ts.length * 4
  · have hjs : j < (flatK encPg 4 ts.toArray).size := by omega
    rw [List.getElem?_take, if_pos hj, Array.getElem?_toList, Array.getElem?_toList, Array.getElem?_eq_getElem hjs]
    have hjc : j < cs.size := by omega
    simp only [putCells, Array.getElem?_mapIdx, Array.getElem?_eq_getElem hjc, Option.map_some, Nat.zero_le, true_and, Nat.zero_add, Nat.sub_zero, id]
    rw [if_pos hjs, Array.getElem!_eq_getD, Array.getD, dif_pos hjs]; rfl
  · rw [List.getElem?_eq_none (by rw [List.length_take]; omega), List.getElem?_eq_none (by rw [Array.length_toList]; omega)]
theorem permIn_all {d d' : Array Pg} (h : PermIn 0 d.size d d') : d'.toList.Perm d.toList := by
  have h1 := h.2.2
  have e1 : d'.extract 0 d.size = d' := by rw [← h.1]; simp
  have e2 : d.extract 0 d.size = d := by simp
  rw [e1, e2] at h1; exact h1
theorem sortedIn_all {d d' : Array Pg} (hs : d'.size = d.size) (hin : ∀ x ∈ d'.toList, inP x) (h : SortedIn (ltOf cfP) 0 d.size d') : d'.toList.Pairwise fun a b => kyP b ≤ kyP a := by
  rw [List.pairwise_iff_getElem]
  intro i j hi hj hij
  have hi' : i < d'.size := by simpa using hi
  have hj' : j < d'.size := by simpa using hj
  have h1 := h i j (Nat.zero_le _) hij (by omega)
  rw [ltOf_ltP, Array.getElem!_eq_getD, Array.getD, dif_pos hj', Array.getElem!_eq_getD, Array.getD, dif_pos hi'] at h1
  have h2 := ltP_no (hin _ (List.getElem_mem hj)) (hin _ (List.getElem_mem hi)) h1
  have h3 : ¬ kyP d'.toList[i] < kyP d'.toList[j] := h2
  omega
theorem SortP_own {base : Nat} (v : Value) (n : Nat) (zs : List Pg) (w : World) (ho : w.ownsRow base 48 4 v n (zs.flatMap encPg)) (hz : zs.length = n) (ha : atlasB zs = true) :
    Calls Try.prog 56 #[v, .func (.func 57) #[] #[]] w fun e w' => e = .returned (.tuple #[]) ∧ w.grownBy w' v.ownBlock ∧ w'.ownsRow base 48 4 v n ((sortE kyP zs).flatMap encPg) := by
  have h12 := atlas_12 ha
  rcases own_form encPg_len ho hz with ⟨rfl, rfl, rfl⟩ | ⟨g, cap, cs, rfl, hg, hB, hs, hnc, hm, ht⟩
  · have hc := AnyF.slices_SortFunc_none Try.sortPg none 0 (.func (.func 57) #[] #[]) w
    change Calls Try.prog 56 _ _ _ at hc
    refine hc.mono ?_
    rintro e w' ⟨rfl, rfl⟩
    exact ⟨rfl, World.grownBy.refl _ _, World.ownsRow_nil _ _ _ _⟩
  · subst hz
    have eg : ∀ args w, (callFunc 57 args).run Try.prog w = .ok (.enter 57 args) w := enters_at Try.func57 (by kernel_rfl) rfl
    have hcmp : CmpLays Try.prog 57 #[] encPg 4 cfP g 0 zs.toArray.size w := fun _ _ _ _ x y => oa1_any x y _
    have hH := holds_blkP (zs := zs) hB ht
    have hlen : ∀ (n : Nat) (W : World), n ≤ 12 → Calls Try.prog 77 #[.int .u64 n] W fun e w' => (∃ l : Int, e = .returned (.int .i64 l)) ∧ w' = W := fun n W h =>
      (Any.bits_Len Try.bitsLenP n W (by omega) (by omega)).mono fun _ _ ⟨he, hw⟩ => ⟨⟨_, he⟩, hw⟩
    have hc := AnyQ.slices_SortFunc_small_sorted Try.sortPg 4 (fun w => by kernel_rfl) (fun w => by kernel_rfl) encPg encPg_len encPg_one cfP 57 #[] swo_ltP g 0 cap zs.toArray w eg hcmp hH hB.lt (by simpa using h12) hlen
    change Calls Try.prog 56 _ _ _ at hc
    refine hc.mono ?_
    rintro e w' ⟨rfl, d', m, os, hp, hsrt, rfl⟩
    have hp2 := permIn_all hp
    have e1 : d'.toList = sortE kyP zs := sorted_is ha (by simpa using hp2) (sortedIn_all hp.1 (fun x hx => atlas_in ha x (by have := hp2.subset hx; simpa using this)) hsrt)
    have e2 : d' = (sortE kyP zs).toArray := by rw [← e1]
    subst e2
    refine ⟨rfl, grownBy_sortedP _, World.ownsRow_of_blk (heap_sortedP _ hB) hg (by simp [putCells, hs]) hnc hm (by rw [flat_len encPg_len, sortE_len]) ?_⟩
    have h9 := take_putP cs (sortE kyP zs) (by rw [sortE_len, hs]; exact Nat.mul_le_mul_right _ hnc)
    rw [sortE_len] at h9; exact h9

end Go.Proofs.Ytdgalehipgdhiaa
