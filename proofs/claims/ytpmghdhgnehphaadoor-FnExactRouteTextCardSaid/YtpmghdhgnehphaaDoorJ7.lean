/- The text of a route: the plain law. -/
import Derived.Test.YtpmghdhgnehphaaDoorJ1
import Derived.Test.YtpmghdhgnehphaaDoorJ3
import Derived.Test.YtpmghdhgnehphaaDoorT1
import Derived.Test.YtpmghdhgnehphaaDoorFInt
import Derived.Test.YtpmghdhgnehphaaDoorOwn
namespace Go.Proofs.YtpmghdhgnehphaaDoor
open Go.RowKit
set_option linter.unusedVariables false
set_option linter.unusedSimpArgs false

/-- the letters of a way -/
def wayB : Nat → ByteArray
  | 0 => ⟨#[110]⟩
  | 1 => ⟨#[110, 101]⟩
  | 2 => ⟨#[101]⟩
  | 3 => ⟨#[115, 101]⟩
  | 4 => ⟨#[115]⟩
  | 5 => ⟨#[115, 119]⟩
  | 6 => ⟨#[119]⟩
  | _ => ⟨#[110, 119]⟩
theorem way_size (k : Nat) : (wayB k).size ≤ 2 := by unfold wayB; split <;> simp [ByteArray.size]
theorem way_cell (W : World) (k : Nat) (h : k ≤ 7) : (W.alloc (.cells #[.string ⟨#[110]⟩, .string ⟨#[110, 101]⟩, .string ⟨#[101]⟩, .string ⟨#[115, 101]⟩, .string ⟨#[115]⟩, .string ⟨#[115, 119]⟩, .string ⟨#[119]⟩, .string ⟨#[110, 119]⟩] 9)).cell? ⟨W.heap.size, k, none⟩ = some (.string (wayB k)) := by
  have h8 : k = 0 ∨ k = 1 ∨ k = 2 ∨ k = 3 ∨ k = 4 ∨ k = 5 ∨ k = 6 ∨ k = 7 := by omega
  rcases h8 with rfl | rfl | rfl | rfl | rfl | rfl | rfl | rfl <;> simp [wayB]
/-- the climb behind -/
def signT (c : Int) (t : ByteArray) : ByteArray := if 0 < c then t ++ (⟨#[43]⟩ : ByteArray) ++ itoaB c else if c = 0 then t else t ++ itoaB c
/-- a leg's word -/
def wordL (x : Lg) : ByteArray := signT x.c (wayB x.w.toNat ++ itoaB x.u)
def wordsL (zs : List Lg) : List ByteArray := zs.map wordL
def routeT (zs : List Lg) : ByteArray := if routeB zs then (if zs.length = 0 then ⟨#[45]⟩ else joinB (wordsL zs)) else ⟨#[]⟩
theorem ret_sb {a b : ByteArray} {c d : Bool} (h1 : a = b) (h2 : c = d) : Ending.returned (.tuple #[.string a, .bool c]) = .returned (.tuple #[.string b, .bool d]) := by rw [h1, h2]
theorem sign_size {c : Int} {t : ByteArray} (hc : -999 ≤ c ∧ c ≤ 999) (ht : t.size ≤ 30) : (signT c t).size ≤ 60 := by
  have h := itoaB_size c (by omega) (by omega)
  unfold signT
  split
  · simp only [ByteArray.size_append', ByteArray.size_mk', List.size_toArray, List.length_cons, List.length_nil]; omega
  · split
    · omega
    · simp only [ByteArray.size_append']; omega
theorem wordL_size {x : Lg} (h : (0 ≤ x.w ∧ x.w ≤ 7) ∧ (1 ≤ x.u ∧ x.u ≤ 999) ∧ (-999 ≤ x.c ∧ x.c ≤ 999)) : (wordL x).size ≤ 60 := by
  have h1 := itoaB_size x.u (by omega) (by omega)
  have h2 := way_size x.w.toNat
  exact sign_size h.2.2 (by simp only [ByteArray.size_append']; omega)
theorem wordsL_size {zs : List Lg} (h : routeB zs = true) : ∀ y ∈ wordsL zs, y.size ≤ 60 := by
  intro y hy
  obtain ⟨x, hx, rfl⟩ := List.mem_map.1 hy
  obtain ⟨k, hk, hkx⟩ := List.getElem_of_mem hx
  exact wordL_size (route_bd h (List.getElem?_eq_some_iff.2 ⟨hk, hkx⟩))
theorem wordsL_take {zs : List Lg} {k : Nat} {x : Lg} (hx : zs[k]? = some x) : wordsL (zs.take (k + 1)) = wordsL (zs.take k) ++ [wordL x] := by
  unfold wordsL
  rw [List.take_add_one, hx]
  simp
theorem wordsL_len (zs : List Lg) : (wordsL zs).length = zs.length := by simp [wordsL]
theorem joinL_size {zs : List Lg} (h : routeB zs = true) (k : Nat) : (joinB (wordsL (zs.take k))).size ≤ 800 := by
  have h1 : ∀ y ∈ wordsL (zs.take k), y.size ≤ 60 := fun y hy => wordsL_size h y (by
    unfold wordsL at hy ⊢
    obtain ⟨x, hx, rfl⟩ := List.mem_map.1 hy
    exact List.mem_map.2 ⟨x, List.mem_of_mem_take hx, rfl⟩)
  have h2 := joinB_size h1
  have h3 : (wordsL (zs.take k)).length ≤ 12 := by rw [wordsL_len]; exact Nat.le_trans (List.length_take_le' _ _) (route_12 h)
  have h4 : (wordsL (zs.take k)).length * (60 + 1) ≤ 12 * (60 + 1) := Nat.mul_le_mul_right _ h3
  omega
theorem joinL_step {zs : List Lg} {k : Nat} {x : Lg} (hx : zs[k]? = some x) (h0 : 0 < k) : joinB (wordsL (zs.take (k + 1))) = joinB (wordsL (zs.take k)) ++ (⟨#[32]⟩ : ByteArray) ++ wordL x := by
  rw [wordsL_take hx, joinB_snoc _ _ (by rw [wordsL_len, List.length_take]; have := (List.getElem?_eq_some_iff.1 hx).1; omega)]
theorem joinL_one {zs : List Lg} {x : Lg} (hx : zs[0]? = some x) : joinB (wordsL (zs.take 1)) = wordL x := by
  rw [wordsL_take hx]; simp [wordsL, joinB]

end Go.Proofs.YtpmghdhgnehphaaDoor
