/- Words joined. -/
import Derived.Test.YtdgalehipgdhiaaDoorKit
import Derived.Test.YtdgalehipgdhiaaDoorChecked
import Derived.Ground.NamesProg
import Derived.Shelf.Lay
import Derived.Shelf.Strings.OnBuilder
namespace Go.Proofs.YtdgalehipgdhiaaDoor
open Go.RowKit Go.Shelf
shelf_lay Lays.n156 Nm 156 at Tryd as Tryd.joinL
theorem Tryd.joinX : Builder.Extra Tryd.prog Tryd.joinL_ren where
  sizeBuilder := by kernel_rfl
  liesBuilder := by kernel_rfl
  t5 := by kernel_rfl
  a5 := fun w => by kernel_rfl
  z5 := fun w => by kernel_rfl
  v5 := fun w => by kernel_rfl
  infoByte := by kernel_rfl
  cellsByte := by kernel_rfl
  sizeByte := by kernel_rfl
  neB5 := by decide
set_option linter.unusedVariables false
set_option linter.unusedSimpArgs false

/-- a string, as the one cell of a list of strings -/
def encS (x : ByteArray) : List Value := [.string x]
theorem encS_len (x : ByteArray) : (encS x).length = 1 := rfl
/-- words with a blank between them -/
def joinB : List ByteArray → ByteArray
  | [] => ⟨#[]⟩
  | x :: r => r.foldl (fun a y => a ++ (⟨#[32]⟩ : ByteArray) ++ y) x
theorem joinB_snoc (xs : List ByteArray) (x : ByteArray) (h : 0 < xs.length) : joinB (xs ++ [x]) = joinB xs ++ (⟨#[32]⟩ : ByteArray) ++ x := by
  cases xs with
  | nil => simp at h
  | cons y r => simp [joinB, List.foldl_append]
theorem fold_data (r : List ByteArray) : ∀ x : ByteArray, (r.foldl (fun a y => a ++ (⟨#[32]⟩ : ByteArray) ++ y) x).data.toList = x.data.toList ++ Lib.joinTail [32] (r.map (·.data.toList)) := by
  induction r with
  | nil => intro x; simp [Lib.joinTail]
  | cons y r ih => intro x; rw [List.foldl_cons, ih]; simp [Lib.joinTail, ByteArray.data_append, List.append_assoc]
theorem joinB_data (xs : List ByteArray) : (joinB xs).data.toList = Lib.join (xs.map (·.data.toList)) [32] := by
  cases xs with
  | nil => simp [joinB, Lib.join_nil]
  | cons x r => rw [List.map_cons, Lib.join_cons]; exact fold_data r x
theorem joinB_eq (xs : List ByteArray) : (⟨(Lib.join (xs.map (·.data.toList)) [32]).toArray⟩ : ByteArray) = joinB xs := by
  apply ByteArray.ext
  rw [← joinB_data]
theorem fold_size (m : Nat) (r : List ByteArray) : ∀ x : ByteArray, (∀ y ∈ r, y.size ≤ m) → (r.foldl (fun a y => a ++ (⟨#[32]⟩ : ByteArray) ++ y) x).size ≤ x.size + r.length * (m + 1) := by
  induction r with
  | nil => intro x _; simp
  | cons y r ih =>
    intro x h
    rw [List.foldl_cons]
    have h1 := ih (x ++ (⟨#[32]⟩ : ByteArray) ++ y) (fun z hz => h z (List.mem_cons_of_mem _ hz))
    have h2 := h y List.mem_cons_self
    have h3 : (x ++ (⟨#[32]⟩ : ByteArray) ++ y).size = x.size + 1 + y.size := by simp only [ByteArray.size_append', ByteArray.size_mk', List.size_toArray, List.length_cons, List.length_nil]
    rw [h3] at h1
    rw [List.length_cons, Nat.succ_mul]
    omega
theorem joinB_size {m : Nat} {xs : List ByteArray} (h : ∀ y ∈ xs, y.size ≤ m) : (joinB xs).size ≤ xs.length * (m + 1) := by
  cases xs with
  | nil => simp [joinB, ByteArray.size]
  | cons x r =>
    have h1 := fold_size m r x (fun z hz => h z (List.mem_cons_of_mem _ hz))
    have h2 := h x List.mem_cons_self
    show (r.foldl _ x).size ≤ _
    rw [List.length_cons, Nat.succ_mul]
    omega
theorem joinOwn_any (base : Nat) (v : Value) (n : Nat) (xs : List ByteArray) (w : World) (hz : xs.length = n) (hn : n ≤ 1000) (hs : ∀ x ∈ xs, x.size ≤ 1000) (ho : w.ownsRow base 9 1 v n (xs.flatMap encS)) :
    Calls Tryd.prog 47 #[v, .string ⟨#[32]⟩] w fun e w' => e = .returned (.string (joinB xs)) ∧ Below w.heap.size w w' := by
  obtain ⟨ao, c, rfl, hnc, hcm, hr⟩ := own_rd encS_len ho hz
  have hlen : (Lib.join (xs.map (·.data.toList)) (⟨#[32]⟩ : ByteArray).data.toList).length ≤ 140737488355328 := by
    have h1 := joinB_size hs
    have h2 : (joinB xs).size = (joinB xs).data.toList.length := Array.length_toList.symm
    rw [joinB_data] at h2
    have h3 : (⟨#[32]⟩ : ByteArray).data.toList = [32] := rfl
    rw [h3, ← h2]
    have h4 : xs.length * (1000 + 1) ≤ 1000 * (1000 + 1) := Nat.mul_le_mul_right _ (by omega)
    omega
  rcases hr with rfl | ⟨b, off, rfl, hb, hbw, hc⟩
  · simp at hz
    subst hz
    have hc := Any.strings_Join_none Tryd.joinL Tryd.joinX ao c ⟨#[32]⟩ w
    change Calls Tryd.prog 47 _ _ _ at hc
    refine hc.mono ?_
    rintro e w' ⟨rfl, rfl⟩
    exact ⟨rfl, Below.refl _ _⟩
  · subst hz
    have hj := Any.strings_Join Tryd.joinL Tryd.joinX b off c xs ⟨#[32]⟩ w (fun j x hx => by have := hc j x hx 0 (.string x) rfl; simpa using this) hbw (by omega) hnc hlen
    change Calls Tryd.prog 47 _ _ _ at hj
    refine hj.mono ?_
    rintro e w' ⟨rfl, hb'⟩
    refine ⟨?_, hb'⟩
    have h3 : (⟨#[32]⟩ : ByteArray).data.toList = [32] := rfl
    rw [h3, joinB_eq]
theorem infoS : (Tryd.prog.info? 9).map (fun i => (i.zero, i.size, i.bytes)) = some (some (.string ⟨#[]⟩), 1, 16) := by kernel_rfl

end Go.Proofs.YtdgalehipgdhiaaDoor
