/- Generic lemmas on slices of structs of int cells: reading, own blocks, loops. No program. -/
import Derived.WalkKit
import Derived.Deep.LoopGhost
import Derived.Deep.QuietTactic
import Derived.BigQuiet
import Derived.WalkSpells
import Derived.WalkLawsBesides
import Derived.KernelRfl
namespace Go.Proofs.YtdgalehipgdhiaaDoor
open Go.RowKit

theorem hide {p : Prop} (h : p) : Hid p := h
theorem ret_bool {a b : Bool} (h : a = b) : Ending.returned (.bool a) = .returned (.bool b) := by rw [h]
theorem ret_int {a b : Int} (h : a = b) : Ending.returned (.int .i64 a) = .returned (.int .i64 b) := by rw [h]

/-! ### blocks known whole -/
def Blk (w : World) (g : Nat) (t : TypeId) (cs : Array Value) : Prop := w.heap[g]? = some (.cells cs t (0, 0))
section
variable {w w' : World} {g : Nat} {t : TypeId} {cs : Array Value}
theorem Blk.lt (h : Blk w g t cs) : g < w.heap.size := by
  rcases Nat.lt_or_ge g w.heap.size with hlt | hge
  · exact hlt
  · unfold Blk at h; rw [Array.getElem?_eq_none hge] at h; cases h
theorem Blk.cell (h : Blk w g t cs) (i : Nat) : w.cell? ⟨g, i, none⟩ = cs[i]? := cell_of_row w g i cs t (0, 0) h
theorem Blk.cell_list (h : Blk w g t cs) (i : Nat) : w.cell? ⟨g, i, none⟩ = cs.toList[i]? := by rw [h.cell]; simp
theorem Blk.frozen (h : Blk w g t cs) (i : Nat) : w.frozen? ⟨g, i, none⟩ = false := by
  unfold Blk at h
  simp [World.frozen?, h]
theorem Blk.new (w : World) (t : TypeId) (cs : Array Value) : Blk (w.alloc (.cells cs t)) w.heap.size t cs := heap_alloc_new w _
theorem Blk.drew (h : Blk w g t cs) : Blk w.drew g t cs := h
theorem Blk.drewN (h : Blk w g t cs) (n : Nat) : Blk (w.drewN n) g t cs := h
theorem Blk.alloc (h : Blk w g t cs) (o : Obj) : Blk (w.alloc o) g t cs := (Below.heap_alloc w o g h.lt).trans h
theorem Blk.set_ (h : Blk w g t cs) (i : Nat) (u : Value) : Blk (w.setCell ⟨g, i, none⟩ u) g t (cs.setIfInBounds i u) := by
  unfold Blk at h ⊢
  simp [World.setCell, Array.getElem?_modify, h]
theorem Blk.far (h : Blk w g t cs) {p : Addr} (hp : g ≠ p.block) (u : Value) : Blk (w.setCell p u) g t cs := (Below.heap_setCell w p u g hp).trans h
theorem Blk.below {B : Nat} (h : Blk w g t cs) (hb : Below B w w') (hg : g < B) : Blk w' g t cs := (hb.block g hg).trans h
theorem Blk.below' (h : Blk w g t cs) (hb : Below w.heap.size w w') : Blk w' g t cs := h.below hb h.lt
theorem Blk.grown {row : Option Nat} (h : Blk w g t cs) (hb : w.grownBy w' row) (hg : some g ≠ row) : Blk w' g t cs := (hb.block g h.lt hg).trans h
end
theorem below_drewN {B : Nat} {a w : World} (h : Below B a w) (n : Nat) : Below B a (w.drewN n) := ⟨h.os, h.tape, h.output, h.size, h.block⟩

/-! ### reading a slice of structs of k cells -/
section
variable {α : Type} (enc : α → List Value) (k : Nat)
/-- the slice at address ao reads as zs in w; it lies in blocks below B -/
def Rd (B : Nat) (w : World) (ao : Option Addr) (zs : List α) : Prop :=
  zs = [] ∨ ∃ b off, ao = some ⟨b, off, none⟩ ∧ b < B ∧ b < w.heap.size ∧ ∀ j x, zs[j]? = some x → ∀ i v, (enc x)[i]? = some v → w.cell? ⟨b, off + j * k + i, none⟩ = some v
variable {enc k}
theorem Rd.below {B B' : Nat} {w w' : World} {ao : Option Addr} {zs : List α} (h : Rd enc k B w ao zs) (hb : Below B' w w') (hB : B ≤ B') : Rd enc k B w' ao zs := by
  rcases h with h | ⟨b, off, rfl, hlt, hlt2, hc⟩
  · exact .inl h
  · exact .inr ⟨b, off, rfl, hlt, Nat.lt_of_lt_of_le hlt2 hb.size, fun j x hx i v hv => (hb.cell (p := ⟨b, _, none⟩) (by show b < B'; omega)).trans (hc j x hx i v hv)⟩
theorem Rd.mono {B B' : Nat} {w : World} {ao : Option Addr} {zs : List α} (h : Rd enc k B w ao zs) (hB : B ≤ B') : Rd enc k B' w ao zs := by
  rcases h with h | ⟨b, off, rfl, hlt, hlt2, hc⟩
  · exact .inl h
  · exact .inr ⟨b, off, rfl, by omega, hlt2, hc⟩
theorem Rd.at_ {B : Nat} {w : World} {ao : Option Addr} {zs : List α} (h : Rd enc k B w ao zs) (hn : 0 < zs.length) :
    ∃ b off, ao = some ⟨b, off, none⟩ ∧ b < B ∧ b < w.heap.size ∧ ∀ j x, zs[j]? = some x → ∀ i v, (enc x)[i]? = some v → w.cell? ⟨b, off + j * k + i, none⟩ = some v := by
  rcases h with rfl | h
  · simp at hn
  · exact h
theorem Rd.alloc {B : Nat} {w : World} {ao : Option Addr} {zs : List α} (h : Rd enc k B w ao zs) (o : Obj) : Rd enc k B (w.alloc o) ao zs := by
  rcases h with h | ⟨b, off, rfl, hlt, hlt2, hc⟩
  · exact .inl h
  · exact .inr ⟨b, off, rfl, hlt, by simp; omega, fun j x hx i v hv => (World.cell?_alloc_lt w o _ (by exact hlt2)).trans (hc j x hx i v hv)⟩
end

/-! ### make -/
theorem run_make_rowN {P : Program} (t e : TypeId) (z : Value) (sz by_ : Nat) (ht : P.underlying t = some (.slice e)) (hinf : (P.info? e).map (fun i => (i.zero, i.size, i.bytes)) = some (some z, sz, by_))
    (n : Nat) (hbytes : by_ * n ≤ 281474976710656) (h63 : n ≤ 9223372036854775807) :
    ∃ cs : Array Value, cs.size = n * sz ∧ ∀ w : World, (Instr.makeSlice t (.int .i64 (n : Int)) (.int .i64 (n : Int))).run P w = .ok (.slice (some ⟨w.heap.size, 0, none⟩) n n) (w.alloc (.cells cs e)) := by
  obtain ⟨i, hi, hz, hsz, hby⟩ := info_parts hinf
  subst hsz hby
  refine ⟨madeCells z.cells (n * i.size), size_madeCells _ _, fun w => ?_⟩
  have hb : (i.bytes : Int) * (n : Int) ≤ 281474976710656 := by
    have h : ((i.bytes * n : Nat) : Int) ≤ 281474976710656 := by omega
    rwa [Int.natCast_mul] at h
  have hr := run_make (P := P) w t e i z ht hi hz .i64 .i64 n n (by omega) (by omega) hb (by omega)
  simp only [Int.toNat_natCast] at hr
  exact hr

/-! ### lists of k cells each, laid one behind the other -/
section
variable {α : Type} {enc : α → List Value} {k : Nat}
theorem flat_take_succ (zs : List α) (j : Nat) (x : α) (hx : zs[j]? = some x) : (zs.take (j + 1)).flatMap enc = (zs.take j).flatMap enc ++ enc x := by
  rw [List.take_add_one, hx]; simp
theorem flat_len (hk : ∀ x, (enc x).length = k) (zs : List α) : (zs.flatMap enc).length = zs.length * k := by
  induction zs with
  | nil => simp
  | cons z zs ih => simp [hk, ih, Nat.succ_mul]; omega
theorem flat_at (hk : ∀ x, (enc x).length = k) (zs : List α) (j : Nat) (x : α) (hx : zs[j]? = some x) (i : Nat) (v : Value) (hv : (enc x)[i]? = some v) : (zs.flatMap enc)[j * k + i]? = some v := by
  induction zs generalizing j with
  | nil => simp at hx
  | cons z zs ih =>
    cases j with
    | zero =>
      simp at hx; subst hx
      have : i < (enc z).length := (List.getElem?_eq_some_iff.1 hv).1
      simp only [List.flatMap_cons, Nat.zero_mul, Nat.zero_add]
      rw [List.getElem?_append_left this, hv]
    | succ j =>
      simp at hx
      have h1 : (enc z).length ≤ (j + 1) * k + i := by rw [hk, Nat.succ_mul]; omega
      simp only [List.flatMap_cons]
      rw [List.getElem?_append_right h1, hk, ← ih j hx]
      congr 1
      rw [Nat.succ_mul]; omega
/-- the values vs laid into the cells from o on -/
def setL (cs : Array Value) (o : Nat) : List Value → Array Value
  | [] => cs
  | v :: r => setL (cs.setIfInBounds o v) (o + 1) r
theorem setL_size (cs : Array Value) (o : Nat) (vs : List Value) : (setL cs o vs).size = cs.size := by
  induction vs generalizing cs o with
  | nil => rfl
  | cons v r ih => simp [setL, ih]
theorem setL_take (cs : Array Value) (o : Nat) (vs : List Value) (h : o + vs.length ≤ cs.size) : (setL cs o vs).toList.take (o + vs.length) = cs.toList.take o ++ vs := by
  induction vs generalizing cs o with
  | nil => simp [setL]
  | cons v r ih =>
    simp only [List.length_cons] at h
    have h2 := ih (cs.setIfInBounds o v) (o + 1) (by simp; omega)
    simp only [setL, List.length_cons]
    rw [show o + (r.length + 1) = o + 1 + r.length from by omega, h2, Array.toList_setIfInBounds, List.take_add_one]
    have ho : o < cs.toList.length := by simp; omega
    simp [List.take_set_of_le, List.getElem?_set_self ho]
theorem setL_get (cs : Array Value) (o : Nat) (vs : List Value) (i : Nat) : (setL cs o vs)[i]? = if o ≤ i ∧ i < o + vs.length ∧ i < cs.size then vs[i - o]? else cs[i]? := by
  induction vs generalizing cs o with
  | nil => simp [setL]; intro h1 h2; omega
  | cons v r ih =>
    simp only [setL, ih, Array.size_setIfInBounds, List.length_cons]
    by_cases h1 : o + 1 ≤ i ∧ i < o + 1 + r.length ∧ i < cs.size
    · rw [if_pos h1, if_pos ⟨by omega, by omega, h1.2.2⟩, show i - o = (i - (o + 1)) + 1 from by omega]; simp
    · rw [if_neg h1]
      by_cases h2 : i = o
      · subst h2
        by_cases h3 : i < cs.size
        · rw [if_pos ⟨by omega, by omega, h3⟩]; simp [h3]
        · rw [if_neg (by omega)]; simp [h3]
      · rw [if_neg (by omega), Array.getElem?_setIfInBounds_ne (by omega)]
theorem World.ownsRow_of_blk {w : World} {base g n cap : Nat} {e : TypeId} {cs : Array Value} {xs : List Value} (h : Blk w g e cs) (hb : base ≤ g) (hc : cs.size = cap * k) (hn : n ≤ cap) (hm : cap ≤ maxLen) (hl : xs.length = n * k)
    (ht : cs.toList.take (n * k) = xs) : w.ownsRow base e k (.slice (some ⟨g, 0, none⟩) n cap) n xs :=
  ⟨hl, .inr ⟨g, cap, cs, rfl, hb, h, hn, hm, hc, ht⟩⟩
/-- an own slice can be read -/
theorem own_rd (hk : ∀ x, (enc x).length = k) {w : World} {base n : Nat} {e : TypeId} {v : Value} {zs : List α} (h : w.ownsRow base e k v n (zs.flatMap enc)) (hz : zs.length = n) :
    ∃ ao c, v = .slice ao n c ∧ n ≤ c ∧ c ≤ maxLen ∧ Rd enc k w.heap.size w ao zs := by
  rcases h.2 with ⟨rfl, rfl⟩ | ⟨g, cap, cur, rfl, hb, hg, h1, h2, h3, h4⟩
  · exact ⟨none, 0, rfl, Nat.le_refl _, by simp [maxLen], .inl (List.eq_nil_of_length_eq_zero hz)⟩
  · have hB : Blk w g e cur := hg
    refine ⟨_, cap, rfl, h1, h2, .inr ⟨g, 0, rfl, hB.lt, hB.lt, fun j x hx i v hv => ?_⟩⟩
    have := flat_at hk zs j x hx i v hv
    rw [← h4, List.getElem?_take] at this
    rw [hB.cell_list, Nat.zero_add]
    split at this
    · exact this
    · cases this
end

/-! ### quiet calls -/
theorem quiet_left {P : Program} {f : FuncId} {args : Array Value} {w : World} {n : Nat} {v : Value}
    (h : Calls P f args (w.drewN n) fun e w' => e = .returned v ∧ w.drewN n = w') : Calls P f args (w.drewN n) fun e w'' => e = .returned v ∧ ∃ m, w'' = w.drewN m :=
  h.mono fun _ _ ⟨he, hm⟩ => ⟨he, n, hm.symm⟩
theorem quiet_add_left {P : Program} {f : FuncId} {args : Array Value} {w : World} {a n : Nat} {v : Value}
    (h : Calls P f args (w.drewN (a + n)) fun e w' => e = .returned v ∧ w.drewN (a + n) = w') :
    Calls P f args (w.drewN (a + n)) fun e w'' => e = .returned v ∧ ∃ m, w'' = w.drewN (a + m) :=
  h.mono fun _ _ ⟨he, hm⟩ => ⟨he, n, hm.symm⟩

/-! ### all of a range; the first that is false -/
def allB (n : Nat) (p : Nat → Bool) : Bool := (List.range n).all p
theorem allB_false {n : Nat} {p : Nat → Bool} (k : Nat) (hk : k < n) (h : p k = false) : allB n p = false := by
  unfold allB; rw [Bool.eq_false_iff]; intro h2; rw [List.all_eq_true] at h2
  have := h2 k (List.mem_range.2 hk); rw [h] at this; cases this
theorem allB_true {n : Nat} {p : Nat → Bool} (h : ∀ j, j < n → p j = true) : allB n p = true := by
  unfold allB; rw [List.all_eq_true]; intro j hj; exact h j (List.mem_range.1 hj)
theorem allB_at {n : Nat} {p : Nat → Bool} (h : allB n p = true) (j : Nat) (hj : j < n) : p j = true := by
  unfold allB at h; rw [List.all_eq_true] at h; exact h j (List.mem_range.2 hj)
theorem first2 (a b : Bool) : a = false ∨ (a = true ∧ b = false) ∨ (a = true ∧ b = true) := by cases a <;> cases b <;> simp
theorem first3 (a b c : Bool) : a = false ∨ (a = true ∧ b = false) ∨ (a = true ∧ b = true ∧ c = false) ∨ (a = true ∧ b = true ∧ c = true) := by cases a <;> cases b <;> cases c <;> simp
theorem first4 (a b c d : Bool) : a = false ∨ (a = true ∧ b = false) ∨ (a = true ∧ b = true ∧ c = false) ∨ (a = true ∧ b = true ∧ c = true ∧ d = false) ∨ (a = true ∧ b = true ∧ c = true ∧ d = true) := by
  cases a <;> cases b <;> cases c <;> cases d <;> simp
theorem first5 (a b c d e : Bool) : a = false ∨ (a = true ∧ b = false) ∨ (a = true ∧ b = true ∧ c = false) ∨ (a = true ∧ b = true ∧ c = true ∧ d = false) ∨ (a = true ∧ b = true ∧ c = true ∧ d = true ∧ e = false) ∨
    (a = true ∧ b = true ∧ c = true ∧ d = true ∧ e = true) := by
  cases a <;> cases b <;> cases c <;> cases d <;> cases e <;> simp
theorem getB {α : Type} [Inhabited α] {zs : List α} {j : Nat} {x : α} (h : zs[j]? = some x) : zs[j]! = x := by simp [getElem!_def, h]

theorem own_rd' {α : Type} {enc : α → List Value} {k : Nat} (hk : ∀ x, (enc x).length = k) {w : World} {base n c : Nat} {e : TypeId} {ao : Option Addr} {zs : List α} (h : w.ownsRow base e k (.slice ao n c) n (zs.flatMap enc)) (hz : zs.length = n) :
    Rd enc k w.heap.size w ao zs := by
  obtain ⟨ao', c', hv, _, _, hr⟩ := own_rd hk h hz
  injection hv with a b c
  rw [a]; exact hr

/-! ### the size that is left; marks -/
def szV (left : Int) (n : Nat) : Int := if left < n then -1 else left - n
theorem szV_big {left : Int} {n : Nat} (h : left < n) : szV left n = -1 := by unfold szV; rw [if_pos h]
theorem szV_ok {left : Int} {n : Nat} (h : ¬ left < n) : szV left n = left - n := by unfold szV; rw [if_neg h]
def marks (q : Int) (m : Nat) : List Value := (List.range m).map fun i => .int .i64 (q + (i : Nat))
theorem marks_len (q : Int) (m : Nat) : (marks q m).length = m := by simp [marks]
theorem marks_add (q : Int) (a b : Nat) : marks q (a + b) = marks q a ++ marks (q + (a : Nat)) b := by
  unfold marks
  rw [List.range_add, List.map_append, List.map_map]
  congr 1
  refine List.map_congr_left fun i _ => ?_
  simp [Int.add_assoc]
theorem marks_at (q : Int) (m i : Nat) (h : i < m) : (marks q m)[i]? = some (.int .i64 (q + (i : Nat))) := by simp [marks, h]
theorem held_at {w : World} {b off N a i : Nat} {q m : Int} (hc : ∀ i, i < N → w.cell? ⟨b, off + i, none⟩ = some (.int .i64 (q + (i : Nat)))) (hm : m = q + (a : Nat)) (h : a + i < N) : w.cell? ⟨b, off + a + i, none⟩ = some (.int .i64 (m + (i : Nat))) := by
  have := hc (a + i) h
  rw [← Nat.add_assoc] at this
  rw [this, hm]; congr 2; simp; omega
theorem grownBy_setOnly {a w : World} {g : Nat} (h : a.grownBy w (some g)) (i : Nat) (u : Value) : a.grownBy (w.setCell ⟨g, i, none⟩ u) (some g) :=
  ⟨h.os, h.tape, h.output, by simpa [World.setCell] using h.size, fun j hj hne => (Below.heap_setCell w _ u j (by rintro rfl; exact hne rfl)).trans (h.block j hj hne)⟩

/-! ### the first place where p holds -/
section
variable {α : Type}
def idxB (p : α → Bool) (zs : List α) : Int := match zs.findIdx? p with | some i => (i : Int) | none => -1
theorem idx_hit {p : α → Bool} {zs : List α} {k : Nat} {x : α} (hx : zs[k]? = some x) (hp : p x = true) (hb : ∀ j, j < k → ∀ y, zs[j]? = some y → p y = false) : idxB p zs = (k : Int) ∧ zs.find? p = some x := by
  have hk : k < zs.length := (List.getElem?_eq_some_iff.1 hx).1
  have h1 : zs.findIdx? p = some k := by
    rw [List.findIdx?_eq_some_iff_getElem]
    refine ⟨hk, by rw [(List.getElem?_eq_some_iff.1 hx).2]; exact hp, fun j hj => ?_⟩
    have := hb j hj _ (List.getElem?_eq_getElem (by omega))
    simp [this]
  refine ⟨by unfold idxB; rw [h1], ?_⟩
  rw [List.find?_eq_some_iff_getElem]
  refine ⟨hp, k, hk, (List.getElem?_eq_some_iff.1 hx).2, fun j hj => ?_⟩
  have := hb j hj _ (List.getElem?_eq_getElem (by omega))
  simp [this]
theorem idx_miss {p : α → Bool} {zs : List α} (hb : ∀ (j : Nat) (y : α), zs[j]? = some y → p y = false) : idxB p zs = -1 ∧ zs.find? p = none := by
  have h0 : ∀ x ∈ zs, p x = false := fun x hx => by
    obtain ⟨j, h1, h2⟩ := List.getElem_of_mem hx
    exact hb j x (by rw [List.getElem?_eq_getElem h1, h2])
  have h1 : zs.findIdx? p = none := by
    rw [List.findIdx?_eq_none_iff]; exact fun x hx => h0 x hx
  refine ⟨by unfold idxB; rw [h1], ?_⟩
  rw [List.find?_eq_none]; intro x hx; simp [h0 x hx]
theorem idx_cases (p : α → Bool) (zs : List α) : (idxB p zs = -1 ∧ zs.find? p = none ∧ ∀ (j : Nat) (y : α), zs[j]? = some y → p y = false) ∨
    ∃ k x, k < zs.length ∧ zs[k]? = some x ∧ p x = true ∧ idxB p zs = (k : Int) ∧ zs.find? p = some x ∧ ∀ j, j < k → ∀ y, zs[j]? = some y → p y = false := by
  cases h : zs.findIdx? p with
  | none =>
    rw [List.findIdx?_eq_none_iff] at h
    have hb : ∀ (j : Nat) (y : α), zs[j]? = some y → p y = false := fun j y hy => h y (List.mem_of_getElem? hy)
    exact .inl ⟨(idx_miss hb).1, (idx_miss hb).2, hb⟩
  | some k =>
    rw [List.findIdx?_eq_some_iff_getElem] at h
    obtain ⟨hk, hp, hb⟩ := h
    have hb' : ∀ j, j < k → ∀ y, zs[j]? = some y → p y = false := fun j hj y hy => by
      have := hb j hj
      rw [(List.getElem?_eq_some_iff.1 hy).2] at this
      simpa using this
    have hx := List.getElem?_eq_getElem hk
    exact .inr ⟨k, zs[k], hk, hx, hp, (idx_hit hx hp hb').1, (idx_hit hx hp hb').2, hb'⟩
theorem none_succ {p : α → Bool} {zs : List α} {k : Nat} {x : α} (h : ∀ j, j < k → ∀ y, zs[j]? = some y → p y = false) (hx : zs[k]? = some x) (hp : p x = false) : ∀ j, j < k + 1 → ∀ y, zs[j]? = some y → p y = false := by
  intro j hj y hy
  rcases Nat.lt_succ_iff_lt_or_eq.1 hj with h' | h'
  · exact h j h' y hy
  · subst h'; rw [hx] at hy; injection hy with hy; rw [← hy]; exact hp
end

/-! ### one step of a law -/
theorem rd_step {α : Type} {enc : α → List Value} {k : Nat} {w w' : World} {ao : Option Addr} {zs : List α} (h : Rd enc k w.heap.size w ao zs) (hb : Below w.heap.size w w') : Rd enc k w'.heap.size w' ao zs := (h.below hb (Nat.le_refl _)).mono hb.size
theorem bl_step {a w w' : World} (h : Below a.heap.size a w) (hb : Below w.heap.size w w') : Below a.heap.size a w' := h.trans (hb.mono h.size)
theorem own_step {w w' : World} {base n k : Nat} {e : TypeId} {v : Value} {xs : List Value} (h : w.ownsRow base e k v n xs) (hb : Below w.heap.size w w') : w'.ownsRow base e k v n xs := by
  refine ⟨h.1, ?_⟩
  rcases h.2 with h2 | ⟨g, cap, cur, hv, hbg, hg, r⟩
  · exact .inl h2
  · exact .inr ⟨g, cap, cur, hv, hbg, Blk.below' (show Blk w g e cur from hg) hb, r⟩
def encL (l : List Int) : List Value := l.map (Value.int .i64)
def okI (q : Int) : Prop := -9223372036854775808 ≤ q ∧ q ≤ 9223372036854775807

theorem enters_at {P : Program} {f : FuncId} {fn : Func} {c : Code} (hf : P.funcs[f]? = some fn) (hname : (fn.name == "runtime.NumGoroutine") = false) (hb : fn.body = some c) : ∀ args w, (callFunc f args).run P w = .ok (.enter f args) w := by
  intro args w
  have h1 : fn.name ≠ "runtime.NumGoroutine" := by simpa using hname
  simp [callFunc, hf, h1, hb, mark]
theorem upto_succ {k : Nat} {p : Nat → Bool} (h : ∀ j, j < k → p j = true) (hk : p k = true) : ∀ j, j < k + 1 → p j = true := fun j hj => by
  rcases Nat.lt_succ_iff_lt_or_eq.1 hj with h' | h'
  · exact h j h'
  · subst h'; exact hk
end Go.Proofs.YtdgalehipgdhiaaDoor
