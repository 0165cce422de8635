/- The drawer of choices. -/
import Derived.Test.YtdgalehipgdhiaaDoorFInt
namespace Go.Proofs.YtdgalehipgdhiaaDoor
open Go.RowKit
set_option linter.unusedVariables false
set_option linter.unusedSimpArgs false

/-- the bytes that a drawer reads -/
def Bytes (B : Nat) (w : World) (ao : Option Addr) (n : Nat) : Prop :=
  n = 0 ∨ ∃ b off, ao = some ⟨b, off, none⟩ ∧ b < B ∧ b < w.heap.size ∧ ∀ i, i < n → ∃ x : Int, 0 ≤ x ∧ x ≤ 255 ∧ w.cell? ⟨b, off + i, none⟩ = some (.int .u8 x)
/-- block g is a drawer that has read m bytes at most; what it reads lies below B -/
def Cur (B : Nat) (w : World) (g m : Nat) : Prop :=
  ∃ (ao : Option Addr) (n c t : Nat) (sd : Int), Blk w g 52 #[.slice ao n c, .int .i64 (t : Int), .int .u64 sd] ∧ B ≤ g ∧ t ≤ m ∧ n ≤ 65536 ∧ n ≤ c ∧ Bytes B w ao n
theorem Bytes.keep {B n : Nat} {w w' : World} {ao : Option Addr} (h : Bytes B w ao n) (hs : w.heap.size ≤ w'.heap.size) (hk : ∀ j, j < B → j < w.heap.size → w'.heap[j]? = w.heap[j]?) : Bytes B w' ao n := by
  rcases h with h | ⟨b, off, rfl, h1, h2, h3⟩
  · exact .inl h
  · refine .inr ⟨b, off, rfl, h1, by omega, fun i hi => ?_⟩
    obtain ⟨x, x0, x1, hx⟩ := h3 i hi
    exact ⟨x, x0, x1, (World.cell?_of_block (a := ⟨b, _, none⟩) (hk b h1 h2)).trans hx⟩
theorem Cur.lt {B g m : Nat} {w : World} (h : Cur B w g m) : g < w.heap.size := by obtain ⟨_, _, _, _, _, hB, _⟩ := h; exact hB.lt
theorem Cur.mono {B g m m' : Nat} {w : World} (h : Cur B w g m) (hm : m ≤ m') : Cur B w g m' := by
  obtain ⟨ao, n, c, t, sd, h1, h2, h3, h4⟩ := h
  exact ⟨ao, n, c, t, sd, h1, h2, by omega, h4⟩
theorem Cur.base {B g m : Nat} {w : World} (h : Cur B w g m) : B ≤ g := by obtain ⟨_, _, _, _, _, _, h2, _⟩ := h; exact h2
theorem Cur.below {B g m : Nat} {w w' : World} (h : Cur B w g m) (hb : Below w.heap.size w w') : Cur B w' g m := by
  obtain ⟨ao, n, c, t, sd, h1, h2, h3, h4, h5, h6⟩ := h
  exact ⟨ao, n, c, t, sd, h1.below' hb, h2, h3, h4, h5, h6.keep hb.size (fun j _ hj => hb.block j hj)⟩
theorem Cur.grown {B g m : Nat} {w w' : World} {row : Option Nat} (h : Cur B w g m) (hb : w.grownBy w' row) (hr : ∀ j, row = some j → B ≤ j ∧ j ≠ g) : Cur B w' g m := by
  obtain ⟨ao, n, c, t, sd, h1, h2, h3, h4, h5, h6⟩ := h
  refine ⟨ao, n, c, t, sd, h1.grown hb (fun e => (hr g e.symm).2 rfl), h2, h3, h4, h5, h6.keep hb.size (fun j hj hj2 => hb.block j hj2 (fun e => ?_))⟩
  have := (hr j e.symm).1; omega
theorem Cur.drew {B g m : Nat} {w : World} (h : Cur B w g m) : Cur B w.drew g m := h
theorem Cur.drewN {B g m : Nat} {w : World} (h : Cur B w g m) (n : Nat) : Cur B (w.drewN n) g m := h
theorem gr_refl (w : World) (row : Option Nat) : w.grownBy w row := World.grownBy.refl w row
theorem gr_trans {a b c : World} {row : Option Nat} (h : a.grownBy b row) (k : b.grownBy c row) : a.grownBy c row :=
  ⟨k.os.trans h.os, k.tape.trans h.tape, k.output.trans h.output, Nat.le_trans h.size k.size, fun i hi hn => (k.block i (Nat.lt_of_lt_of_le hi h.size) hn).trans (h.block i hi hn)⟩
theorem gr_below {a w : World} (h : Below a.heap.size a w) (row : Option Nat) : a.grownBy w row := ⟨h.os, h.tape, h.output, h.size, fun i hi _ => h.block i hi⟩
theorem gr_step {a b c : World} {row : Option Nat} (h : a.grownBy b row) (k : Below b.heap.size b c) : a.grownBy c row := gr_trans h (gr_below k row)
/-- writes to a row that is new are none -/
theorem gr_own {a b c : World} {row r2 : Option Nat} (h : a.grownBy b row) (k : b.grownBy c r2) (hr : ∀ j, r2 = some j → a.heap.size ≤ j) : a.grownBy c row :=
  ⟨k.os.trans h.os, k.tape.trans h.tape, k.output.trans h.output, Nat.le_trans h.size k.size, fun i hi hn => (k.block i (Nat.lt_of_lt_of_le hi h.size) (fun e => by have := hr i e.symm; omega)).trans (h.block i hi hn)⟩
theorem gr_set {a w : World} {g i : Nat} (h : a.grownBy w (some g)) (u : Value) : a.grownBy (w.setCell ⟨g, i, none⟩ u) (some g) :=
  ⟨h.os, h.tape, h.output, by simpa [World.setCell] using h.size, fun j hj hne => (Below.heap_setCell w _ u j (by rintro rfl; exact hne rfl)).trans (h.block j hj hne)⟩
theorem gr_drewN {a w : World} {row : Option Nat} (h : a.grownBy w row) (n : Nat) : a.grownBy (w.drewN n) row := ⟨h.os, h.tape, h.output, h.size, h.block⟩
theorem gr_drew {a w : World} {row : Option Nat} (h : a.grownBy w row) : a.grownBy w.drew row := ⟨h.os, h.tape, h.output, h.size, h.block⟩
theorem gr_rd {α : Type} {enc : α → List Value} {k B : Nat} {w w' : World} {ao : Option Addr} {zs : List α} {g : Nat} (h : Rd enc k B w ao zs) (hg : w.grownBy w' (some g)) (hB : B ≤ g) : Rd enc k B w' ao zs := rd_grown h hg hB
theorem gr_lt {a w : World} {row : Option Nat} (h : a.grownBy w row) {j : Nat} (hj : j < a.heap.size) : j < w.heap.size := Nat.lt_of_lt_of_le hj h.size
theorem bl_gr {B : Nat} {a b w : World} {g : Nat} (h : Below B a b) (hg : b.grownBy w (some g)) (hB : B ≤ g) (hs : B ≤ b.heap.size) : Below B a w := h.grown hg hs fun j hj => by injection hj with hj; omega
theorem byte255 (a : Int) : 0 ≤ bits .and .u64 a 255 ∧ bits .and .u64 a 255 ≤ 255 := by
  have h : bits .and .u64 a 255 = IntKind.u64.wrap ((BitVec.ofInt 64 a &&& BitVec.ofInt 64 255).toNat : Int) := rfl
  rw [h, BitVec.toNat_and]
  have h2 : (BitVec.ofInt 64 a).toNat &&& (BitVec.ofInt 64 255).toNat ≤ 255 := Nat.le_trans Nat.and_le_right (by decide)
  have h3 : ∀ k : Nat, k ≤ 255 → IntKind.u64.wrap (k : Int) = (k : Int) := fun k hk => by show (k : Int) % 18446744073709551616 = k; omega
  rw [h3 _ h2]; omega
theorem byte255w (a : Int) : 0 ≤ wrap64 (bits .and .u64 a 255) ∧ wrap64 (bits .and .u64 a 255) ≤ 255 := by
  have h := byte255 a
  rw [IntWalk.wrap64_in _ ⟨by omega, by omega⟩]; exact h

theorem cur_step {B g m n c t k : Nat} {w : World} {ao : Option Addr} {sd : Int} (s : Int) (h : Blk w g 52 #[.slice ao n c, .int .i64 (t : Int), .int .u64 sd]) (hBg : B ≤ g) (ht : t ≤ m) (hn : n ≤ 65536) (hnc : n ≤ c) (hby : Bytes B w ao n) :
    Cur B (((w.drewN k).setCell ⟨g, 1, none⟩ (.int .i64 ((t : Int) + 1))).setCell ⟨g, 2, none⟩ (.int .u64 s)) g (m + 1) ∧ w.grownBy (((w.drewN k).setCell ⟨g, 1, none⟩ (.int .i64 ((t : Int) + 1))).setCell ⟨g, 2, none⟩ (.int .u64 s)) (some g) := by
  have G : w.grownBy (((w.drewN k).setCell ⟨g, 1, none⟩ (.int .i64 ((t : Int) + 1))).setCell ⟨g, 2, none⟩ (.int .u64 s)) (some g) := gr_set (gr_set (gr_drewN (gr_refl w _) k) _) _
  refine ⟨⟨ao, n, c, t + 1, s, ?_, hBg, by omega, hn, hnc, hby.keep G.size (fun j hj hj2 => G.block j hj2 (fun e => by injection e with e; omega))⟩, G⟩
  have := ((h.drewN k).set_ 1 (.int .i64 ((t : Int) + 1))).set_ 2 (.int .u64 s)
  rw [Int.natCast_add]
  exact this

set_option maxRecDepth 100000 in
theorem next_any (B g m : Nat) (w : World) (hc : Cur B w g m) (hm : m ≤ 1099511627776) :
    Calls Tryd.prog 52 #[.pointer (some ⟨g, 0, none⟩)] w fun e w' => ∃ v : Int, e = .returned (.int .i64 v) ∧ 0 ≤ v ∧ v ≤ 255 ∧ Cur B w' g (m + 1) ∧ w.grownBy w' (some g) := by
  obtain ⟨ao, n, c, t, sd, hB, hBg, ht, hn, hnc, hby⟩ := hc
  have hmm : (t : Int) ≤ 1099511627776 := by omega
  have c0 := hB.cell 0
  have c1 := hB.cell 1
  have c2 := hB.cell 2
  simp only [List.getElem?_toArray, List.getElem?_cons_zero, List.getElem?_cons_succ] at c0 c1 c2
  have f1 := hB.frozen 1
  have f2 := hB.frozen 2
  have hg := hB.lt
  have HB := hide hB
  have HY := hide hby
  clear hB hby
  have k1 : (0 : Int) ≤ (t : Int) := by omega
  go_enter Tryd.func52, Tryd.ntmps52
  by_cases h1 : t < n
  · obtain ⟨b, off, rfl, hb1, hb2, hb3⟩ := HY.out.resolve_left (by omega)
    obtain ⟨x, x0, x1, hx⟩ := hb3 t h1
    clear hb3
    have k2 : (t : Int) < (n : Int) := by omega
    have k3 : IntKind.i64.wrap x = x := IntWalk.i64_in _ (by omega)
    have d1 : decide (t < n) = true := by simpa using h1
    have d2 : (t : Int) + 1 ≤ (n : Int) := by omega
    go_wp2_with fail
    go_quiet (fail)
    go_wp2_with fail
    go_quiet (fail)
    go_wp2_with fail
    go_quiet (fail)
    go_wp2
    go_ret
    have key := fun (k : Nat) (s : Int) => cur_step (m := m) (k := k) s HB.out hBg ht hn hnc HY.out
    exact ⟨x, rfl, x0, x1, (key _ _).1.drewN _, gr_drewN (key _ _).2 _⟩
  · have k2 : ¬ (t : Int) < (n : Int) := by omega
    have d1 : decide (t < n) = false := by simpa using h1
    have d2 : ¬ (t : Int) + 1 ≤ (n : Int) := by omega
    go_wp2_with fail
    go_quiet (fail)
    go_wp2_with fail
    go_quiet (fail)
    go_wp2
    go_ret
    have key := fun (k : Nat) (s : Int) => cur_step (m := m) (k := k) s HB.out hBg ht hn hnc HY.out
    exact ⟨_, rfl, (byte255w _).1, (byte255w _).2, (key _ _).1.drewN _, gr_drewN (key _ _).2 _⟩

set_option maxRecDepth 100000 in
theorem pick_any (B g m : Nat) (n : Int) (w : World) (hc : Cur B w g m) (hm : m ≤ 1000000000) (hn0 : 0 ≤ n) (hn : n ≤ 60000) :
    Calls Tryd.prog 28 #[.pointer (some ⟨g, 0, none⟩), .int .i64 n] w fun e w' => ∃ v : Int, e = .returned (.int .i64 v) ∧ 0 ≤ v ∧ (v < n ∨ n ≤ 1 ∧ v = 0) ∧ Cur B w' g (m + 2) ∧ w.grownBy w' (some g) := by
  have HC := hide hc
  clear hc
  by_cases h1 : n ≤ 1
  · go_enter Tryd.func28, Tryd.ntmps28
    go_wp2
    go_ret
    exact ⟨0, rfl, by omega, by omega, HC.out.mono (by omega), gr_refl _ _⟩
  · have h2 : 1 ≤ n := by omega
    go_enter Tryd.func28, Tryd.ntmps28
    go_wp2_with fail
    refine (next_any B g m _ HC.out (by omega)).mono ?_
    rintro e w1 ⟨x, rfl, x0, x1, hc1, hg1⟩
    have HC1 := hide hc1
    have HG1 := hide hg1
    clear hc1 hg1
    by_cases h3 : 200 < n
    · go_wp2_with fail
      refine (next_any B g (m + 1) _ HC1.out (by omega)).mono ?_
      rintro e w2 ⟨y, rfl, y0, y1, hc2, hg2⟩
      have HC2 := hide hc2
      have HG2 := hide hg2
      clear hc2 hg2
      go_wp2
      go_ret
      have p1 := Int.emod_nonneg (x * 256 + y) (show n ≠ 0 by omega)
      have p2 := Int.emod_lt_of_pos (x * 256 + y) (show 0 < n by omega)
      exact ⟨_, rfl, by omega, by omega, HC2.out.mono (by omega), gr_trans HG1.out HG2.out⟩
    · go_wp2
      go_ret
      have p1 := Int.emod_nonneg x (show n ≠ 0 by omega)
      have p2 := Int.emod_lt_of_pos x (show 0 < n by omega)
      exact ⟨_, rfl, by omega, by omega, HC1.out.mono (by omega), HG1.out⟩
theorem one_any (B g m : Nat) (n : Int) (w : World) (hc : Cur B w g m) (hm : m ≤ 1000000000) (hn0 : 0 ≤ n) (hn : n ≤ 60000) :
    Calls Tryd.prog 65 #[.pointer (some ⟨g, 0, none⟩), .int .i64 n] w fun e w' => ∃ b : Bool, e = .returned (.bool b) ∧ Cur B w' g (m + 2) ∧ w.grownBy w' (some g) := by
  have HC := hide hc
  clear hc
  go_enter Tryd.func65, Tryd.ntmps65
  go_wp2_with fail
  refine (pick_any B g m n _ HC.out hm hn0 hn).mono ?_
  rintro e w1 ⟨x, rfl, x0, x1, hc1, hg1⟩
  have HC1 := hide hc1
  have HG1 := hide hg1
  clear hc1 hg1
  by_cases h0 : x = 0
  · subst h0
    go_wp2
    go_ret
    exact ⟨_, rfl, HC1.out, HG1.out⟩
  · go_wp2
    go_ret
    exact ⟨_, rfl, HC1.out, HG1.out⟩

/-- the numbers to choose from lie apart from the drawer -/
def Opts (w : World) (g : Nat) (ao : Option Addr) (n : Nat) (xs : List Int) : Prop := ∃ b off, ao = some ⟨b, off, none⟩ ∧ b ≠ g ∧ b < w.heap.size ∧ n ≤ xs.length ∧ ∀ j x, xs[j]? = some x → w.cell? ⟨b, off + j, none⟩ = some (.int .i64 x)
theorem Opts.lit {w : World} {g H : Nat} {t : TypeId} (xs : List Int) {cs : Array Value} (hg : g < w.heap.size) (hcs : cs = (xs.map (Value.int .i64)).toArray) (hH : w.heap.size = H) : Opts (w.alloc (.cells cs t)) g (some ⟨H, 0, none⟩) xs.length xs := by
  subst hH
  refine ⟨_, _, rfl, by omega, by simp, Nat.le_refl _, fun j x hx => ?_⟩
  rw [Nat.zero_add, (Blk.new w t cs).cell, hcs]
  simp [hx]
theorem Opts.drew {w : World} {g n : Nat} {ao : Option Addr} {xs : List Int} (h : Opts w g ao n xs) : Opts w.drew g ao n xs := h
theorem Opts.fewer {w : World} {g n m : Nat} {ao : Option Addr} {xs : List Int} (h : Opts w g ao n xs) (hm : m ≤ n) : Opts w g ao m xs := by
  obtain ⟨b, off, h1, h2, h3, h4, h5⟩ := h
  exact ⟨b, off, h1, h2, h3, by omega, h5⟩
theorem Opts.grown {w w' : World} {g n : Nat} {ao : Option Addr} {xs : List Int} (h : Opts w g ao n xs) (hg : w.grownBy w' (some g)) : Opts w' g ao n xs := by
  obtain ⟨b, off, h1, h2, h3, h4, h5⟩ := h
  exact ⟨b, off, h1, h2, gr_lt hg h3, h4, fun j x hx => (World.cell?_of_block (a := ⟨b, _, none⟩) (hg.block b h3 (fun e => by injection e with e; exact h2 e))).trans (h5 j x hx)⟩
set_option maxRecDepth 100000 in
theorem among_any (B g m : Nat) (ao : Option Addr) (n c : Nat) (xs : List Int) (w : World) (hc : Cur B w g m) (ho : Opts w g ao n xs) (hm : m ≤ 1000000000) (hn0 : 1 ≤ n) (hn : n ≤ 60000) :
    Calls Tryd.prog 27 #[.pointer (some ⟨g, 0, none⟩), .slice ao n c] w fun e w' => ∃ v : Int, e = .returned (.int .i64 v) ∧ v ∈ xs ∧ Cur B w' g (m + 2) ∧ w.grownBy w' (some g) := by
  have HC := hide hc
  have HO := hide ho
  clear hc ho
  go_enter Tryd.func27, Tryd.ntmps27
  go_wp2_with fail
  refine (pick_any B g m n _ HC.out hm (by omega) (by omega)).mono ?_
  rintro e w1 ⟨x, rfl, x0, x1, hc1, hg1⟩
  have HC1 := hide hc1
  have HG1 := hide hg1
  have HO1 := HO.out.grown hg1
  clear hc1 hg1
  obtain ⟨b, off, rfl, h2, h3, h4, h5⟩ := HO1
  obtain ⟨j, rfl⟩ : ∃ j : Nat, x = (j : Int) := ⟨x.toNat, by omega⟩
  have hj : j < xs.length := by omega
  have hx := h5 j xs[j] (List.getElem?_eq_getElem hj)
  have k1 : (j : Int) < (n : Int) := by omega
  have HX := hide (List.getElem_mem hj)
  generalize xs[j] = y at hx HX
  clear h5
  go_wp2
  go_ret
  exact ⟨_, rfl, HX.out, HC1.out, HG1.out⟩

end Go.Proofs.YtdgalehipgdhiaaDoor
