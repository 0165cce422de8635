/- IsLand: the plain law, the family of Land. -/
import Derived.Test.YthcfkihpihgjeaaSmall
import Derived.Test.YthcfkihpihgjeaaFIntA4
namespace Go.Proofs.Ythcfkihpihgjeaa
open Go.RowKit
set_option linter.unusedVariables false
set_option linter.unusedSimpArgs false

theorem Blk.cast_size {w : World} {g h : Nat} {t : TypeId} {cs : Array Value} (x : Blk w g t cs) (e : g = h) : Blk w h t cs := e ▸ x

def okBar (wd hg : Int) (x : Ar4) : Bool := inB x.a 0 x.c && decide (x.c < wd) && inB x.b 0 x.d && decide (x.d < hg)
def landB (wd hg st : Int) (zs : List Ar4) : Bool := allB zs.length (fun k => okBar wd hg zs[k]!) && inB wd 1 2000 && inB hg 1 2000 && decide (zs.length ≤ 10) && inB st 1 100
theorem land_bad {wd hg st : Int} {zs : List Ar4} {n k : Nat} {x : Ar4} (hz : zs.length = n) (hk : k < n) (hx : zs[k]! = x) (h : okBar wd hg x = false) : landB wd hg st zs = false := by
  unfold landB; rw [hz, allB_false (p := fun k => okBar wd hg zs[k]!) k hk (by rw [hx]; exact h)]; rfl
theorem land_end {wd hg st : Int} {zs : List Ar4} {n k : Nat} (hz : zs.length = n) (h : ∀ j, j < k → okBar wd hg zs[j]! = true) (hk : n ≤ k) : landB wd hg st zs = (inB wd 1 2000 && inB hg 1 2000 && decide (n ≤ 10) && inB st 1 100) := by
  unfold landB; rw [hz, allB_true (fun j hj => h j (by omega)), Bool.true_and]
theorem szLand_any (wd hg st : Int) (ao : Option Addr) (n c : Nat) (zs : List Ar4) (left : Int) (w : World) (hn : n ≤ 9223372036854775807) (h0 : 0 ≤ left) (h1 : left ≤ 1048576) :
    Calls Try.prog 12 #[.agg #[.int .i64 wd, .int .i64 hg, .slice ao n c, .int .i64 st], .int .i64 left] w fun e w' => e = .returned (.int .i64 (szV left n)) ∧ Below w.heap.size w w' := by
  by_cases b0 : left < n
  · have E0 := hide (szV_big b0)
    go_enter Try.func12, Try.ntmps12
    go_wp2_with fail
    refine (szIntA4S_any _ _ _ _ _ hn h0 h1).mono ?_
    rintro e w' ⟨rfl, rfl⟩
    rw [E0.out]
    go_wp2
    go_ret
    exact ⟨ret_int E0.out.symm, (Below.refl _ _).alloc (Nat.le_refl _) _⟩
  · have E0 := hide (szV_ok b0)
    have hx : ¬ left - (n : Int) < 0 := by omega
    go_enter Try.func12, Try.ntmps12
    go_wp2_with fail
    refine (szIntA4S_any _ _ _ _ _ hn h0 h1).mono ?_
    rintro e w' ⟨rfl, rfl⟩
    rw [E0.out]
    go_wp2
    go_ret
    exact ⟨ret_int E0.out.symm, (Below.refl _ _).alloc (Nat.le_refl _) _⟩
set_option maxRecDepth 100000 in
theorem toLand_any (wd hg st : Int) (ao : Option Addr) (n c : Nat) (zs : List Ar4) (w : World) (hz : zs.length = n) (hn : n ≤ 1048576) (hr : Rd encAr4 4 w.heap.size w ao zs) :
    Calls Try.prog 14 #[.agg #[.int .i64 wd, .int .i64 hg, .slice ao n c, .int .i64 st]] w fun e w' => ∃ g, e = .returned (.agg #[.int .i64 wd, .int .i64 hg, .slice (some ⟨g, 0, none⟩) n n, .int .i64 st]) ∧ Rd encAr4 4 w'.heap.size w' (some ⟨g, 0, none⟩) zs ∧ Below w.heap.size w w' := by
  have HZ := hide hz
  obtain ⟨V, hV⟩ : ∃ V, V = ((w.alloc (.cells #[.int .i64 wd, .int .i64 hg, .slice ao n c, .int .i64 st] 30)).alloc (.cells #[.int .i64 0, .int .i64 0, .slice none 0 0, .int .i64 0] 33)).alloc (.cells #[.int .i64 wd, .int .i64 hg, .slice none 0 0, .int .i64 0] 33) := ⟨_, rfl⟩
  have HBV : Hid (Below w.heap.size w V) := hide (by rw [hV]; exact (((Below.refl _ w).alloc (Nat.le_refl _) _).alloc (by simp) _).alloc (by simp; omega) _)
  have hs : V.heap.size = w.heap.size + 3 := by rw [hV]; simp
  obtain ⟨X1, hX1⟩ : ∃ X1, X1 = w.heap.size + 1 := ⟨_, rfl⟩
  obtain ⟨X2, hX2⟩ : ∃ X2, X2 = w.heap.size + 2 := ⟨_, rfl⟩
  obtain ⟨X3, hX3⟩ : ∃ X3, X3 = w.heap.size + 3 := ⟨_, rfl⟩
  have hS0 : w.heap.size + 1 + 1 = X2 := by omega
  have hS1 : w.heap.size + 1 = X1 := by omega
  have hS2 : X1 + 1 = X2 := by omega
  have hS3 : w.heap.size + 3 = X3 := by omega
  have b0 : Blk V w.heap.size 30 #[.int .i64 wd, .int .i64 hg, .slice ao n c, .int .i64 st] := by rw [hV]; exact ((Blk.new w _ _).alloc _).alloc _
  have e3 : V.cell? ⟨w.heap.size, 3, none⟩ = some (.int .i64 st) := b0.cell 3
  have b1 : Blk V X1 33 #[.int .i64 0, .int .i64 0, .slice none 0 0, .int .i64 0] := by rw [hV, hX1]; exact ((Blk.new (w.alloc (.cells #[.int .i64 wd, .int .i64 hg, .slice ao n c, .int .i64 st] 30)) _ _).alloc _).cast_size (by first | (simp; done) | (simp; omega))
  have b2 : Blk V X2 33 #[.int .i64 wd, .int .i64 hg, .slice none 0 0, .int .i64 0] := by rw [hV, hX2]; exact (Blk.new ((w.alloc (.cells #[.int .i64 wd, .int .i64 hg, .slice ao n c, .int .i64 st] 30)).alloc (.cells #[.int .i64 0, .int .i64 0, .slice none 0 0, .int .i64 0] 33)) _ _).cast_size (by first | (simp; done) | (simp; omega))
  have HC := hide (toIntA4S_any ao n c zs V hz hn (rd_step hr HBV.out))
  have HW := hide hV
  have HXX := hide (And.intro hX1 (And.intro hX2 hX3))
  have HHS := hide hs
  clear hz hr hV hX1 hX2 hX3 hS0 hS1 hS2 hS3 hs b0
  go_enter Try.func14, Try.ntmps14
  go_wp2_with fail
  rw [← HW.out]
  refine HC.out.mono ?_
  rintro e w2 ⟨rfl, ho, _, hb⟩
  obtain ⟨hX1, hX2, hX3⟩ := HXX.out
  have hs := HHS.out
  have hS0 : w.heap.size + 1 + 1 = X2 := by omega
  have hS1 : w.heap.size + 1 = X1 := by omega
  have hS2 : X1 + 1 = X2 := by omega
  have hS3 : w.heap.size + 3 = X3 := by omega
  have c3 := (hb.cell (p := ⟨w.heap.size, 3, none⟩) (by show w.heap.size < V.heap.size; omega)).trans e3
  have B1 := b1.below' hb
  have B2 := b2.below' hb
  have hs2 := hb.size
  have d10 : w2.cell? ⟨X1, 0, none⟩ = some (.int .i64 0) := B1.cell 0
  have f10 : w2.frozen? ⟨X1, 0, none⟩ = false := B1.frozen 0
  have d11 : w2.cell? ⟨X1, 1, none⟩ = some (.int .i64 0) := B1.cell 1
  have f11 : w2.frozen? ⟨X1, 1, none⟩ = false := B1.frozen 1
  have d12 : w2.cell? ⟨X1, 2, none⟩ = some (.slice none 0 0) := B1.cell 2
  have f12 : w2.frozen? ⟨X1, 2, none⟩ = false := B1.frozen 2
  have d13 : w2.cell? ⟨X1, 3, none⟩ = some (.int .i64 0) := B1.cell 3
  have f13 : w2.frozen? ⟨X1, 3, none⟩ = false := B1.frozen 3
  have d20 : w2.cell? ⟨X2, 0, none⟩ = some (.int .i64 wd) := B2.cell 0
  have f20 : w2.frozen? ⟨X2, 0, none⟩ = false := B2.frozen 0
  have d21 : w2.cell? ⟨X2, 1, none⟩ = some (.int .i64 hg) := B2.cell 1
  have f21 : w2.frozen? ⟨X2, 1, none⟩ = false := B2.frozen 1
  have d22 : w2.cell? ⟨X2, 2, none⟩ = some (.slice none 0 0) := B2.cell 2
  have f22 : w2.frozen? ⟨X2, 2, none⟩ = false := B2.frozen 2
  have d23 : w2.cell? ⟨X2, 3, none⟩ = some (.int .i64 0) := B2.cell 3
  have f23 : w2.frozen? ⟨X2, 3, none⟩ = false := B2.frozen 3
  have HB := hide (bl_step HBV.out hb)
  rw [hs, hS3] at ho
  have HO := hide ho
  simp only [hs]
  clear hb ho B1 B2 b1 b2 HW HC e3
  simp only [hS1, hS2, hS3, hS0]
  have n12 : X1 ≠ X2 := by omega
  have n21 : X2 ≠ X1 := by omega
  have l1 : w.heap.size ≤ X1 := by omega
  have l2 : w.heap.size ≤ X2 := by omega
  have l13 : X1 < X3 := by omega
  have l23 : X2 < X3 := by omega
  clear hS0 hS1 hS2 hS3 hX1 hX2 hX3 hs
  go_wp2
  refine bodyPost_ret (v := .agg #[.int .i64 wd, .int .i64 hg, .slice (some ⟨X3, 0, none⟩) n n, .int .i64 st]) (by simp [results, Try.results14, go_sem, d10, d11, d12, d13, d20, d21, d22, d23, n12, n21]) rfl ⟨_, rfl, ?_, ?_⟩
  · refine own_rd' encAr4_len (base := X3) (e := 69) (c := n) (n := n) ?_ HZ.out
    repeat (first | with_reducible exact HO.out | refine ownsRow_setCell_below ?_ (by show _ < X3; omega) _)
  · repeat (first | with_reducible exact HB.out | refine Below.setCell ?_ (by show w.heap.size ≤ _; omega) _)
set_option maxRecDepth 100000 in
theorem eqLand_same (wd hg st : Int) (ao bo : Option Addr) (n c d : Nat) (zs : List Ar4) (w : World) (hz : zs.length = n) (hn : n ≤ 1048576) (hr : Rd encAr4 4 w.heap.size w ao zs) (hr2 : Rd encAr4 4 w.heap.size w bo zs) :
    Calls Try.prog 16 #[.agg #[.int .i64 wd, .int .i64 hg, .slice ao n c, .int .i64 st], .agg #[.int .i64 wd, .int .i64 hg, .slice bo n d, .int .i64 st]] w fun e w' => e = .returned (.bool true) ∧ Below w.heap.size w w' := by
  obtain ⟨V, hV⟩ : ∃ V, V = (w.alloc (.cells #[.int .i64 wd, .int .i64 hg, .slice ao n c, .int .i64 st] 33)).alloc (.cells #[.int .i64 wd, .int .i64 hg, .slice bo n d, .int .i64 st] 33) := ⟨_, rfl⟩
  have HBV : Hid (Below w.heap.size w V) := hide (by rw [hV]; exact ((Below.refl _ w).alloc (Nat.le_refl _) _).alloc (by simp) _)
  have hs : V.heap.size = w.heap.size + 2 := by rw [hV]; simp
  have b0 : Blk V w.heap.size 33 #[.int .i64 wd, .int .i64 hg, .slice ao n c, .int .i64 st] := by rw [hV]; exact (Blk.new w _ _).alloc _
  have b1 : Blk V (w.heap.size + 1) 33 #[.int .i64 wd, .int .i64 hg, .slice bo n d, .int .i64 st] := by rw [hV]; exact (Blk.new (w.alloc (.cells #[.int .i64 wd, .int .i64 hg, .slice ao n c, .int .i64 st] 33)) _ _).cast_size (by simp)
  have e3 : V.cell? ⟨w.heap.size, 3, none⟩ = some (.int .i64 st) := b0.cell 3
  have e4 : V.cell? ⟨w.heap.size + 1, 3, none⟩ = some (.int .i64 st) := b1.cell 3
  clear b0 b1
  have HC := hide (eqIntA4S_same ao bo n c d zs V hz hn (rd_step hr HBV.out) (rd_step hr2 HBV.out))
  have HW := hide hV
  clear hz hr hr2 hV
  go_enter Try.func16, Try.ntmps16
  go_wp2_with fail
  rw [← HW.out]
  refine HC.out.mono ?_
  rintro e w2 ⟨rfl, hb⟩
  have c3 := (hb.cell (p := ⟨w.heap.size, 3, none⟩) (by show w.heap.size < V.heap.size; omega)).trans e3
  have c4 := (hb.cell (p := ⟨w.heap.size + 1, 3, none⟩) (by show w.heap.size + 1 < V.heap.size; omega)).trans e4
  have HB := hide (bl_step HBV.out hb)
  clear hb HW HC e3 e4
  go_wp2
  go_ret
  exact ⟨rfl, HB.out⟩

end Go.Proofs.Ythcfkihpihgjeaa
