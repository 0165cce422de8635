/- OpenLoans: the program. -/
import Derived.Test.YtojahihkoaabdaaN17
import Derived.Test.YtojahihkoaabdaaN2
import Derived.Test.YtojahihkoaabdaaN4
namespace Go.Proofs.Ytojahihkoaabdaa
open Go.RowKit
set_option linter.unusedVariables false
set_option linter.unusedSimpArgs false

theorem ret_vbL {u : Value} {c d : Bool} (h2 : c = d) : Ending.returned (.tuple #[u, .bool c]) = .returned (.tuple #[u, .bool d]) := by rw [h2]

set_option maxRecDepth 100000 in
theorem keepOpen (rd d : Int) (b1 b2 : Nat) (w : World) (h1 : b1 < w.heap.size) (h2 : b2 < w.heap.size) (c1 : w.cell? ⟨b1, 0, none⟩ = some (.int .i64 rd)) (c2 : w.cell? ⟨b2, 0, none⟩ = some (.int .i64 d)) : KeepL 28 #[.pointer (some ⟨b1, 0, none⟩), .pointer (some ⟨b2, 0, none⟩)] (keepO rd d) w := fun W x hb => by
  have k1 : W.cell? ⟨b1, 0, none⟩ = some (.int .i64 rd) := (hb.cell (p := ⟨b1, 0, none⟩) h1).trans c1
  have k2 : W.cell? ⟨b2, 0, none⟩ = some (.int .i64 d) := (hb.cell (p := ⟨b2, 0, none⟩) h2).trans c2
  have g1 : b1 < W.heap.size := Nat.lt_of_lt_of_le h1 hb.size
  have g2 : b2 < W.heap.size := Nat.lt_of_lt_of_le h2 hb.size
  show Calls Try.prog 28 #[.agg #[.int .i64 x.s, .int .i64 x.r, .int .i64 x.o, .int .i64 x.d, .int .i64 x.b], .pointer (some ⟨b1, 0, none⟩), .pointer (some ⟨b2, 0, none⟩)] W _
  clear c1 c2 hb h1 h2
  have HB := hide ((Below.refl W.heap.size W).alloc (Nat.le_refl _) (.cells #[.int .i64 x.s, .int .i64 x.r, .int .i64 x.o, .int .i64 x.d, .int .i64 x.b] 39))
  cases hr : (x.r == rd) with
  | false =>
    have HO : Hid (keepO rd d x = false) := hide (by unfold keepO; rw [hr]; rfl)
    go_enter Try.func28, Try.ntmps28
    go_wp2
    go_ret
    exact ⟨ret_bool HO.out.symm, HB.out⟩
  | true =>
    have HO : Hid (keepO rd d x = openB x d) := hide (by unfold keepO; rw [hr]; rfl)
    go_enter Try.func28, Try.ntmps28
    go_wp2_with fail
    refine (isOpen_any x d _).mono ?_
    rintro e w2 ⟨rfl, hb⟩
    have HB2 := hide (bl_step HB.out hb)
    clear hb
    go_wp2
    go_ret
    exact ⟨ret_bool HO.out.symm, HB2.out⟩
set_option maxRecDepth 100000 in
set_option maxHeartbeats 1000000 in
theorem OpenLoans_any (ao : Option Addr) (n : Nat) (zs : List Ln) (rd d : Int) (w : World) (hz : zs.length = n) (hn : n ≤ 1048576) (hr : Rd encLn 5 w.heap.size w ao zs) :
    Calls Try.prog 11 #[.slice ao n n, .int .i64 rd, .int .i64 d] w fun e w' => ∃ v, e = .returned (.tuple #[v, .bool (okOpen zs rd d)]) ∧ w'.ownsRow w.heap.size 3 1 v (openV zs rd d).length ((openV zs rd d).flatMap encI) ∧ Below w.heap.size w w' := by
  have eg : Hid (∀ args w, (callFunc 28 args).run Try.prog w = .ok (.enter 28 args) w) := hide (enters_at Try.func28 (by kernel_rfl) rfl)
  obtain ⟨W, hW⟩ : ∃ W, W = (w.alloc (.cells #[.int .i64 rd] 3)).alloc (.cells #[.int .i64 d] 3) := ⟨_, rfl⟩
  have HBW : Hid (Below w.heap.size w W) := hide (by rw [hW]; exact ((Below.refl _ _).alloc (Nat.le_refl _) _).alloc (by simp) _)
  have e0 := hide (show W.cell? ⟨w.heap.size, 0, none⟩ = some (.int .i64 rd) from by rw [hW]; simp)
  have e1 := hide (show W.cell? ⟨w.heap.size + 1, 0, none⟩ = some (.int .i64 d) from by rw [hW]; simp)
  have g0 : w.heap.size + 1 < W.heap.size := by rw [hW]; simp
  have HZ := hide hz
  have HR := hide (rd_step hr HBW.out)
  have HA := hide (AreLoans_any ao n n zs (Nat.le_refl _) W hz hn HR.out)
  have HW := hide hW
  clear hz hr hW
  rcases first3 (loansB zs) (inB rd 1 999) (inB d 0 4000) with h1 | ⟨h1, h2⟩ | ⟨h1, h2, h3⟩ | ⟨h1, h2, h3⟩
  iterate 3
    · have HO : Hid (okOpen zs rd d = false) := hide (by simp [okOpen, *])
      have HC : Hid (openV zs rd d = []) := hide (by unfold openV; rw [HO.out]; rfl)
      go_enter Try.func11, Try.ntmps11
      go_wp2_with fail
      rw [← HW.out]
      refine HA.out.mono ?_
      rintro e w1 ⟨rfl, hb⟩
      have HB := hide (HBW.out.trans (hb.mono HBW.out.size))
      have f0 := (hb.cell (p := ⟨w.heap.size, 0, none⟩) (by show w.heap.size < W.heap.size; omega)).trans e0.out
      have f1 := (hb.cell (p := ⟨w.heap.size + 1, 0, none⟩) (by show w.heap.size + 1 < W.heap.size; omega)).trans e1.out
      clear hb
      go_wp2_with (first | (go_at_call 26; refine (isId_any _ _).mono ?_; rintro e w' ⟨rfl, rfl⟩) | (go_at_call 27; refine (isDay_any _ _).mono ?_; rintro e w' ⟨rfl, rfl⟩))
      go_ret2
      exact ⟨_, ret_vbL HO.out.symm, by rw [HC.out]; exact World.ownsRow_nil _ _ _ _, HB.out⟩
  have HO : Hid (okOpen zs rd d = true) := hide (by simp [okOpen, *])
  have HC : Hid (openV zs rd d = sortL (gather Ln.s (keepO rd d) zs)) := hide (by unfold openV; rw [HO.out]; rfl)
  have hn15 : n ≤ 15 := by rw [← HZ.out]; unfold loansB at h1; simp only [Bool.and_eq_true, decide_eq_true_eq] at h1; exact h1.2
  go_enter Try.func11, Try.ntmps11
  go_wp2_with fail
  rw [← HW.out]
  refine HA.out.mono ?_
  rintro e w1 ⟨rfl, hb⟩
  have HB := hide hb
  have f0 := (hb.cell (p := ⟨w.heap.size, 0, none⟩) (by show w.heap.size < W.heap.size; omega)).trans e0.out
  have f1 := (hb.cell (p := ⟨w.heap.size + 1, 0, none⟩) (by show w.heap.size + 1 < W.heap.size; omega)).trans e1.out
  have gs := hb.size
  clear hb HA
  go_wp2_with (first | (go_at_call 26; refine (isId_any _ _).mono ?_; rintro e w' ⟨rfl, rfl⟩) | (go_at_call 27; refine (isDay_any _ _).mono ?_; rintro e w' ⟨rfl, rfl⟩))
  have HK := hide (keepOpen rd d w.heap.size (w.heap.size + 1) w1 (by omega) (by omega) f0 f1)
  clear f0 f1
  go_wp2_with fail
  refine (sheetsOf_any 28 _ (keepO rd d) eg.out ao n n zs w1 HZ.out hn (rd_step HR.out HB.out) (by omega) HK.out).mono ?_
  rintro e w2 ⟨v, rfl, ho, hb⟩
  have HB2 := hide (bl_step HB.out hb)
  have HO2 := hide (own_baseL ho (Nat.le_trans HBW.out.size gs))
  clear hb ho
  go_wp2
  go_ret2
  exact ⟨_, ret_vbL HO.out.symm, by rw [HC.out]; exact HO2.out, HBW.out.trans (HB2.out.mono HBW.out.size)⟩

end Go.Proofs.Ytojahihkoaabdaa
