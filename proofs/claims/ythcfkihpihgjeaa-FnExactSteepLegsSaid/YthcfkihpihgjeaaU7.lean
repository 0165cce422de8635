/- Land: made, marked. -/
import Derived.Test.YthcfkihpihgjeaaU4
import Derived.Test.YthcfkihpihgjeaaOwn
namespace Go.Proofs.Ythcfkihpihgjeaa
open Go.RowKit
set_option linter.unusedVariables false
set_option linter.unusedSimpArgs false

theorem own_baseN {w : World} {b b2 n k : Nat} {e : TypeId} {v : Value} {xs : List Value} (ho : w.ownsRow b e k v n xs) (h : b2 ≤ b) : w.ownsRow b2 e k v n xs := ⟨ho.1, ho.2.imp id (fun ⟨g, cap, cur, h1, h2, r⟩ => ⟨g, cap, cur, h1, Nat.le_trans h h2, r⟩)⟩
set_option maxRecDepth 100000 in
theorem toLandO_any (wd hg st : Int) (ao : Option Addr) (n c : Nat) (zs : List Ar4) (w : World) (hz : zs.length = n) (hn : n ≤ 1048576) (hr : Rd encAr4 4 w.heap.size w ao zs) :
    Calls Try.prog 14 #[.agg #[.int .i64 wd, .int .i64 hg, .slice ao n c, .int .i64 st]] w fun e w' => ∃ g, e = .returned (.agg #[.int .i64 wd, .int .i64 hg, .slice (some ⟨g, 0, none⟩) n n, .int .i64 st]) ∧ w'.ownsRow w.heap.size 69 4 (.slice (some ⟨g, 0, none⟩) n n) n (zs.flatMap encAr4) ∧ Below w.heap.size w w' := by
  have HZ := hide hz
  obtain ⟨V, hV⟩ : ∃ V, V = ((w.alloc (.cells #[.int .i64 wd, .int .i64 hg, .slice ao n c, .int .i64 st] 30)).alloc (.cells #[.int .i64 0, .int .i64 0, .slice none 0 0, .int .i64 0] 33)).alloc (.cells #[.int .i64 wd, .int .i64 hg, .slice none 0 0, .int .i64 0] 33) := ⟨_, rfl⟩
  have HBV : Hid (Below w.heap.size w V) := hide (by rw [hV]; exact (((Below.refl _ w).alloc (Nat.le_refl _) _).alloc (by simp) _).alloc (by simp; omega) _)
  have hs : V.heap.size = w.heap.size + 3 := by rw [hV]; simp
  obtain ⟨X1, hX1⟩ : ∃ X1, X1 = w.heap.size + 1 := ⟨_, rfl⟩
  obtain ⟨X2, hX2⟩ : ∃ X2, X2 = w.heap.size + 2 := ⟨_, rfl⟩
  obtain ⟨X3, hX3⟩ : ∃ X3, X3 = w.heap.size + 3 := ⟨_, rfl⟩
  have hS0 : w.heap.size + 1 + 1 = X2 := by omega
  have hS1 : w.heap.size + 1 = X1 := by omega
  have hS2 : X1 + 1 = X2 := by omega
  have hS3 : w.heap.size + 3 = X3 := by omega
  have b0 : Blk V w.heap.size 30 #[.int .i64 wd, .int .i64 hg, .slice ao n c, .int .i64 st] := by rw [hV]; exact ((Blk.new w _ _).alloc _).alloc _
  have e3 : V.cell? ⟨w.heap.size, 3, none⟩ = some (.int .i64 st) := b0.cell 3
  have b1 : Blk V X1 33 #[.int .i64 0, .int .i64 0, .slice none 0 0, .int .i64 0] := by rw [hV, hX1]; exact ((Blk.new (w.alloc (.cells #[.int .i64 wd, .int .i64 hg, .slice ao n c, .int .i64 st] 30)) _ _).alloc _).cast_size (by first | (simp; done) | (simp; omega))
  have b2 : Blk V X2 33 #[.int .i64 wd, .int .i64 hg, .slice none 0 0, .int .i64 0] := by rw [hV, hX2]; exact (Blk.new ((w.alloc (.cells #[.int .i64 wd, .int .i64 hg, .slice ao n c, .int .i64 st] 30)).alloc (.cells #[.int .i64 0, .int .i64 0, .slice none 0 0, .int .i64 0] 33)) _ _).cast_size (by first | (simp; done) | (simp; omega))
  have HC := hide (toIntA4S_any ao n c zs V hz hn (rd_step hr HBV.out))
  have HW := hide hV
  have HXX := hide (And.intro hX1 (And.intro hX2 hX3))
  have HHS := hide hs
  clear hz hr hV hX1 hX2 hX3 hS0 hS1 hS2 hS3 hs b0
  go_enter Try.func14, Try.ntmps14
  go_wp2_with fail
  rw [← HW.out]
  refine HC.out.mono ?_
  rintro e w2 ⟨rfl, ho, _, hb⟩
  obtain ⟨hX1, hX2, hX3⟩ := HXX.out
  have hs := HHS.out
  have hS0 : w.heap.size + 1 + 1 = X2 := by omega
  have hS1 : w.heap.size + 1 = X1 := by omega
  have hS2 : X1 + 1 = X2 := by omega
  have hS3 : w.heap.size + 3 = X3 := by omega
  have c3 := (hb.cell (p := ⟨w.heap.size, 3, none⟩) (by show w.heap.size < V.heap.size; omega)).trans e3
  have B1 := b1.below' hb
  have B2 := b2.below' hb
  have hs2 := hb.size
  have d10 : w2.cell? ⟨X1, 0, none⟩ = some (.int .i64 0) := B1.cell 0
  have f10 : w2.frozen? ⟨X1, 0, none⟩ = false := B1.frozen 0
  have d11 : w2.cell? ⟨X1, 1, none⟩ = some (.int .i64 0) := B1.cell 1
  have f11 : w2.frozen? ⟨X1, 1, none⟩ = false := B1.frozen 1
  have d12 : w2.cell? ⟨X1, 2, none⟩ = some (.slice none 0 0) := B1.cell 2
  have f12 : w2.frozen? ⟨X1, 2, none⟩ = false := B1.frozen 2
  have d13 : w2.cell? ⟨X1, 3, none⟩ = some (.int .i64 0) := B1.cell 3
  have f13 : w2.frozen? ⟨X1, 3, none⟩ = false := B1.frozen 3
  have d20 : w2.cell? ⟨X2, 0, none⟩ = some (.int .i64 wd) := B2.cell 0
  have f20 : w2.frozen? ⟨X2, 0, none⟩ = false := B2.frozen 0
  have d21 : w2.cell? ⟨X2, 1, none⟩ = some (.int .i64 hg) := B2.cell 1
  have f21 : w2.frozen? ⟨X2, 1, none⟩ = false := B2.frozen 1
  have d22 : w2.cell? ⟨X2, 2, none⟩ = some (.slice none 0 0) := B2.cell 2
  have f22 : w2.frozen? ⟨X2, 2, none⟩ = false := B2.frozen 2
  have d23 : w2.cell? ⟨X2, 3, none⟩ = some (.int .i64 0) := B2.cell 3
  have f23 : w2.frozen? ⟨X2, 3, none⟩ = false := B2.frozen 3
  have HB := hide (bl_step HBV.out hb)
  rw [hs, hS3] at ho
  have HO := hide ho
  simp only [hs]
  clear hb ho B1 B2 b1 b2 HW HC e3
  simp only [hS1, hS2, hS3, hS0]
  have n12 : X1 ≠ X2 := by omega
  have n21 : X2 ≠ X1 := by omega
  have l1 : w.heap.size ≤ X1 := by omega
  have l2 : w.heap.size ≤ X2 := by omega
  have l13 : X1 < X3 := by omega
  have l23 : X2 < X3 := by omega
  have l03 : w.heap.size ≤ X3 := by omega
  clear hS0 hS1 hS2 hS3 hX1 hX2 hX3 hs
  go_wp2
  refine bodyPost_ret (v := .agg #[.int .i64 wd, .int .i64 hg, .slice (some ⟨X3, 0, none⟩) n n, .int .i64 st]) (by simp [results, Try.results14, go_sem, d10, d11, d12, d13, d20, d21, d22, d23, n12, n21]) rfl ⟨_, rfl, ?_, ?_⟩
  · refine own_baseN (b := X3) ?_ l03
    repeat (first | with_reducible exact HO.out | refine ownsRow_setCell_below ?_ (by show _ < X3; omega) _)
  · repeat (first | with_reducible exact HB.out | refine Below.setCell ?_ (by show w.heap.size ≤ _; omega) _)
set_option maxRecDepth 100000 in
theorem markIntA4S_any (g n cap : Nat) (cs0 : Array Value) (q : Int) (w : World) (hB0 : Blk w g 69 cs0) (hs0 : cs0.size = cap * 4) (hnc : n ≤ cap) (hn : n ≤ 1048576) (hq0 : 0 ≤ q) (hq1 : q ≤ 1099511627776) :
    Calls Try.prog 57 #[.slice (some ⟨g, 0, none⟩) n cap, .int .i64 q] w fun e w' => e = .returned (.int .i64 (q + (n * 4 : Nat))) ∧ w.grownBy w' (some g) ∧ ∃ cs, Blk w' g 69 cs ∧ cs.size = cap * 4 ∧ cs.toList.take (n * 4) = marks q (n * 4) := by
  have HB0 := hide hB0
  have HS0 := hide hs0
  clear hB0 hs0
  go_enter Try.func57, Try.ntmps57
  go_wp2
  go_loopg [1, 5] n (fun gk m i wr => ∃ k : Nat, k ≤ n ∧ n - k ≤ gk ∧ i = .int .i64 k ∧ m = .int .i64 (q + (k * 4 : Nat)) ∧ Aside (w.grownBy wr (some g)) ∧ Aside (∃ cs, Blk wr g 69 cs ∧ cs.size = cap * 4 ∧ cs.toList.take (k * 4) = marks q (k * 4)))
  case atStart => exact ⟨0, Nat.zero_le _, by omega, rfl, by simp, World.grownBy.refl w _, ⟨cs0, HB0.out, HS0.out, by simp [marks]⟩⟩
  case round =>
    obtain ⟨k, hk, hgk, rfl, rfl, BW, A⟩ := hrel
    by_cases hlt : k < n
    · have hlti : (k : Int) < (n : Int) := by omega
      have hkz : (0 : Int) ≤ (k : Int) := by omega
      go_wp2
      go_loopg [1, 6] 4 (fun gj m i w2 => ∃ j : Nat, j ≤ 4 ∧ 4 - j ≤ gj ∧ i = .int .i64 j ∧ m = .int .i64 (q + (k * 4 + j : Nat)) ∧ Aside (w.grownBy w2 (some g)) ∧ Aside (∃ cs, Blk w2 g 69 cs ∧ cs.size = cap * 4 ∧ cs.toList.take (k * 4 + j) = marks q (k * 4 + j)))
      case atStart => exact ⟨0, Nat.zero_le _, by omega, rfl, by simp, BW.out, A.out⟩
      case round =>
        obtain ⟨j, hj, hgj, rfl, rfl, BV, A2⟩ := hrel
        by_cases hlj : j < 4
        · have hlji : (j : Int) < 4 := by omega
          have hjz : (0 : Int) ≤ (j : Int) := by omega
          obtain ⟨cs, hB, hs, ht⟩ := A2.out
          clear A A2
          have HT := hide ht
          have HS := hide hs
          clear ht hs
          have d0 : wr.cell? ⟨g, k * 4 + j, none⟩ = some (cs[k * 4 + j]'(by rw [HS.out]; omega)) := by rw [hB.cell]; exact Array.getElem?_eq_getElem _
          have f0 : wr.frozen? ⟨g, k * 4 + j, none⟩ = false := hB.frozen _
          have HB := hide hB
          clear hB
          have hm0 : 0 ≤ q + (k * 4 + j : Nat) := by omega
          have hm1 : q + (k * 4 + j : Nat) ≤ 2199023255552 := by omega
          obtain ⟨m, hm⟩ : ∃ m : Int, m = q + (k * 4 + j : Nat) := ⟨_, rfl⟩
          rw [← hm] at hm0 hm1 ⊢
          have HM := hide hm
          clear hm
          go_wp2
          go_roundg (4 - (j + 1))
          case measure => omega
          case rel =>
            refine ⟨j + 1, by omega, by omega, by go_num, ?_, ?_, setL cs (k * 4 + j) [.int .i64 m], ?_, ?_, ?_⟩
            · rw [HM.out]; congr 1; omega
            · exact grownBy_setOnly BV.out _ _
            · exact HB.out.set_ _ _
            · rw [setL_size]; exact HS.out
            · have e : marks m 1 = [.int .i64 m] := by simp [marks]
              rw [← Nat.add_assoc, marks_add, ← HT.out, ← HM.out, e]
              exact setL_take cs (k * 4 + j) [.int .i64 m] (by rw [HS.out]; simp only [List.length_cons, List.length_nil]; omega)
        · have hge : ¬ (j : Int) < 4 := by omega
          obtain rfl : j = 4 := by omega
          have HA2 := hide A2.out
          clear A A2
          go_wp2
          go_roundg (n - (k + 1))
          case measure => omega
          case rel => exact ⟨k + 1, by omega, by omega, by go_num, by congr 2; omega, BV.out, by rw [show (k + 1) * 4 = k * 4 + 4 by omega]; exact HA2.out⟩
    · have hge : ¬ (k : Int) < (n : Int) := by omega
      have : k = n := by omega
      subst this
      go_wp2
      go_ret
      exact ⟨rfl, BW.out, A.out⟩
theorem markIntA4S_own {base : Nat} (v : Value) (n : Nat) (zs : List Ar4) (q : Int) (w : World) (h : w.ownsRow base 69 4 v n (zs.flatMap encAr4)) (hz : zs.length = n) (hn : n ≤ 1048576) (hq0 : 0 ≤ q) (hq1 : q ≤ 1099511627776) :
    Calls Try.prog 57 #[v, .int .i64 q] w fun e w' => e = .returned (.int .i64 (q + (n * 4 : Nat))) ∧ w.grownBy w' v.ownBlock ∧ w'.ownsRow base 69 4 v n (marks q (n * 4)) := by
  rcases own_form encAr4_len h hz with ⟨rfl, rfl, rfl⟩ | ⟨g, cap, cs, rfl, hb, hB, hs, hnc, hc, _⟩
  · clear h hz
    go_enter Try.func57, Try.ntmps57
    go_wp2
    go_loopg [1, 5] 0 (fun _ m i wr => m = .int .i64 q ∧ i = .int .i64 0 ∧ w = wr)
    case atStart => exact ⟨rfl, rfl, rfl⟩
    case round =>
      obtain ⟨rfl, rfl, rfl⟩ := hrel
      go_wp2
      go_ret
      exact ⟨ret_int (by simp), World.grownBy.refl w _, ⟨by simp [marks], .inl ⟨rfl, rfl⟩⟩⟩
  · refine (markIntA4S_any g n cap cs q w hB hs hnc hn hq0 hq1).mono ?_
    rintro e w' ⟨rfl, hg, cs', hB', hs', ht'⟩
    exact ⟨rfl, hg, World.ownsRow_of_blk hB' hb hs' hnc hc (marks_len _ _) ht'⟩

theorem markLand_own (wd hg st : Int) {base : Nat} (ao : Option Addr) (n c : Nat) (zs : List Ar4) (q : Int) (w : World) (h : w.ownsRow base 69 4 (.slice ao n c) n (zs.flatMap encAr4)) (hz : zs.length = n) (hn : n ≤ 1048576) (hq0 : 0 ≤ q) (hq1 : q ≤ 1099511627776) :
    Calls Try.prog 22 #[.agg #[.int .i64 wd, .int .i64 hg, .slice ao n c, .int .i64 st], .int .i64 q] w fun e w' => e = .returned (.int .i64 (q + (n * 4 : Nat))) ∧ ∃ V, Below w.heap.size w V ∧ V.grownBy w' (Value.slice ao n c).ownBlock := by
  have HC := hide (markIntA4S_own (.slice ao n c) n zs q (w.alloc (.cells #[.int .i64 wd, .int .i64 hg, .slice ao n c, .int .i64 st] 33)) (own_step h ((Below.refl _ _).alloc (Nat.le_refl _) _)) hz hn hq0 hq1)
  clear h hz
  go_enter Try.func22, Try.ntmps22
  go_wp2_with fail
  refine HC.out.mono ?_
  rintro e w2 ⟨rfl, hg, ho⟩
  have HG := hide hg
  clear hg ho
  go_wp2
  go_ret
  exact ⟨rfl, _, (Below.refl _ _).alloc (Nat.le_refl _) _, HG.out⟩

end Go.Proofs.Ythcfkihpihgjeaa
