/- The functions on IntA4 of the laws: contracts. -/
import Derived.Test.YthcfkihpihgjeaaKit
import Derived.Test.YthcfkihpihgjeaaChecked
import Derived.StillTailTactics
import Derived.Deep.RegionHeld3
namespace Go.Proofs.Ythcfkihpihgjeaa
open Go.RowKit
structure Ar4 where
  a : Int
  b : Int
  c : Int
  d : Int
instance : Inhabited Ar4 := ⟨⟨0, 0, 0, 0⟩⟩
def encAr4 (x : Ar4) : List Value := [.int .i64 x.a, .int .i64 x.b, .int .i64 x.c, .int .i64 x.d]
theorem encAr4_len : ∀ x, (encAr4 x).length = 4 := fun _ => rfl
def mkAr4 (l : List Int) : Ar4 := ⟨l.getD 0 0, l.getD 1 0, l.getD 2 0, l.getD 3 0⟩
theorem mkAr4_enc (l : List Int) (h : l.length = 4) : encAr4 (mkAr4 l) = l.map (Value.int .i64) := by
  match l, h with
  | [a, b, c, d], _ => rfl
/-- element j of a slice that reads as zs: its cells, in every later world -/
theorem rdAr4 {w : World} {ao : Option Addr} {zs : List Ar4} (h : Rd encAr4 4 w.heap.size w ao zs) (hn : 0 < zs.length) :
    ∃ b off, ao = some ⟨b, off, none⟩ ∧ b < w.heap.size ∧ ∀ j, j < zs.length → ∃ x, zs[j]? = some x ∧ ∀ wr, Below w.heap.size w wr → b < wr.heap.size ∧ wr.cell? ⟨b, off + j * 4, none⟩ = some (.int .i64 x.a) ∧ wr.cell? ⟨b, off + j * 4 + 1, none⟩ = some (.int .i64 x.b) ∧ wr.cell? ⟨b, off + j * 4 + 2, none⟩ = some (.int .i64 x.c) ∧ wr.cell? ⟨b, off + j * 4 + 3, none⟩ = some (.int .i64 x.d) := by
  obtain ⟨b, off, rfl, h1, h2, hc⟩ := h.at_ hn
  refine ⟨b, off, rfl, h1, fun j hj => ⟨zs[j], List.getElem?_eq_getElem hj, fun wr hb => ?_⟩⟩
  have hx := List.getElem?_eq_getElem hj
  exact ⟨Nat.lt_of_lt_of_le h2 hb.size, (hb.cell (p := ⟨b, _, none⟩) h1).trans (hc j _ hx 0 _ rfl), (hb.cell (p := ⟨b, _, none⟩) h1).trans (hc j _ hx 1 _ rfl), (hb.cell (p := ⟨b, _, none⟩) h1).trans (hc j _ hx 2 _ rfl), (hb.cell (p := ⟨b, _, none⟩) h1).trans (hc j _ hx 3 _ rfl)⟩

theorem szIntA4S_any (ao : Option Addr) (n c : Nat) (left : Int) (w : World) (hn : n ≤ 9223372036854775807) (h0 : 0 ≤ left) (h1 : left ≤ 1048576) :
    Calls Try.prog 49 #[.slice ao n c, .int .i64 left] w fun e w' => e = .returned (.int .i64 (szV left n)) ∧ w = w' := by
  by_cases h : left < n
  · have h' : left - (n : Int) < 0 := by omega
    go_enter Try.func49, Try.ntmps49
    go_wp2
    go_ret
    exact ⟨ret_int (by unfold szV; split <;> omega), rfl⟩
  · have h' : ¬ left - (n : Int) < 0 := by omega
    go_enter Try.func49, Try.ntmps49
    go_wp2
    go_ret
    exact ⟨ret_int (by unfold szV; split <;> omega), rfl⟩
def arrAr4 (x : Ar4) : Nat → Array Value | 0 => #[.int .i64 0, .int .i64 0, .int .i64 0, .int .i64 0] | 1 => #[.int .i64 x.a, .int .i64 0, .int .i64 0, .int .i64 0] | 2 => #[.int .i64 x.a, .int .i64 x.b, .int .i64 0, .int .i64 0] | 3 => #[.int .i64 x.a, .int .i64 x.b, .int .i64 x.c, .int .i64 0] | _ => #[.int .i64 x.a, .int .i64 x.b, .int .i64 x.c, .int .i64 x.d]
set_option maxRecDepth 100000 in
theorem toIntA4_any (x : Ar4) (w : World) : Calls Try.prog 69 #[.agg #[.int .i64 x.a, .int .i64 x.b, .int .i64 x.c, .int .i64 x.d]] w fun e w' => e = .returned (.agg #[.int .i64 x.a, .int .i64 x.b, .int .i64 x.c, .int .i64 x.d]) ∧ Below w.heap.size w w' := by
  go_enter Try.func69, Try.ntmps69
  go_wp2
  go_loopg [4] 4 (fun gk i wr => ∃ k : Nat, k ≤ 4 ∧ 4 - k ≤ gk ∧ i = .int .i64 k ∧ wr = ((w.alloc (.cells #[.int .i64 x.a, .int .i64 x.b, .int .i64 x.c, .int .i64 x.d] 69)).alloc (.cells #[.int .i64 0, .int .i64 0, .int .i64 0, .int .i64 0] 69)).alloc (.cells (arrAr4 x k) 69))
  case atStart => exact ⟨0, Nat.zero_le _, by omega, rfl, rfl⟩
  case round =>
    obtain ⟨k, hk, hg, rfl, rfl⟩ := hrel
    have h3 : k = 0 ∨ k = 1 ∨ k = 2 ∨ k = 3 ∨ k = 4 := by omega
    rcases h3 with rfl | rfl | rfl | rfl | rfl
    · simp only [arrAr4]
      go_wp2
      go_roundg 3
      case measure => omega
      case rel => exact ⟨1, by omega, by omega, by go_num, by first | rfl | simp [arrAr4]⟩
    · simp only [arrAr4]
      go_wp2
      go_roundg 2
      case measure => omega
      case rel => exact ⟨2, by omega, by omega, by go_num, by first | rfl | simp [arrAr4]⟩
    · simp only [arrAr4]
      go_wp2
      go_roundg 1
      case measure => omega
      case rel => exact ⟨3, by omega, by omega, by go_num, by first | rfl | simp [arrAr4]⟩
    · simp only [arrAr4]
      go_wp2
      go_roundg 0
      case measure => omega
      case rel => exact ⟨4, by omega, by omega, by go_num, by first | rfl | simp [arrAr4]⟩
    · simp only [arrAr4]
      go_wp2
      refine bodyPost_ret (v := .agg #[.int .i64 x.a, .int .i64 x.b, .int .i64 x.c, .int .i64 x.d]) (by simp [results, Try.results69, go_sem]) rfl ⟨rfl, ?_⟩
      exact (((Below.refl _ _).alloc (Nat.le_refl _) _).alloc (by simp) _).alloc (by simp; omega) _
theorem infoAr4 : (Try.prog.info? 69).map (fun i => (i.zero, i.size, i.bytes)) = some (some (.agg #[.int .i64 0, .int .i64 0, .int .i64 0, .int .i64 0]), 4, 32) := by kernel_rfl

theorem toIntA4S_any (ao : Option Addr) (n c : Nat) (zs : List Ar4) (w : World) (hz : zs.length = n) (hn : n ≤ 1048576) (hr : Rd encAr4 4 w.heap.size w ao zs) :
    Calls Try.prog 51 #[.slice ao n c] w fun e w' => e = .returned (.slice (some ⟨w.heap.size, 0, none⟩) n n) ∧ w'.ownsRow w.heap.size 69 4 (.slice (some ⟨w.heap.size, 0, none⟩) n n) n (zs.flatMap encAr4) ∧
      Rd encAr4 4 w'.heap.size w' (some ⟨w.heap.size, 0, none⟩) zs ∧ Below w.heap.size w w' := by
  obtain ⟨cs0, hcs0, hmk⟩ := run_make_rowN (P := Try.prog) 28 69 _ 4 32 Try.underlying28 infoAr4 n (by omega) (by omega)
  have HZ := hide hz
  have HR := hide hr
  have HC := hide hcs0
  clear hz hr hcs0
  go_enter Try.func51, Try.ntmps51
  go_wp2
  go_loopg [4] n (fun gk i wr => ∃ k : Nat, k ≤ n ∧ n - k ≤ gk ∧ i = .int .i64 k ∧ Aside (Below w.heap.size w wr) ∧ Aside (∃ cs, Blk wr w.heap.size 69 cs ∧ cs.size = n * 4 ∧ cs.toList.take (k * 4) = (zs.take k).flatMap encAr4))
  case atStart => exact ⟨0, Nat.zero_le _, by omega, rfl, (Below.refl _ _).alloc (Nat.le_refl _) _, ⟨cs0, Blk.new _ _ _, HC.out, by simp⟩⟩
  case round =>
    obtain ⟨k, hk, hg, rfl, BW, A⟩ := hrel
    by_cases hlt : k < n
    · have hlti : (k : Int) < (n : Int) := by omega
      obtain ⟨b, off, rfl, hb1, hat⟩ := rdAr4 HR.out (by rw [HZ.out]; omega)
      obtain ⟨x, hx, hxc⟩ := hat k (by rw [HZ.out]; exact hlt)
      have HX := hide hx
      obtain ⟨hbr, c0, c1, c2, c3⟩ := hxc wr BW.out
      clear hx hxc hat hmk
      obtain ⟨cs, hB, hs, ht⟩ := A.out
      clear A
      have HT := hide ht
      have HS := hide hs
      have HB := hide hB
      clear ht hs
      go_wp2_with fail
      refine (toIntA4_any x _).mono ?_
      rintro e w2 ⟨rfl, hb⟩
      have hB2 : Blk w2 w.heap.size 69 cs := hB.below' hb
      have d0 : w2.cell? ⟨w.heap.size, k * 4, none⟩ = some (cs[k * 4]'(by rw [HS.out]; omega)) := by rw [hB2.cell]; exact Array.getElem?_eq_getElem _
      have f0 : w2.frozen? ⟨w.heap.size, k * 4, none⟩ = false := hB2.frozen _
      have d1 : w2.cell? ⟨w.heap.size, k * 4 + 1, none⟩ = some (cs[k * 4 + 1]'(by rw [HS.out]; omega)) := by rw [hB2.cell]; exact Array.getElem?_eq_getElem _
      have f1 : w2.frozen? ⟨w.heap.size, k * 4 + 1, none⟩ = false := hB2.frozen _
      have d2 : w2.cell? ⟨w.heap.size, k * 4 + 2, none⟩ = some (cs[k * 4 + 2]'(by rw [HS.out]; omega)) := by rw [hB2.cell]; exact Array.getElem?_eq_getElem _
      have f2 : w2.frozen? ⟨w.heap.size, k * 4 + 2, none⟩ = false := hB2.frozen _
      have d3 : w2.cell? ⟨w.heap.size, k * 4 + 3, none⟩ = some (cs[k * 4 + 3]'(by rw [HS.out]; omega)) := by rw [hB2.cell]; exact Array.getElem?_eq_getElem _
      have f3 : w2.frozen? ⟨w.heap.size, k * 4 + 3, none⟩ = false := hB2.frozen _
      have HB2 := hide hB2
      have HBB := hide hb
      clear hB2 hb hB
      go_wp2
      go_roundg (n - (k + 1))
      case measure => omega
      case rel =>
        refine ⟨k + 1, by omega, by omega, by go_num, ?_, setL cs (k * 4) (encAr4 x), ?_, ?_, ?_⟩
        · exact ((((BW.out.trans (HBB.out.mono BW.out.size)).setCell (Nat.le_refl _) _).setCell (Nat.le_refl _) _).setCell (Nat.le_refl _) _).setCell (Nat.le_refl _) _
        · exact ((((HB2.out).set_ _ _).set_ _ _).set_ _ _).set_ _ _
        · rw [setL_size]; exact HS.out
        · rw [flat_take_succ zs k x HX.out, ← HT.out, show (k + 1) * 4 = k * 4 + (encAr4 x).length from by simp [encAr4]; omega, setL_take _ _ _ (by rw [HS.out]; simp [encAr4]; omega)]
    · have hge : ¬ (k : Int) < (n : Int) := by omega
      have : k = n := by omega
      subst this
      obtain ⟨cs, hB, hs, ht⟩ := A.out
      clear A
      have HT := hide ht
      have HS := hide hs
      have HB := hide hB
      clear ht hs hB
      go_wp2
      go_ret
      have HO : wr.ownsRow w.heap.size 69 4 (.slice (some ⟨w.heap.size, 0, none⟩) k k) k (zs.flatMap encAr4) :=
        World.ownsRow_of_blk HB.out (Nat.le_refl _) HS.out (Nat.le_refl _) (by simp [maxLen]; omega) (by rw [flat_len encAr4_len, HZ.out])
          (by rw [HT.out, List.take_of_length_le (by rw [HZ.out]; exact Nat.le_refl _)])
      exact ⟨rfl, HO, own_rd' encAr4_len HO HZ.out, BW.out⟩
set_option maxRecDepth 100000 in
theorem eqIntA4_same (x : Ar4) (w : World) : Calls Try.prog 70 #[.agg #[.int .i64 x.a, .int .i64 x.b, .int .i64 x.c, .int .i64 x.d], .agg #[.int .i64 x.a, .int .i64 x.b, .int .i64 x.c, .int .i64 x.d]] w fun e w' => e = .returned (.bool true) ∧ Below w.heap.size w w' := by
  obtain ⟨W, hW⟩ : ∃ W, W = (w.alloc (.cells #[.int .i64 x.a, .int .i64 x.b, .int .i64 x.c, .int .i64 x.d] 69)).alloc (.cells #[.int .i64 x.a, .int .i64 x.b, .int .i64 x.c, .int .i64 x.d] 69) := ⟨_, rfl⟩
  have HB : Hid (Below w.heap.size w W) := hide (by rw [hW]; exact ((Below.refl _ w).alloc (Nat.le_refl _) _).alloc (by simp) _)
  have hs : W.heap.size = w.heap.size + 2 := by rw [hW]; simp
  have E00 := hide (show W.cell? ⟨w.heap.size, 0, none⟩ = some (.int .i64 x.a) from by rw [hW]; simp)
  have E01 := hide (show W.cell? ⟨w.heap.size + 1, 0, none⟩ = some (.int .i64 x.a) from by rw [hW]; simp)
  have E10 := hide (show W.cell? ⟨w.heap.size, 1, none⟩ = some (.int .i64 x.b) from by rw [hW]; simp)
  have E11 := hide (show W.cell? ⟨w.heap.size + 1, 1, none⟩ = some (.int .i64 x.b) from by rw [hW]; simp)
  have E20 := hide (show W.cell? ⟨w.heap.size, 2, none⟩ = some (.int .i64 x.c) from by rw [hW]; simp)
  have E21 := hide (show W.cell? ⟨w.heap.size + 1, 2, none⟩ = some (.int .i64 x.c) from by rw [hW]; simp)
  have E30 := hide (show W.cell? ⟨w.heap.size, 3, none⟩ = some (.int .i64 x.d) from by rw [hW]; simp)
  have E31 := hide (show W.cell? ⟨w.heap.size + 1, 3, none⟩ = some (.int .i64 x.d) from by rw [hW]; simp)
  have HW := hide hW
  clear hW
  go_enter Try.func70, Try.ntmps70
  go_wp2
  rw [← HW.out]
  go_loopg [5] 4 (fun gk i wr => ∃ k : Nat, k ≤ 4 ∧ 4 - k ≤ gk ∧ i = .int .i64 k ∧ Aside (Below W.heap.size W wr))
  case atStart => exact ⟨0, Nat.zero_le _, by omega, rfl, Below.refl _ _⟩
  case round =>
    obtain ⟨k, hk, hg, rfl, BW⟩ := hrel
    have h3 : k = 0 ∨ k = 1 ∨ k = 2 ∨ k = 3 ∨ k = 4 := by omega
    rcases h3 with rfl | rfl | rfl | rfl | rfl
    · have c0 := (BW.out.cell (p := ⟨w.heap.size, 0, none⟩) (by show w.heap.size < W.heap.size; omega)).trans E00.out
      have c1 := (BW.out.cell (p := ⟨w.heap.size + 1, 0, none⟩) (by show w.heap.size + 1 < W.heap.size; omega)).trans E01.out
      go_wp2_with fail
      go_quiet (fail)
      go_wp2
      go_roundg 3
      case measure => omega
      case rel => exact ⟨1, by omega, by omega, by go_num, below_drewN BW.out _⟩
    · have c0 := (BW.out.cell (p := ⟨w.heap.size, 1, none⟩) (by show w.heap.size < W.heap.size; omega)).trans E10.out
      have c1 := (BW.out.cell (p := ⟨w.heap.size + 1, 1, none⟩) (by show w.heap.size + 1 < W.heap.size; omega)).trans E11.out
      go_wp2_with fail
      go_quiet (fail)
      go_wp2
      go_roundg 2
      case measure => omega
      case rel => exact ⟨2, by omega, by omega, by go_num, below_drewN BW.out _⟩
    · have c0 := (BW.out.cell (p := ⟨w.heap.size, 2, none⟩) (by show w.heap.size < W.heap.size; omega)).trans E20.out
      have c1 := (BW.out.cell (p := ⟨w.heap.size + 1, 2, none⟩) (by show w.heap.size + 1 < W.heap.size; omega)).trans E21.out
      go_wp2_with fail
      go_quiet (fail)
      go_wp2
      go_roundg 1
      case measure => omega
      case rel => exact ⟨3, by omega, by omega, by go_num, below_drewN BW.out _⟩
    · have c0 := (BW.out.cell (p := ⟨w.heap.size, 3, none⟩) (by show w.heap.size < W.heap.size; omega)).trans E30.out
      have c1 := (BW.out.cell (p := ⟨w.heap.size + 1, 3, none⟩) (by show w.heap.size + 1 < W.heap.size; omega)).trans E31.out
      go_wp2_with fail
      go_quiet (fail)
      go_wp2
      go_roundg 0
      case measure => omega
      case rel => exact ⟨4, by omega, by omega, by go_num, below_drewN BW.out _⟩
    · go_wp2
      go_ret
      exact ⟨rfl, HB.out.trans (BW.out.mono HB.out.size)⟩

set_option maxRecDepth 100000 in
theorem eqIntA4S_same (ao bo : Option Addr) (n c d : Nat) (zs : List Ar4) (w : World) (hz : zs.length = n) (hn : n ≤ 1048576) (hr : Rd encAr4 4 w.heap.size w ao zs) (hr2 : Rd encAr4 4 w.heap.size w bo zs) :
    Calls Try.prog 52 #[.slice ao n c, .slice bo n d] w fun e w' => e = .returned (.bool true) ∧ Below w.heap.size w w' := by
  have HZ := hide hz
  have HR := hide hr
  have HR2 := hide hr2
  clear hz hr hr2
  go_enter Try.func52, Try.ntmps52
  go_wp2
  go_loopg [5] n (fun gk i wr => ∃ k : Nat, k ≤ n ∧ n - k ≤ gk ∧ i = .int .i64 k ∧ Aside (Below w.heap.size w wr))
  case atStart => exact ⟨0, Nat.zero_le _, by omega, rfl, Below.refl _ _⟩
  case round =>
    obtain ⟨k, hk, hg, rfl, BW⟩ := hrel
    by_cases hlt : k < n
    · have hlti : (k : Int) < (n : Int) := by omega
      obtain ⟨b, off, rfl, hb1, hat⟩ := rdAr4 HR.out (by rw [HZ.out]; omega)
      obtain ⟨b', off', rfl, hb1', hat'⟩ := rdAr4 HR2.out (by rw [HZ.out]; omega)
      obtain ⟨x, hx, hxc⟩ := hat k (by rw [HZ.out]; exact hlt)
      obtain ⟨x', hx', hxc'⟩ := hat' k (by rw [HZ.out]; exact hlt)
      obtain rfl : x' = x := by rw [hx] at hx'; injection hx' with h; exact h.symm
      obtain ⟨hbr, c0, c1, c2, c3⟩ := hxc wr BW.out
      obtain ⟨hbr', d0, d1, d2, d3⟩ := hxc' wr BW.out
      clear hx hx' hxc hxc' hat hat'
      go_wp2_with fail
      go_still_tail 8, (by kernel_rfl)
      change wpList _ _ _ _ _ wr.drew
      go_wp2_with fail
      refine (eqIntA4_same x' _).mono ?_
      rintro e w2 ⟨rfl, hb⟩
      have HB := hide hb
      clear hb
      go_wp2
      go_roundg (n - (k + 1))
      case measure => omega
      case rel => exact ⟨k + 1, by omega, by omega, by go_num, BW.out.drew.trans (HB.out.mono BW.out.size)⟩
    · have hge : ¬ (k : Int) < (n : Int) := by omega
      go_wp2
      go_ret
      exact ⟨rfl, BW.out⟩

end Go.Proofs.Ythcfkihpihgjeaa
