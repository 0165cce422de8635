/- Slices of pairs: compared, marked, held. -/
import Derived.Test.YtnfhaaiklekemaaT16
import Derived.StillTailTactics
namespace Go.Proofs.Ytnfhaaiklekemaa
open Go.RowKit
set_option linter.unusedVariables false
set_option linter.unusedSimpArgs false

theorem rdP {w : World} {ao : Option Addr} {zs : List (Int × Int)} (h : Rd encP 2 w.heap.size w ao zs) (hn : 0 < zs.length) :
    ∃ b off, ao = some ⟨b, off, none⟩ ∧ b < w.heap.size ∧ ∀ j, j < zs.length → ∃ x, zs[j]? = some x ∧ ∀ wr, Below w.heap.size w wr → b < wr.heap.size ∧ wr.cell? ⟨b, off + j * 2, none⟩ = some (.int .i64 x.1) ∧ wr.cell? ⟨b, off + j * 2 + 1, none⟩ = some (.int .i64 x.2) := by
  obtain ⟨b, off, rfl, h1, h2, hc⟩ := h.at_ hn
  refine ⟨b, off, rfl, h1, fun j hj => ⟨zs[j], List.getElem?_eq_getElem hj, fun wr hb => ?_⟩⟩
  have hx := List.getElem?_eq_getElem hj
  exact ⟨Nat.lt_of_lt_of_le h2 hb.size, (hb.cell (p := ⟨b, _, none⟩) h1).trans (hc j _ hx 0 _ rfl), (hb.cell (p := ⟨b, _, none⟩) h1).trans (hc j _ hx 1 _ rfl)⟩
set_option maxRecDepth 100000 in
theorem eqIntA2_same (x : Int × Int) (w : World) : Calls Try.prog 77 #[.agg #[.int .i64 x.1, .int .i64 x.2], .agg #[.int .i64 x.1, .int .i64 x.2]] w fun e w' => e = .returned (.bool true) ∧ Below w.heap.size w w' := by
  obtain ⟨W, hW⟩ : ∃ W, W = (w.alloc (.cells #[.int .i64 x.1, .int .i64 x.2] 76)).alloc (.cells #[.int .i64 x.1, .int .i64 x.2] 76) := ⟨_, rfl⟩
  have HB : Hid (Below w.heap.size w W) := hide (by rw [hW]; exact ((Below.refl _ w).alloc (Nat.le_refl _) _).alloc (by simp) _)
  have hs : W.heap.size = w.heap.size + 2 := by rw [hW]; simp
  have e0 : W.cell? ⟨w.heap.size, 0, none⟩ = some (.int .i64 x.1) := by rw [hW]; simp
  have e1 : W.cell? ⟨w.heap.size, 1, none⟩ = some (.int .i64 x.2) := by rw [hW]; simp
  have e2 : W.cell? ⟨w.heap.size + 1, 0, none⟩ = some (.int .i64 x.1) := by rw [hW]; simp
  have e3 : W.cell? ⟨w.heap.size + 1, 1, none⟩ = some (.int .i64 x.2) := by rw [hW]; simp
  have E0 := hide e0
  have E1 := hide e1
  have E2 := hide e2
  have E3 := hide e3
  have HW := hide hW
  clear hW e0 e1 e2 e3
  go_enter Try.func77, Try.ntmps77
  go_wp2
  rw [← HW.out]
  go_loopg [5] 2 (fun gk i wr => ∃ k : Nat, k ≤ 2 ∧ 2 - k ≤ gk ∧ i = .int .i64 k ∧ Aside (Below W.heap.size W wr))
  case atStart => exact ⟨0, Nat.zero_le _, by omega, rfl, Below.refl _ _⟩
  case round =>
    obtain ⟨k, hk, hg, rfl, BW⟩ := hrel
    have h3 : k = 0 ∨ k = 1 ∨ k = 2 := by omega
    rcases h3 with rfl | rfl | rfl
    · have c0 := (BW.out.cell (p := ⟨w.heap.size, 0, none⟩) (by show w.heap.size < W.heap.size; omega)).trans E0.out
      have c1 := (BW.out.cell (p := ⟨w.heap.size + 1, 0, none⟩) (by show w.heap.size + 1 < W.heap.size; omega)).trans E2.out
      go_wp2_with fail
      go_quiet (fail)
      go_wp2
      go_roundg 1
      case measure => omega
      case rel => exact ⟨1, by omega, by omega, by go_num, below_drewN BW.out _⟩
    · have c0 := (BW.out.cell (p := ⟨w.heap.size, 1, none⟩) (by show w.heap.size < W.heap.size; omega)).trans E1.out
      have c1 := (BW.out.cell (p := ⟨w.heap.size + 1, 1, none⟩) (by show w.heap.size + 1 < W.heap.size; omega)).trans E3.out
      go_wp2_with fail
      go_quiet (fail)
      go_wp2
      go_roundg 0
      case measure => omega
      case rel => exact ⟨2, by omega, by omega, by go_num, below_drewN BW.out _⟩
    · go_wp2
      go_ret
      exact ⟨rfl, HB.out.trans (BW.out.mono HB.out.size)⟩
set_option maxRecDepth 100000 in
theorem eqIntA2S_same (ao bo : Option Addr) (n c d : Nat) (zs : List (Int × Int)) (w : World) (hz : zs.length = n) (hn : n ≤ 1048576) (hr : Rd encP 2 w.heap.size w ao zs) (hr2 : Rd encP 2 w.heap.size w bo zs) :
    Calls Try.prog 47 #[.slice ao n c, .slice bo n d] w fun e w' => e = .returned (.bool true) ∧ Below w.heap.size w w' := by
  have HZ := hide hz
  have HR := hide hr
  have HR2 := hide hr2
  clear hz hr hr2
  go_enter Try.func47, Try.ntmps47
  go_wp2
  go_loopg [5] n (fun gk i wr => ∃ k : Nat, k ≤ n ∧ n - k ≤ gk ∧ i = .int .i64 k ∧ Aside (Below w.heap.size w wr))
  case atStart => exact ⟨0, Nat.zero_le _, by omega, rfl, Below.refl _ _⟩
  case round =>
    obtain ⟨k, hk, hg, rfl, BW⟩ := hrel
    by_cases hlt : k < n
    · have hlti : (k : Int) < (n : Int) := by omega
      obtain ⟨b, off, rfl, hb1, hat⟩ := rdP HR.out (by rw [HZ.out]; omega)
      obtain ⟨b', off', rfl, hb1', hat'⟩ := rdP HR2.out (by rw [HZ.out]; omega)
      obtain ⟨x, hx, hxc⟩ := hat k (by rw [HZ.out]; exact hlt)
      obtain ⟨x', hx', hxc'⟩ := hat' k (by rw [HZ.out]; exact hlt)
      obtain rfl : x' = x := by rw [hx] at hx'; injection hx' with h; exact h.symm
      obtain ⟨hbr, c0, c1⟩ := hxc wr BW.out
      obtain ⟨hbr', d0, d1⟩ := hxc' wr BW.out
      clear hx hx' hxc hxc' hat hat'
      go_wp2_with fail
      go_still_tail 8, (by kernel_rfl)
      change wpList _ _ _ _ _ wr.drew
      go_wp2_with fail
      refine (eqIntA2_same x' _).mono ?_
      rintro e w2 ⟨rfl, hb⟩
      have HB := hide hb
      clear hb
      go_wp2
      go_roundg (n - (k + 1))
      case measure => omega
      case rel => exact ⟨k + 1, by omega, by omega, by go_num, BW.out.drew.trans (HB.out.mono BW.out.size)⟩
    · have hge : ¬ (k : Int) < (n : Int) := by omega
      go_wp2
      go_ret
      exact ⟨rfl, BW.out⟩
set_option maxRecDepth 100000 in
theorem markIntA2S_any (g n cap : Nat) (cs0 : Array Value) (q : Int) (w : World) (hB0 : Blk w g 76 cs0) (hs0 : cs0.size = cap * 2) (hnc : n ≤ cap) (hn : n ≤ 1048576) (hq0 : 0 ≤ q) (hq1 : q ≤ 1099511627776) :
    Calls Try.prog 48 #[.slice (some ⟨g, 0, none⟩) n cap, .int .i64 q] w fun e w' => e = .returned (.int .i64 (q + (n * 2 : Nat))) ∧ w.grownBy w' (some g) ∧ ∃ cs, Blk w' g 76 cs ∧ cs.size = cap * 2 ∧ cs.toList.take (n * 2) = marks q (n * 2) := by
  have HB0 := hide hB0
  have HS0 := hide hs0
  clear hB0 hs0
  go_enter Try.func48, Try.ntmps48
  go_wp2
  go_loopg [1, 5] n (fun gk m i wr => ∃ k : Nat, k ≤ n ∧ n - k ≤ gk ∧ i = .int .i64 k ∧ m = .int .i64 (q + (k * 2 : Nat)) ∧ Aside (w.grownBy wr (some g)) ∧ Aside (∃ cs, Blk wr g 76 cs ∧ cs.size = cap * 2 ∧ cs.toList.take (k * 2) = marks q (k * 2)))
  case atStart => exact ⟨0, Nat.zero_le _, by omega, rfl, by simp, World.grownBy.refl w _, ⟨cs0, HB0.out, HS0.out, by simp [marks]⟩⟩
  case round =>
    obtain ⟨k, hk, hgk, rfl, rfl, BW, A⟩ := hrel
    by_cases hlt : k < n
    · have hlti : (k : Int) < (n : Int) := by omega
      have hkz : (0 : Int) ≤ (k : Int) := by omega
      go_wp2
      go_loopg [1, 6] 2 (fun gj m i w2 => ∃ j : Nat, j ≤ 2 ∧ 2 - j ≤ gj ∧ i = .int .i64 j ∧ m = .int .i64 (q + (k * 2 + j : Nat)) ∧ Aside (w.grownBy w2 (some g)) ∧ Aside (∃ cs, Blk w2 g 76 cs ∧ cs.size = cap * 2 ∧ cs.toList.take (k * 2 + j) = marks q (k * 2 + j)))
      case atStart => exact ⟨0, Nat.zero_le _, by omega, rfl, by simp, BW.out, A.out⟩
      case round =>
        obtain ⟨j, hj, hgj, rfl, rfl, BV, A2⟩ := hrel
        by_cases hlj : j < 2
        · have hlji : (j : Int) < 2 := by omega
          have hjz : (0 : Int) ≤ (j : Int) := by omega
          obtain ⟨cs, hB, hs, ht⟩ := A2.out
          clear A A2
          have HT := hide ht
          have HS := hide hs
          clear ht hs
          have d0 : wr.cell? ⟨g, k * 2 + j, none⟩ = some (cs[k * 2 + j]'(by rw [HS.out]; omega)) := by rw [hB.cell]; exact Array.getElem?_eq_getElem _
          have f0 : wr.frozen? ⟨g, k * 2 + j, none⟩ = false := hB.frozen _
          have HB := hide hB
          clear hB
          have hm0 : 0 ≤ q + (k * 2 + j : Nat) := by omega
          have hm1 : q + (k * 2 + j : Nat) ≤ 2199023255552 := by omega
          obtain ⟨m, hm⟩ : ∃ m : Int, m = q + (k * 2 + j : Nat) := ⟨_, rfl⟩
          rw [← hm] at hm0 hm1 ⊢
          have HM := hide hm
          clear hm
          go_wp2
          go_roundg (2 - (j + 1))
          case measure => omega
          case rel =>
            refine ⟨j + 1, by omega, by omega, by go_num, ?_, ?_, setL cs (k * 2 + j) [.int .i64 m], ?_, ?_, ?_⟩
            · rw [HM.out]; congr 1; omega
            · exact grownBy_setOnly BV.out _ _
            · exact HB.out.set_ _ _
            · rw [setL_size]; exact HS.out
            · have e : marks m 1 = [.int .i64 m] := by simp [marks]
              rw [← Nat.add_assoc, marks_add, ← HT.out, ← HM.out, e]
              exact setL_take cs (k * 2 + j) [.int .i64 m] (by rw [HS.out]; simp only [List.length_cons, List.length_nil]; omega)
        · have hge : ¬ (j : Int) < 2 := by omega
          obtain rfl : j = 2 := by omega
          have HA2 := hide A2.out
          clear A A2
          go_wp2
          go_roundg (n - (k + 1))
          case measure => omega
          case rel => exact ⟨k + 1, by omega, by omega, by go_num, by congr 2; omega, BV.out, by rw [show (k + 1) * 2 = k * 2 + 2 by omega]; exact HA2.out⟩
    · have hge : ¬ (k : Int) < (n : Int) := by omega
      have : k = n := by omega
      subst this
      go_wp2
      go_ret
      exact ⟨rfl, BW.out, A.out⟩
set_option maxRecDepth 100000 in
theorem heldIntA2S_any (b off n cap : Nat) (q : Int) (w : World) (hn : n ≤ 1048576) (hq0 : 0 ≤ q) (hq1 : q ≤ 1099511627776) (hc : ∀ i, i < n * 2 → w.cell? ⟨b, off + i, none⟩ = some (.int .i64 (q + (i : Nat)))) :
    Calls Try.prog 49 #[.slice (some ⟨b, off, none⟩) n cap, .int .i64 q] w fun e w' => e = .returned (.int .i64 (q + (n * 2 : Nat))) ∧ w = w' := by
  have HC := hide hc
  clear hc
  go_enter Try.func49, Try.ntmps49
  go_wp2
  go_loopg [1, 5] n (fun gk m i wr => ∃ k : Nat, k ≤ n ∧ n - k ≤ gk ∧ i = .int .i64 k ∧ m = .int .i64 (q + (k * 2 : Nat)) ∧ w = wr)
  case atStart => exact ⟨0, Nat.zero_le _, by omega, rfl, by simp, rfl⟩
  case round =>
    obtain ⟨k, hk, hgk, rfl, rfl, rfl⟩ := hrel
    by_cases hlt : k < n
    · have hlti : (k : Int) < (n : Int) := by omega
      have hkz : (0 : Int) ≤ (k : Int) := by omega
      go_wp2
      go_loopg [1, 6] 2 (fun gj m i w2 => ∃ j : Nat, j ≤ 2 ∧ 2 - j ≤ gj ∧ i = .int .i64 j ∧ m = .int .i64 (q + (k * 2 + j : Nat)) ∧ w = w2)
      case atStart => exact ⟨0, Nat.zero_le _, by omega, rfl, by simp, rfl⟩
      case round =>
        obtain ⟨j, hj, hgj, rfl, rfl, rfl⟩ := hrel
        by_cases hlj : j < 2
        · have hlji : (j : Int) < 2 := by omega
          have hjz : (0 : Int) ≤ (j : Int) := by omega
          have hm0 : 0 ≤ q + (k * 2 + j : Nat) := by omega
          have hm1 : q + (k * 2 + j : Nat) ≤ 2199023255552 := by omega
          have c0 := HC.out (k * 2 + j) (by omega)
          rw [← Nat.add_assoc] at c0
          obtain ⟨m, hm⟩ : ∃ m : Int, m = q + (k * 2 + j : Nat) := ⟨_, rfl⟩
          rw [← hm] at hm0 hm1 c0 ⊢
          have HM := hide hm
          clear hm
          go_wp2
          go_roundg (2 - (j + 1))
          case measure => omega
          case rel => exact ⟨j + 1, by omega, by omega, by go_num, by rw [HM.out]; congr 1; omega, rfl⟩
        · have hge : ¬ (j : Int) < 2 := by omega
          obtain rfl : j = 2 := by omega
          go_wp2
          go_roundg (n - (k + 1))
          case measure => omega
          case rel => exact ⟨k + 1, by omega, by omega, by go_num, by congr 2; omega, rfl⟩
    · have hge : ¬ (k : Int) < (n : Int) := by omega
      have : k = n := by omega
      subst this
      go_wp2
      go_ret
      exact ⟨rfl, rfl⟩
theorem eqIntA2S_own {b1 b2 : Nat} (v u : Value) (n : Nat) (zs : List (Int × Int)) (w : World) (h1 : w.ownsRow b1 76 2 v n (zs.flatMap encP)) (h2 : w.ownsRow b2 76 2 u n (zs.flatMap encP)) (hz : zs.length = n) (hn : n ≤ 1048576) :
    Calls Try.prog 47 #[v, u] w fun e w' => e = .returned (.bool true) ∧ Below w.heap.size w w' := by
  obtain ⟨a, c, rfl, _, _, hr⟩ := own_rd encP_len h1 hz
  obtain ⟨a2, c2, rfl, _, _, hr2⟩ := own_rd encP_len h2 hz
  exact eqIntA2S_same _ _ _ _ _ zs w hz hn hr hr2
theorem markIntA2S_own {base : Nat} (v : Value) (n : Nat) (zs : List (Int × Int)) (q : Int) (w : World) (h : w.ownsRow base 76 2 v n (zs.flatMap encP)) (hz : zs.length = n) (hn : n ≤ 1048576) (hq0 : 0 ≤ q) (hq1 : q ≤ 1099511627776) :
    Calls Try.prog 48 #[v, .int .i64 q] w fun e w' => e = .returned (.int .i64 (q + (n * 2 : Nat))) ∧ w.grownBy w' v.ownBlock ∧ w'.ownsRow base 76 2 v n (marks q (n * 2)) := by
  rcases own_form encP_len h hz with ⟨rfl, rfl, rfl⟩ | ⟨g, cap, cs, rfl, hb, hB, hs, hnc, hc, _⟩
  · clear h hz
    go_enter Try.func48, Try.ntmps48
    go_wp2
    go_loopg [1, 5] 0 (fun _ m i wr => m = .int .i64 q ∧ i = .int .i64 0 ∧ w = wr)
    case atStart => exact ⟨rfl, rfl, rfl⟩
    case round =>
      obtain ⟨rfl, rfl, rfl⟩ := hrel
      go_wp2
      go_ret
      exact ⟨ret_int (by simp), World.grownBy.refl w _, ⟨by simp [marks], .inl ⟨rfl, rfl⟩⟩⟩
  · refine (markIntA2S_any g n cap cs q w hB hs hnc hn hq0 hq1).mono ?_
    rintro e w' ⟨rfl, hg, cs', hB', hs', ht'⟩
    exact ⟨rfl, hg, World.ownsRow_of_blk hB' hb hs' hnc hc (marks_len _ _) ht'⟩
theorem heldIntA2S_own {base : Nat} (v : Value) (n : Nat) (q : Int) (w : World) (h : w.ownsRow base 76 2 v n (marks q (n * 2))) (hn : n ≤ 1048576) (hq0 : 0 ≤ q) (hq1 : q ≤ 1099511627776) :
    Calls Try.prog 49 #[v, .int .i64 q] w fun e w' => e = .returned (.int .i64 (q + (n * 2 : Nat))) ∧ w = w' := by
  rcases h.2 with ⟨rfl, rfl⟩ | ⟨g, cap, cs, rfl, hb, hB, hnc, hc, hs, ht⟩
  · clear h
    go_enter Try.func49, Try.ntmps49
    go_wp2
    go_loopg [1, 5] 0 (fun _ m i wr => m = .int .i64 q ∧ i = .int .i64 0 ∧ w = wr)
    case atStart => exact ⟨rfl, rfl, rfl⟩
    case round =>
      obtain ⟨rfl, rfl, rfl⟩ := hrel
      go_wp2
      go_ret
      exact ⟨ret_int (by simp), rfl⟩
  · exact heldIntA2S_any g 0 n cap q w hn hq0 hq1 (marks_cells (show Blk w g 76 cs from hB) ht)
def plcV (zs : List Lg) : List (Int × Int) := if routeB zs then psL zs zs.length else []
theorem plc_len {zs : List Lg} : (plcV zs).length ≤ zs.length := by unfold plcV; split <;> simp [psL_len]
theorem plc_yes {zs : List Lg} {n : Nat} (hz : zs.length = n) (h : routeB zs = true) : plcV zs = psL zs n := by unfold plcV; rw [h, hz]; rfl
theorem plc_no {zs : List Lg} (h : routeB zs = false) : plcV zs = [] := by unfold plcV; rw [h]; rfl
theorem Rd.takeG {B : Nat} {w : World} {ao : Option Addr} {zs : List Lg} (k : Nat) (h : Rd encLg 3 B w ao zs) : Rd encLg 3 B w ao (zs.take k) := by
  rcases h with h | ⟨b, off, rfl, h1, h2, h3⟩
  · exact .inl (by simp [h])
  · refine .inr ⟨b, off, rfl, h1, h2, fun j x hx => h3 j x ?_⟩
    rw [List.getElem?_take] at hx
    split at hx
    · exact hx
    · cases hx
theorem route_take {zs : List Lg} (h : routeB zs = true) (k : Nat) : routeB (zs.take k) = true := by
  have h12 := route_12 h
  unfold routeB
  simp only [Bool.and_eq_true, decide_eq_true_eq]
  refine ⟨allB_true (fun j hj => ?_), by simp; omega⟩
  have hj2 : j < k ∧ j < zs.length := by simp at hj; omega
  have hx := List.getElem?_eq_getElem hj2.2
  have ht : (zs.take k)[j]? = some zs[j] := by rw [List.getElem?_take]; simp [hj2.1, hj2.2]
  show okLeg (zs.take k)[j]! = true
  rw [getB ht]
  exact route_at h hx

end Go.Proofs.Ytnfhaaiklekemaa
