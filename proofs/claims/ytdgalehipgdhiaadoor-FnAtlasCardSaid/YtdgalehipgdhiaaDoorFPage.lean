/- The functions on Page of the laws: contracts. -/
import Derived.Test.YtdgalehipgdhiaaDoorKit
import Derived.Test.YtdgalehipgdhiaaDoorChecked
import Derived.StillTailTactics
import Derived.Deep.RegionHeld3
namespace Go.Proofs.YtdgalehipgdhiaaDoor
open Go.RowKit
structure Pg where
  n : Int
  r : Int
  c : Int
  l : Int
instance : Inhabited Pg := ⟨⟨0, 0, 0, 0⟩⟩
def encPg (x : Pg) : List Value := [.int .i64 x.n, .int .i64 x.r, .int .i64 x.c, .int .i64 x.l]
theorem encPg_len : ∀ x, (encPg x).length = 4 := fun _ => rfl
def mkPg (l : List Int) : Pg := ⟨l.getD 0 0, l.getD 1 0, l.getD 2 0, l.getD 3 0⟩
theorem mkPg_enc (l : List Int) (h : l.length = 4) : encPg (mkPg l) = l.map (Value.int .i64) := by
  match l, h with
  | [a, b, c, d], _ => rfl
/-- element j of a slice that reads as zs: its cells, in every later world -/
theorem rdPg {w : World} {ao : Option Addr} {zs : List Pg} (h : Rd encPg 4 w.heap.size w ao zs) (hn : 0 < zs.length) :
    ∃ b off, ao = some ⟨b, off, none⟩ ∧ b < w.heap.size ∧ ∀ j, j < zs.length → ∃ x, zs[j]? = some x ∧ ∀ wr, Below w.heap.size w wr → b < wr.heap.size ∧ wr.cell? ⟨b, off + j * 4, none⟩ = some (.int .i64 x.n) ∧ wr.cell? ⟨b, off + j * 4 + 1, none⟩ = some (.int .i64 x.r) ∧ wr.cell? ⟨b, off + j * 4 + 2, none⟩ = some (.int .i64 x.c) ∧ wr.cell? ⟨b, off + j * 4 + 3, none⟩ = some (.int .i64 x.l) := by
  obtain ⟨b, off, rfl, h1, h2, hc⟩ := h.at_ hn
  refine ⟨b, off, rfl, h1, fun j hj => ⟨zs[j], List.getElem?_eq_getElem hj, fun wr hb => ?_⟩⟩
  have hx := List.getElem?_eq_getElem hj
  exact ⟨Nat.lt_of_lt_of_le h2 hb.size, (hb.cell (p := ⟨b, _, none⟩) h1).trans (hc j _ hx 0 _ rfl), (hb.cell (p := ⟨b, _, none⟩) h1).trans (hc j _ hx 1 _ rfl), (hb.cell (p := ⟨b, _, none⟩) h1).trans (hc j _ hx 2 _ rfl), (hb.cell (p := ⟨b, _, none⟩) h1).trans (hc j _ hx 3 _ rfl)⟩

theorem szPageS_any (ao : Option Addr) (n c : Nat) (left : Int) (w : World) (hn : n ≤ 9223372036854775807) (h0 : 0 ≤ left) (h1 : left ≤ 1048576) :
    Calls Tryd.prog 24 #[.slice ao n c, .int .i64 left] w fun e w' => e = .returned (.int .i64 (szV left n)) ∧ w = w' := by
  by_cases h : left < n
  · have h' : left - (n : Int) < 0 := by omega
    go_enter Tryd.func24, Tryd.ntmps24
    go_wp2
    go_ret
    exact ⟨ret_int (by unfold szV; split <;> omega), rfl⟩
  · have h' : ¬ left - (n : Int) < 0 := by omega
    go_enter Tryd.func24, Tryd.ntmps24
    go_wp2
    go_ret
    exact ⟨ret_int (by unfold szV; split <;> omega), rfl⟩

theorem toPage_any (x : Pg) (w : World) : Calls Tryd.prog 50 #[.agg #[.int .i64 x.n, .int .i64 x.r, .int .i64 x.c, .int .i64 x.l]] w fun e w' => e = .returned (.agg #[.int .i64 x.n, .int .i64 x.r, .int .i64 x.c, .int .i64 x.l]) ∧ Below w.heap.size w w' := by
  go_enter Tryd.func50, Tryd.ntmps50
  go_wp2
  refine bodyPost_ret (v := .agg #[.int .i64 x.n, .int .i64 x.r, .int .i64 x.c, .int .i64 x.l]) (by simp [results, Tryd.results50, go_sem]) rfl ⟨rfl, ?_⟩
  exact (((Below.refl _ _).alloc (Nat.le_refl _) _).alloc (by simp) _).alloc (by simp; omega) _
theorem infoPg : (Tryd.prog.info? 58).map (fun i => (i.zero, i.size, i.bytes)) = some (some (.agg #[.int .i64 0, .int .i64 0, .int .i64 0, .int .i64 0]), 4, 32) := by kernel_rfl

theorem toPageS_any (ao : Option Addr) (n c : Nat) (zs : List Pg) (w : World) (hz : zs.length = n) (hn : n ≤ 1048576) (hr : Rd encPg 4 w.heap.size w ao zs) :
    Calls Tryd.prog 25 #[.slice ao n c] w fun e w' => e = .returned (.slice (some ⟨w.heap.size, 0, none⟩) n n) ∧ w'.ownsRow w.heap.size 58 4 (.slice (some ⟨w.heap.size, 0, none⟩) n n) n (zs.flatMap encPg) ∧
      Rd encPg 4 w'.heap.size w' (some ⟨w.heap.size, 0, none⟩) zs ∧ Below w.heap.size w w' := by
  obtain ⟨cs0, hcs0, hmk⟩ := run_make_rowN (P := Tryd.prog) 26 58 _ 4 32 Tryd.underlying26 infoPg n (by omega) (by omega)
  have HZ := hide hz
  have HR := hide hr
  have HC := hide hcs0
  clear hz hr hcs0
  go_enter Tryd.func25, Tryd.ntmps25
  go_wp2
  go_loopg [4] n (fun gk i wr => ∃ k : Nat, k ≤ n ∧ n - k ≤ gk ∧ i = .int .i64 k ∧ Aside (Below w.heap.size w wr) ∧ Aside (∃ cs, Blk wr w.heap.size 58 cs ∧ cs.size = n * 4 ∧ cs.toList.take (k * 4) = (zs.take k).flatMap encPg))
  case atStart => exact ⟨0, Nat.zero_le _, by omega, rfl, (Below.refl _ _).alloc (Nat.le_refl _) _, ⟨cs0, Blk.new _ _ _, HC.out, by simp⟩⟩
  case round =>
    obtain ⟨k, hk, hg, rfl, BW, A⟩ := hrel
    by_cases hlt : k < n
    · have hlti : (k : Int) < (n : Int) := by omega
      obtain ⟨b, off, rfl, hb1, hat⟩ := rdPg HR.out (by rw [HZ.out]; omega)
      obtain ⟨x, hx, hxc⟩ := hat k (by rw [HZ.out]; exact hlt)
      have HX := hide hx
      obtain ⟨hbr, c0, c1, c2, c3⟩ := hxc wr BW.out
      clear hx hxc hat hmk
      obtain ⟨cs, hB, hs, ht⟩ := A.out
      clear A
      have HT := hide ht
      have HS := hide hs
      have HB := hide hB
      clear ht hs
      go_wp2_with fail
      refine (toPage_any x _).mono ?_
      rintro e w2 ⟨rfl, hb⟩
      have hB2 : Blk w2 w.heap.size 58 cs := hB.below' hb
      have d0 : w2.cell? ⟨w.heap.size, k * 4, none⟩ = some (cs[k * 4]'(by rw [HS.out]; omega)) := by rw [hB2.cell]; exact Array.getElem?_eq_getElem _
      have f0 : w2.frozen? ⟨w.heap.size, k * 4, none⟩ = false := hB2.frozen _
      have d1 : w2.cell? ⟨w.heap.size, k * 4 + 1, none⟩ = some (cs[k * 4 + 1]'(by rw [HS.out]; omega)) := by rw [hB2.cell]; exact Array.getElem?_eq_getElem _
      have f1 : w2.frozen? ⟨w.heap.size, k * 4 + 1, none⟩ = false := hB2.frozen _
      have d2 : w2.cell? ⟨w.heap.size, k * 4 + 2, none⟩ = some (cs[k * 4 + 2]'(by rw [HS.out]; omega)) := by rw [hB2.cell]; exact Array.getElem?_eq_getElem _
      have f2 : w2.frozen? ⟨w.heap.size, k * 4 + 2, none⟩ = false := hB2.frozen _
      have d3 : w2.cell? ⟨w.heap.size, k * 4 + 3, none⟩ = some (cs[k * 4 + 3]'(by rw [HS.out]; omega)) := by rw [hB2.cell]; exact Array.getElem?_eq_getElem _
      have f3 : w2.frozen? ⟨w.heap.size, k * 4 + 3, none⟩ = false := hB2.frozen _
      have HB2 := hide hB2
      have HBB := hide hb
      clear hB2 hb hB
      go_wp2
      go_roundg (n - (k + 1))
      case measure => omega
      case rel =>
        refine ⟨k + 1, by omega, by omega, by go_num, ?_, setL cs (k * 4) (encPg x), ?_, ?_, ?_⟩
        · exact ((((BW.out.trans (HBB.out.mono BW.out.size)).setCell (Nat.le_refl _) _).setCell (Nat.le_refl _) _).setCell (Nat.le_refl _) _).setCell (Nat.le_refl _) _
        · exact ((((HB2.out).set_ _ _).set_ _ _).set_ _ _).set_ _ _
        · rw [setL_size]; exact HS.out
        · rw [flat_take_succ zs k x HX.out, ← HT.out, show (k + 1) * 4 = k * 4 + (encPg x).length from by simp [encPg]; omega, setL_take _ _ _ (by rw [HS.out]; simp [encPg]; omega)]
    · have hge : ¬ (k : Int) < (n : Int) := by omega
      have : k = n := by omega
      subst this
      obtain ⟨cs, hB, hs, ht⟩ := A.out
      clear A
      have HT := hide ht
      have HS := hide hs
      have HB := hide hB
      clear ht hs hB
      go_wp2
      go_ret
      have HO : wr.ownsRow w.heap.size 58 4 (.slice (some ⟨w.heap.size, 0, none⟩) k k) k (zs.flatMap encPg) :=
        World.ownsRow_of_blk HB.out (Nat.le_refl _) HS.out (Nat.le_refl _) (by simp [maxLen]; omega) (by rw [flat_len encPg_len, HZ.out])
          (by rw [HT.out, List.take_of_length_le (by rw [HZ.out]; exact Nat.le_refl _)])
      exact ⟨rfl, HO, own_rd' encPg_len HO HZ.out, BW.out⟩

theorem eqPage_same (x : Pg) (w : World) : Calls Tryd.prog 51 #[.agg #[.int .i64 x.n, .int .i64 x.r, .int .i64 x.c, .int .i64 x.l], .agg #[.int .i64 x.n, .int .i64 x.r, .int .i64 x.c, .int .i64 x.l]] w fun e w' => e = .returned (.bool true) ∧ Below w.heap.size w w' := by
  go_enter Tryd.func51, Tryd.ntmps51
  go_wp2
  go_ret
  exact ⟨rfl, (((Below.refl _ _).alloc (Nat.le_refl _) _).alloc (by simp) _)⟩

set_option maxRecDepth 100000 in
theorem eqPageS_same (ao bo : Option Addr) (n c d : Nat) (zs : List Pg) (w : World) (hz : zs.length = n) (hn : n ≤ 1048576) (hr : Rd encPg 4 w.heap.size w ao zs) (hr2 : Rd encPg 4 w.heap.size w bo zs) :
    Calls Tryd.prog 26 #[.slice ao n c, .slice bo n d] w fun e w' => e = .returned (.bool true) ∧ Below w.heap.size w w' := by
  have HZ := hide hz
  have HR := hide hr
  have HR2 := hide hr2
  clear hz hr hr2
  go_enter Tryd.func26, Tryd.ntmps26
  go_wp2
  go_loopg [5] n (fun gk i wr => ∃ k : Nat, k ≤ n ∧ n - k ≤ gk ∧ i = .int .i64 k ∧ Aside (Below w.heap.size w wr))
  case atStart => exact ⟨0, Nat.zero_le _, by omega, rfl, Below.refl _ _⟩
  case round =>
    obtain ⟨k, hk, hg, rfl, BW⟩ := hrel
    by_cases hlt : k < n
    · have hlti : (k : Int) < (n : Int) := by omega
      obtain ⟨b, off, rfl, hb1, hat⟩ := rdPg HR.out (by rw [HZ.out]; omega)
      obtain ⟨b', off', rfl, hb1', hat'⟩ := rdPg HR2.out (by rw [HZ.out]; omega)
      obtain ⟨x, hx, hxc⟩ := hat k (by rw [HZ.out]; exact hlt)
      obtain ⟨x', hx', hxc'⟩ := hat' k (by rw [HZ.out]; exact hlt)
      obtain rfl : x' = x := by rw [hx] at hx'; injection hx' with h; exact h.symm
      obtain ⟨hbr, c0, c1, c2, c3⟩ := hxc wr BW.out
      obtain ⟨hbr', d0, d1, d2, d3⟩ := hxc' wr BW.out
      clear hx hx' hxc hxc' hat hat'
      go_wp2_with fail
      go_still_tail 8, (by kernel_rfl)
      change wpList _ _ _ _ _ wr.drew
      go_wp2_with fail
      refine (eqPage_same x' _).mono ?_
      rintro e w2 ⟨rfl, hb⟩
      have HB := hide hb
      clear hb
      go_wp2
      go_roundg (n - (k + 1))
      case measure => omega
      case rel => exact ⟨k + 1, by omega, by omega, by go_num, BW.out.drew.trans (HB.out.mono BW.out.size)⟩
    · have hge : ¬ (k : Int) < (n : Int) := by omega
      go_wp2
      go_ret
      exact ⟨rfl, BW.out⟩

end Go.Proofs.YtdgalehipgdhiaaDoor
