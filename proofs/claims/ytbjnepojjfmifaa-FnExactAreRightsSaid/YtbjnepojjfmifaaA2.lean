/- Small contracts. -/
import Derived.Test.YtbjnepojjfmifaaA1
namespace Go.Proofs.Ytbjnepojjfmifaa
open Go.RowKit
def szV (left : Int) (n : Nat) : Int := if left < n then -1 else left - n

theorem szRightS_any (ao : Option Addr) (n c : Nat) (left : Int) (w : World) (hn : n ≤ 9223372036854775807) (h0 : 0 ≤ left) (h1 : left ≤ 1048576) :
    Calls Try.prog 15 #[.slice ao n c, .int .i64 left] w fun e w' => e = .returned (.int .i64 (szV left n)) ∧ w = w' := by
  by_cases h : left < n
  · have h' : left - (n : Int) < 0 := by omega
    go_enter Try.func15, Try.ntmps15
    go_wp2
    go_ret
    exact ⟨ret_int (by unfold szV; split <;> omega), rfl⟩
  · have h' : ¬ left - (n : Int) < 0 := by omega
    go_enter Try.func15, Try.ntmps15
    go_wp2
    go_ret
    exact ⟨ret_int (by unfold szV; split <;> omega), rfl⟩

structure Rt where
  s : Int
  e : Int
  h : Int
  f : Int
instance : Inhabited Rt := ⟨⟨0, 0, 0, 0⟩⟩
def encR (x : Rt) : List Value := [.int .i64 x.s, .int .i64 x.e, .int .i64 x.h, .int .i64 x.f]

theorem encR_len : ∀ x, (encR x).length = 4 := fun _ => rfl
theorem toRight_any (a b c d : Int) (w : World) : Calls Try.prog 57 #[.agg #[.int .i64 a, .int .i64 b, .int .i64 c, .int .i64 d]] w fun e w' => e = .returned (.agg #[.int .i64 a, .int .i64 b, .int .i64 c, .int .i64 d]) ∧ Below w.heap.size w w' := by
  go_enter Try.func57, Try.ntmps57
  go_wp2
  refine bodyPost_ret (v := .agg #[.int .i64 a, .int .i64 b, .int .i64 c, .int .i64 d]) (by simp [results, Try.results57, go_sem]) rfl ⟨rfl, ?_⟩
  exact (((Below.refl _ _).alloc (Nat.le_refl _) _).alloc (by simp) _).alloc (by simp; omega) _

theorem info73 : (Try.prog.info? 73).map (fun i => (i.zero, i.size, i.bytes)) = some (some (.agg #[.int .i64 0, .int .i64 0, .int .i64 0, .int .i64 0]), 4, 32) := by kernel_rfl

theorem toRightS_any (ao : Option Addr) (n c : Nat) (zs : List Rt) (w : World) (hz : zs.length = n) (hn : n ≤ 1048576) (hr : Rd encR 4 w.heap.size w ao zs) :
    Calls Try.prog 17 #[.slice ao n c] w fun e w' => e = .returned (.slice (some ⟨w.heap.size, 0, none⟩) n n) ∧ w'.ownsRow w.heap.size 73 4 (.slice (some ⟨w.heap.size, 0, none⟩) n n) n (zs.flatMap encR) ∧ Rd encR 4 w'.heap.size w' (some ⟨w.heap.size, 0, none⟩) zs ∧ Below w.heap.size w w' := by
  obtain ⟨cs0, hcs0, hmk⟩ := run_make_rowN (P := Try.prog) 25 73 _ 4 32 Try.underlying25 info73 n (by omega) (by omega)
  have HZ := hide hz
  have HR := hide hr
  have HC := hide hcs0
  clear hz hr hcs0
  go_enter Try.func17, Try.ntmps17
  go_wp2
  go_loopg [4] n (fun gk i wr => ∃ k : Nat, k ≤ n ∧ n - k ≤ gk ∧ i = .int .i64 k ∧ Aside (Below w.heap.size w wr) ∧ Aside (∃ cs, Blk wr w.heap.size 73 cs ∧ cs.size = n * 4 ∧ cs.toList.take (k * 4) = (zs.take k).flatMap encR))
  case atStart => exact ⟨0, Nat.zero_le _, by omega, rfl, (Below.refl _ _).alloc (Nat.le_refl _) _, ⟨cs0, Blk.new _ _ _, HC.out, by simp⟩⟩
  case round =>
    obtain ⟨k, hk, hg, rfl, BW, A⟩ := hrel
    by_cases hlt : k < n
    · have hlti : (k : Int) < (n : Int) := by omega
      obtain ⟨b, off, rfl, hb1, hb2, hc⟩ := HR.out.at_ (by rw [HZ.out]; omega)
      obtain ⟨x, hx⟩ : ∃ x, zs[k]? = some x := ⟨_, List.getElem?_eq_getElem (by rw [HZ.out]; exact hlt)⟩
      have HX := hide hx
      have c0 : wr.cell? ⟨b, off + k * 4, none⟩ = some (.int .i64 x.s) := (BW.out.cell (p := ⟨b, _, none⟩) hb1).trans (hc k x hx 0 _ rfl)
      have c1 : wr.cell? ⟨b, off + k * 4 + 1, none⟩ = some (.int .i64 x.e) := (BW.out.cell (p := ⟨b, _, none⟩) hb1).trans (hc k x hx 1 _ rfl)
      have c2 : wr.cell? ⟨b, off + k * 4 + 2, none⟩ = some (.int .i64 x.h) := (BW.out.cell (p := ⟨b, _, none⟩) hb1).trans (hc k x hx 2 _ rfl)
      have c3 : wr.cell? ⟨b, off + k * 4 + 3, none⟩ = some (.int .i64 x.f) := (BW.out.cell (p := ⟨b, _, none⟩) hb1).trans (hc k x hx 3 _ rfl)
      clear hx hc hmk
      obtain ⟨cs, hB, hs, ht⟩ := A.out
      clear A
      have HT := hide ht
      have HS := hide hs
      have HB := hide hB
      clear ht hs
      go_wp2_with fail
      refine (toRight_any _ _ _ _ _).mono ?_
      rintro e w2 ⟨rfl, hb⟩
      have hB2 : Blk w2 w.heap.size 73 cs := hB.below' hb
      have d0 : w2.cell? ⟨w.heap.size, k * 4, none⟩ = some (cs[k * 4]'(by rw [HS.out]; omega)) := by rw [hB2.cell]; exact Array.getElem?_eq_getElem _
      have d1 : w2.cell? ⟨w.heap.size, k * 4 + 1, none⟩ = some (cs[k * 4 + 1]'(by rw [HS.out]; omega)) := by rw [hB2.cell]; exact Array.getElem?_eq_getElem _
      have d2 : w2.cell? ⟨w.heap.size, k * 4 + 2, none⟩ = some (cs[k * 4 + 2]'(by rw [HS.out]; omega)) := by rw [hB2.cell]; exact Array.getElem?_eq_getElem _
      have d3 : w2.cell? ⟨w.heap.size, k * 4 + 3, none⟩ = some (cs[k * 4 + 3]'(by rw [HS.out]; omega)) := by rw [hB2.cell]; exact Array.getElem?_eq_getElem _
      have f0 : w2.frozen? ⟨w.heap.size, k * 4, none⟩ = false := hB2.frozen _
      have f1 : w2.frozen? ⟨w.heap.size, k * 4 + 1, none⟩ = false := hB2.frozen _
      have f2 : w2.frozen? ⟨w.heap.size, k * 4 + 2, none⟩ = false := hB2.frozen _
      have f3 : w2.frozen? ⟨w.heap.size, k * 4 + 3, none⟩ = false := hB2.frozen _
      have HB2 := hide hB2
      have HBB := hide hb
      clear hB2 hb hB
      go_wp2
      go_roundg (n - (k + 1))
      case measure => omega
      case rel =>
        refine ⟨k + 1, by omega, by omega, by go_num, ?_, setL cs (k * 4) (encR x), ?_, ?_, ?_⟩
        · exact ((((BW.out.trans (HBB.out.mono BW.out.size)).setCell (Nat.le_refl _) _).setCell (Nat.le_refl _) _).setCell (Nat.le_refl _) _).setCell (Nat.le_refl _) _
        · exact (((HB2.out.set_ _ _).set_ _ _).set_ _ _).set_ _ _
        · rw [setL_size]; exact HS.out
        · rw [flat_take_succ zs k x HX.out, ← HT.out, show (k + 1) * 4 = k * 4 + (encR x).length from by simp [encR]; omega, setL_take _ _ _ (by rw [HS.out]; simp [encR]; omega)]
    · have hge : ¬ (k : Int) < (n : Int) := by omega
      have : k = n := by omega
      subst this
      obtain ⟨cs, hB, hs, ht⟩ := A.out
      clear A
      have HT := hide ht
      have HS := hide hs
      have HB := hide hB
      clear ht hs hB
      go_wp2
      go_ret
      have HO : wr.ownsRow w.heap.size 73 4 (.slice (some ⟨w.heap.size, 0, none⟩) k k) k (zs.flatMap encR) :=
        World.ownsRow_of_blk HB.out (Nat.le_refl _) HS.out (Nat.le_refl _) (by simp [maxLen]; omega) (by rw [flat_len encR_len, HZ.out])
          (by rw [HT.out, List.take_of_length_le (by rw [HZ.out]; exact Nat.le_refl _)])
      exact ⟨rfl, HO, own_rd' encR_len HO HZ.out, BW.out⟩
end Go.Proofs.Ytbjnepojjfmifaa
