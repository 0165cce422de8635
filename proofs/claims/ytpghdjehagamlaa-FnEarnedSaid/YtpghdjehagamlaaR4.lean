/- What a reader has copied. -/
import Derived.Test.YtpghdjehagamlaaR3
import Derived.Test.YtpghdjehagamlaaFCopying
import Derived.Test.YtpghdjehagamlaaKit2
namespace Go.Proofs.Ytpghdjehagamlaa
open Go.RowKit

def condU (r : Rt) (rd : Int) (x : Cp) : Bool := x.s == r.s && x.r == rd && decide (x.d ≤ r.e)
/-- what a reader has copied of a sheet while its right lasts -/
def usedV (r : Rt) (rd : Int) (zs : List Cp) : Int := sumI Cp.p (condU r rd) zs
set_option maxRecDepth 100000 in
theorem copied_any (r : Rt) (ao : Option Addr) (n c : Nat) (zs : List Cp) (rd : Int) (w : World) (hz : zs.length = n) (hn : n ≤ 1048576) (hr : Rd encCp 4 w.heap.size w ao zs) :
    Calls Try.prog 77 #[.agg #[.int .i64 r.s, .int .i64 r.e, .int .i64 r.h, .int .i64 r.f], .slice ao n c, .int .i64 rd] w fun e w' => e = .returned (.int .i64 (usedV r rd zs)) ∧ Below w.heap.size w w' := by
  have HZ := hide hz
  obtain ⟨W, hW⟩ : ∃ W, W = w.alloc (.cells #[.int .i64 r.s, .int .i64 r.e, .int .i64 r.h, .int .i64 r.f] 72) := ⟨_, rfl⟩
  have HR : Hid (Rd encCp 4 W.heap.size W ao zs) := hide (by rw [hW]; exact (hr.alloc _).mono (by simp))
  have g0 : w.heap.size < W.heap.size := by rw [hW]; simp
  have G0 : Hid (W.cell? ⟨w.heap.size, 0, none⟩ = some (.int .i64 r.s)) := hide (by rw [hW]; simp)
  have G1 : Hid (W.cell? ⟨w.heap.size, 1, none⟩ = some (.int .i64 r.e)) := hide (by rw [hW]; simp)
  have HBW : Hid (Below w.heap.size w W) := hide (by rw [hW]; exact (Below.refl _ _).alloc (Nat.le_refl _) _)
  have HW := hide hW
  clear hz hr hW
  go_enter Try.func77, Try.ntmps77
  go_wp2
  rw [← HW.out]
  go_loopg [7, 12] n (fun gk t i wr => ∃ k : Nat, k ≤ n ∧ n - k ≤ gk ∧ i = .int .i64 k ∧ t = .int .i64 (sumI Cp.p (condU r rd) (zs.take k)) ∧ Aside (Below W.heap.size W wr))
  case atStart => exact ⟨0, Nat.zero_le _, by omega, rfl, by rw [sum_zero], Below.refl _ W⟩
  case round =>
    obtain ⟨k, hk, hg, rfl, rfl, BW⟩ := hrel
    by_cases hlt : k < n
    · have hltz : (k : Int) < (n : Int) := by omega
      obtain ⟨b, off, rfl, hb1, hat⟩ := rdCp HR.out (by rw [HZ.out]; omega)
      obtain ⟨x, hx, hxc⟩ := hat k (by rw [HZ.out]; exact hlt)
      have HX := hide hx
      obtain ⟨hbr, c0, c1, c2, c3⟩ := hxc wr BW.out
      have e0 : wr.cell? ⟨w.heap.size, 0, none⟩ = some (.int .i64 r.s) := (BW.out.cell (p := ⟨w.heap.size, 0, none⟩) g0).trans G0.out
      have e1 : wr.cell? ⟨w.heap.size, 1, none⟩ = some (.int .i64 r.e) := (BW.out.cell (p := ⟨w.heap.size, 1, none⟩) g0).trans G1.out
      have g1 : w.heap.size < wr.heap.size := Nat.lt_of_lt_of_le g0 BW.out.size
      clear hx hxc hat
      generalize ht : sumI Cp.p (condU r rd) (zs.take k) = t
      have HT := hide ht
      clear ht
      rcases first2 (x.s == r.s) (x.r == rd) with h1 | ⟨h1, h2⟩ | ⟨h1, h2⟩
      iterate 2
        · have HN : Hid (condU r rd x = false) := hide (by simp [condU, *])
          go_wp2
          go_roundg (n - (k + 1))
          case measure => omega
          case rel => exact ⟨k + 1, by omega, by omega, by go_num, by rw [sum_no HX.out HN.out, HT.out], BW.out.alloc BW.out.size _⟩
      · by_cases h3 : x.d ≤ r.e
        · have HY : Hid (condU r rd x = true) := hide (by unfold condU; rw [h1, h2]; simp [h3])
          go_wp2
          go_roundg (n - (k + 1))
          case measure => omega
          case rel => exact ⟨k + 1, by omega, by omega, by go_num, by rw [sum_yes HX.out HY.out, HT.out], BW.out.alloc BW.out.size _⟩
        · have HN : Hid (condU r rd x = false) := hide (by unfold condU; rw [h1, h2]; simp; omega)
          go_wp2
          go_roundg (n - (k + 1))
          case measure => omega
          case rel => exact ⟨k + 1, by omega, by omega, by go_num, by rw [sum_no HX.out HN.out, HT.out], BW.out.alloc BW.out.size _⟩
    · have hltz : ¬ (k : Int) < (n : Int) := by omega
      go_wp2
      go_ret
      exact ⟨ret_int (by unfold usedV; rw [sum_all (by rw [HZ.out]; omega)]), HBW.out.trans (BW.out.mono HBW.out.size)⟩

def condF (rz : List Rt) (s rd : Int) (x : Cp) : Bool := x.s == s && x.r == rd && !freeR rz s x.d
theorem condF_eq {rz : List Rt} {s rd : Int} {r : Rt} (h : rz.find? (isS s) = some r) (x : Cp) : condF rz s rd x = condU r rd x := by
  have hs : isS s r = true := List.find?_some h
  have hs' : r.s = s := by unfold isS at hs; simpa using hs
  unfold condF condU freeR
  rw [h, hs']
  have e : (!decide (r.e < x.d)) = decide (x.d ≤ r.e) := by rw [Bool.eq_iff_iff]; simp
  simp only [e]
set_option maxRecDepth 100000 in
theorem l14Used_any (ro : Option Addr) (m d : Nat) (rz : List Rt) (ao : Option Addr) (n c : Nat) (zs : List Cp) (s rd : Int) (w : World) (hrz : rz.length = m) (hm : m ≤ 1048576) (hrr : Rd encRt 4 w.heap.size w ro rz) (hz : zs.length = n) (hn : n ≤ 1048576) (hr : Rd encCp 4 w.heap.size w ao zs) :
    Calls Try.prog 94 #[.slice ro m d, .slice ao n c, .int .i64 s, .int .i64 rd] w fun e w' => e = .returned (.int .i64 (sumI Cp.p (condF rz s rd) zs)) ∧ Below w.heap.size w w' := by
  have HZ := hide hz
  have HR := hide hr
  have HRZ := hide hrz
  have HRR := hide hrr
  clear hz hr hrz hrr
  go_enter Try.func94, Try.ntmps94
  go_wp2
  go_loopg [9, 10] n (fun gk t i wr => ∃ k : Nat, k ≤ n ∧ n - k ≤ gk ∧ i = .int .i64 k ∧ t = .int .i64 (sumI Cp.p (condF rz s rd) (zs.take k)) ∧ Aside (Below w.heap.size w wr))
  case atStart => exact ⟨0, Nat.zero_le _, by omega, rfl, by rw [sum_zero], Below.refl _ w⟩
  case round =>
    obtain ⟨k, hk, hg, rfl, rfl, BW⟩ := hrel
    by_cases hlt : k < n
    · have hltz : (k : Int) < (n : Int) := by omega
      obtain ⟨b, off, rfl, hb1, hat⟩ := rdCp HR.out (by rw [HZ.out]; omega)
      obtain ⟨x, hx, hxc⟩ := hat k (by rw [HZ.out]; exact hlt)
      have HX := hide hx
      obtain ⟨hbr, c0, c1, c2, c3⟩ := hxc wr BW.out
      clear hx hxc hat
      generalize ht : sumI Cp.p (condF rz s rd) (zs.take k) = t
      have HT := hide ht
      clear ht
      rcases first3 (x.s == s) (x.r == rd) (!freeR rz s x.d) with h1 | ⟨h1, h2⟩ | ⟨h1, h2, h3⟩ | ⟨h1, h2, h3⟩
      iterate 3
        · have HN : Hid (condF rz s rd x = false) := hide (by unfold condF; simp only [*]; rfl)
          go_wp2_with (go_at_call 90; refine (l14Free_any _ _ _ rz _ _ _ HRZ.out hm (rd_step HRR.out (BW.out.alloc BW.out.size _))).mono ?_; rintro e w' ⟨rfl, rfl⟩)
          go_roundg (n - (k + 1))
          case measure => omega
          case rel => exact ⟨k + 1, by omega, by omega, by go_num, by rw [sum_no HX.out HN.out, HT.out], BW.out.alloc BW.out.size _⟩
      · have HY : Hid (condF rz s rd x = true) := hide (by unfold condF; rw [h1, h2, h3]; rfl)
        go_wp2_with (go_at_call 90; refine (l14Free_any _ _ _ rz _ _ _ HRZ.out hm (rd_step HRR.out (BW.out.alloc BW.out.size _))).mono ?_; rintro e w' ⟨rfl, rfl⟩)
        go_roundg (n - (k + 1))
        case measure => omega
        case rel => exact ⟨k + 1, by omega, by omega, by go_num, by rw [sum_yes HX.out HY.out, HT.out], BW.out.alloc BW.out.size _⟩
    · have hltz : ¬ (k : Int) < (n : Int) := by omega
      go_wp2
      go_ret
      exact ⟨ret_int (by rw [sum_all (by rw [HZ.out]; omega)]), BW.out⟩

end Go.Proofs.Ytpghdjehagamlaa
