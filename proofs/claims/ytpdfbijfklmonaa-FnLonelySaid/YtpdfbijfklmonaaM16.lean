/- AreLonely and its reference. -/
import Derived.Test.YtpdfbijfklmonaaM14
import Derived.Test.YtpdfbijfklmonaaM15
namespace Go.Proofs.Ytpdfbijfklmonaa
open Go.RowKit
set_option linter.unusedVariables false
set_option linter.unusedSimpArgs false

def okLon (a b : Int) (zs : List Cv) (zq : List Ar2) : Bool := wallB a b zs && sqB a b zq
def lonV (a b : Int) (zs : List Cv) (zq : List Ar2) : Bool := okLon a b zs zq && loneB zs zq

set_option maxRecDepth 100000 in
theorem AreLonely_any (a b : Int) (ao : Option Addr) (n c : Nat) (zs : List Cv) (qo : Option Addr) (m d : Nat) (zq : List Ar2) (w : World) (hz : zs.length = n) (hn : n ≤ 1048576) (hr : Rd encCv 6 w.heap.size w ao zs) (hzq : zq.length = m) (hm : m ≤ 1048576) (hrq : Rd encAr2 2 w.heap.size w qo zq) :
    Calls Try.prog 24 #[.int .i64 a, .int .i64 b, .slice ao n c, .slice qo m d] w fun e w' => e = .returned (.tuple #[.bool (lonV a b zs zq), .bool (okLon a b zs zq)]) ∧ Below w.heap.size w w' := by
  have HZ := hide hz
  have HR := hide hr
  clear hz hr
  have HZQ := hide hzq
  have HRQ := hide hrq
  clear hzq hrq
  rcases first2 (wallB a b zs) (sqB a b zq) with h1 | ⟨h1, h2⟩ | ⟨h1, h2⟩
  · have HOK : Hid (okLon a b zs zq = false) := hide (by unfold okLon; rw [h1]; rfl)
    have H1 := hide h1
    clear h1
    go_enter Try.func24, Try.ntmps24
    go_wp2_with fail
    refine (isWall_any _ _ _ n c zs _ HZ.out hn HR.out).mono ?_
    rintro e w1 ⟨rfl, hb⟩
    have HB1 := hide hb
    have HR1 := hide (rd_step HR.out hb)
    have HRQ1 := hide (rd_step HRQ.out hb)
    clear hb
    rw [H1.out]
    go_wp2
    go_ret2
    exact ⟨ret_bb (by unfold lonV; rw [HOK.out]; rfl) HOK.out.symm, HB1.out⟩
  · have HOK : Hid (okLon a b zs zq = false) := hide (by unfold okLon; rw [h1, h2]; rfl)
    have H1 := hide h1
    have hw2 := h1
    unfold wallB at hw2; simp only [Bool.and_eq_true] at hw2
    have b1 := inB_iff.1 hw2.1.1
    have b2 := inB_iff.1 hw2.1.2
    have HG := hide (good_of hw2.2)
    clear hw2
    have H2 := hide h2
    clear h1 h2
    go_enter Try.func24, Try.ntmps24
    go_wp2_with fail
    refine (isWall_any _ _ _ n c zs _ HZ.out hn HR.out).mono ?_
    rintro e w1 ⟨rfl, hb⟩
    have HB1 := hide hb
    have HR1 := hide (rd_step HR.out hb)
    have HRQ1 := hide (rd_step HRQ.out hb)
    clear hb
    rw [H1.out]
    go_wp2_with fail
    refine (areWallSquares_any _ _ b1 b2 _ m d zq _ HZQ.out hm HRQ1.out).mono ?_
    rintro e w2 ⟨rfl, hb⟩
    have HB2 := hide (bl_step HB1.out hb)
    have HR2 := hide (rd_step HR1.out hb)
    have HRQ2 := hide (rd_step HRQ1.out hb)
    clear hb
    rw [H2.out]
    go_wp2
    go_ret2
    exact ⟨ret_bb (by unfold lonV; rw [HOK.out]; rfl) HOK.out.symm, HB2.out⟩
  · have HOK : Hid (okLon a b zs zq = true) := hide (by unfold okLon; rw [h1, h2]; rfl)
    have H1 := hide h1
    have hw2 := h1
    unfold wallB at hw2; simp only [Bool.and_eq_true] at hw2
    have b1 := inB_iff.1 hw2.1.1
    have b2 := inB_iff.1 hw2.1.2
    have HG := hide (good_of hw2.2)
    clear hw2
    have H2 := hide h2
    clear h1 h2
    have HV : Hid (lonV a b zs zq = loneB zs zq) := hide (by unfold lonV; rw [HOK.out]; rfl)
    go_enter Try.func24, Try.ntmps24
    go_wp2_with fail
    refine (isWall_any _ _ _ n c zs _ HZ.out hn HR.out).mono ?_
    rintro e w1 ⟨rfl, hb⟩
    have HB1 := hide hb
    have HR1 := hide (rd_step HR.out hb)
    have HRQ1 := hide (rd_step HRQ.out hb)
    clear hb
    rw [H1.out]
    go_wp2_with fail
    refine (areWallSquares_any _ _ b1 b2 _ m d zq _ HZQ.out hm HRQ1.out).mono ?_
    rintro e w2 ⟨rfl, hb⟩
    have HB2 := hide (bl_step HB1.out hb)
    have HR2 := hide (rd_step HR1.out hb)
    have HRQ2 := hide (rd_step HRQ1.out hb)
    clear hb
    rw [H2.out]
    go_wp2_with fail
    refine (lonely_any _ n c zs _ m d zq _ HZ.out hn HR2.out HZQ.out hm HRQ2.out HG.out).mono ?_
    rintro e w3 ⟨rfl, hb⟩
    go_wp2
    go_ret2
    exact ⟨ret_bb HV.out.symm HOK.out.symm, bl_step HB2.out hb⟩

set_option maxRecDepth 100000 in
theorem sAreLonely_any (a b : Int) (ao : Option Addr) (n c : Nat) (zs : List Cv) (qo : Option Addr) (m d : Nat) (zq : List Ar2) (w : World) (hz : zs.length = n) (hn : n ≤ 1048576) (hr : Rd encCv 6 w.heap.size w ao zs) (hzq : zq.length = m) (hm : m ≤ 1048576) (hrq : Rd encAr2 2 w.heap.size w qo zq) :
    Calls Try.prog 22 #[.int .i64 a, .int .i64 b, .slice ao n c, .slice qo m d] w fun e w' => e = .returned (.tuple #[.bool (lonV a b zs zq), .bool (okLon a b zs zq)]) ∧ Below w.heap.size w w' := by
  have HZ := hide hz
  have HR := hide hr
  clear hz hr
  have HZQ := hide hzq
  have HRQ := hide hrq
  clear hzq hrq
  rcases first2 (wallB a b zs) (sqB a b zq) with h1 | ⟨h1, h2⟩ | ⟨h1, h2⟩
  · have HOK : Hid (okLon a b zs zq = false) := hide (by unfold okLon; rw [h1]; rfl)
    have H1 := hide h1
    clear h1
    go_enter Try.func22, Try.ntmps22
    go_wp2_with fail
    refine (l12Wall_any _ _ _ n c zs _ HZ.out hn HR.out).mono ?_
    rintro e w1 ⟨rfl, hb⟩
    have HB1 := hide hb
    have HR1 := hide (rd_step HR.out hb)
    have HRQ1 := hide (rd_step HRQ.out hb)
    clear hb
    rw [H1.out]
    go_wp2
    go_ret2
    exact ⟨ret_bb (by unfold lonV; rw [HOK.out]; rfl) HOK.out.symm, HB1.out⟩
  · have HOK : Hid (okLon a b zs zq = false) := hide (by unfold okLon; rw [h1, h2]; rfl)
    have H1 := hide h1
    have hw2 := h1
    unfold wallB at hw2; simp only [Bool.and_eq_true] at hw2
    have b1 := inB_iff.1 hw2.1.1
    have b2 := inB_iff.1 hw2.1.2
    have HG := hide (good_of hw2.2)
    clear hw2
    have H2 := hide h2
    clear h1 h2
    go_enter Try.func22, Try.ntmps22
    go_wp2_with fail
    refine (l12Wall_any _ _ _ n c zs _ HZ.out hn HR.out).mono ?_
    rintro e w1 ⟨rfl, hb⟩
    have HB1 := hide hb
    have HR1 := hide (rd_step HR.out hb)
    have HRQ1 := hide (rd_step HRQ.out hb)
    clear hb
    rw [H1.out]
    go_wp2_with fail
    refine (l12Squares_any _ _ _ m d zq _ HZQ.out hm HRQ1.out).mono ?_
    rintro e w2 ⟨rfl, hb⟩
    have HB2 := hide (bl_step HB1.out hb)
    have HR2 := hide (rd_step HR1.out hb)
    have HRQ2 := hide (rd_step HRQ1.out hb)
    clear hb
    rw [H2.out]
    go_wp2
    go_ret2
    exact ⟨ret_bb (by unfold lonV; rw [HOK.out]; rfl) HOK.out.symm, HB2.out⟩
  · have HOK : Hid (okLon a b zs zq = true) := hide (by unfold okLon; rw [h1, h2]; rfl)
    have H1 := hide h1
    have hw2 := h1
    unfold wallB at hw2; simp only [Bool.and_eq_true] at hw2
    have b1 := inB_iff.1 hw2.1.1
    have b2 := inB_iff.1 hw2.1.2
    have HG := hide (good_of hw2.2)
    clear hw2
    have H2 := hide h2
    clear h1 h2
    have HV : Hid (lonV a b zs zq = loneB zs zq) := hide (by unfold lonV; rw [HOK.out]; rfl)
    go_enter Try.func22, Try.ntmps22
    go_wp2_with fail
    refine (l12Wall_any _ _ _ n c zs _ HZ.out hn HR.out).mono ?_
    rintro e w1 ⟨rfl, hb⟩
    have HB1 := hide hb
    have HR1 := hide (rd_step HR.out hb)
    have HRQ1 := hide (rd_step HRQ.out hb)
    clear hb
    rw [H1.out]
    go_wp2_with fail
    refine (l12Squares_any _ _ _ m d zq _ HZQ.out hm HRQ1.out).mono ?_
    rintro e w2 ⟨rfl, hb⟩
    have HB2 := hide (bl_step HB1.out hb)
    have HR2 := hide (rd_step HR1.out hb)
    have HRQ2 := hide (rd_step HRQ1.out hb)
    clear hb
    rw [H2.out]
    go_wp2_with fail
    refine (l12Lonely_any _ n c zs _ m d zq _ HZ.out hn HR2.out HZQ.out hm HRQ2.out).mono ?_
    rintro e w3 ⟨rfl, hb⟩
    go_wp2
    go_ret2
    exact ⟨ret_bb HV.out.symm HOK.out.symm, bl_step HB2.out hb⟩

end Go.Proofs.Ytpdfbijfklmonaa
