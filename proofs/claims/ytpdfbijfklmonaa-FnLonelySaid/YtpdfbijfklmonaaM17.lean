/- ProvesFewest and its reference. -/
import Derived.Test.YtpdfbijfklmonaaM16
import Derived.Test.YtpdfbijfklmonaaM9
namespace Go.Proofs.Ytpdfbijfklmonaa
open Go.RowKit
set_option linter.unusedVariables false
set_option linter.unusedSimpArgs false

def frB (zs : List Cv) (is : List Int) : Bool := foundB zs is && risB is
theorem okMos_fr (a b : Int) (zs : List Cv) (is : List Int) : okMos a b zs is = (wallB a b zs && frB zs is) := by unfold okMos frB; rw [Bool.and_assoc]
def okPF (a b : Int) (zs : List Cv) (is : List Int) (zq : List Ar2) : Bool := okMos a b zs is && sqB a b zq
def pfV (a b : Int) (zs : List Cv) (is : List Int) (zq : List Ar2) : Bool := okPF a b zs is zq && mosV a b zs is && loneB zs zq && decide (zq.length = is.length)

set_option maxRecDepth 100000 in
set_option maxHeartbeats 1000000 in
theorem ProvesFewest_any (a b : Int) (ao : Option Addr) (n c : Nat) (zs : List Cv) (io : Option Addr) (m d : Nat) (is : List Int) (qo : Option Addr) (q e : Nat) (zq : List Ar2) (w : World) (hz : zs.length = n) (hn : n ≤ 1048576) (hr : Rd encCv 6 w.heap.size w ao zs) (hzi : is.length = m) (hm : m ≤ 1048576) (hri : Rd encI 1 w.heap.size w io is) (hzq : zq.length = q) (hq : q ≤ 1048576) (hrq : Rd encAr2 2 w.heap.size w qo zq) :
    Calls Try.prog 27 #[.int .i64 a, .int .i64 b, .slice ao n c, .slice io m d, .slice qo q e] w fun ex w' => ex = .returned (.tuple #[.bool (pfV a b zs is zq), .bool (okPF a b zs is zq)]) ∧ Below w.heap.size w w' := by
  have HZ := hide hz
  have HR := hide hr
  have HZI := hide hzi
  have HRI := hide hri
  clear hz hr hzi hri
  have HZQ := hide hzq
  have HRQ := hide hrq
  clear hzq hrq
  rcases first4 (okMos a b zs is) (sqB a b zq) (mosV a b zs is) (loneB zs zq) with h1 | ⟨h1, h2⟩ | ⟨h1, h2, h3⟩ | ⟨h1, h2, h3, h4⟩ | ⟨h1, h2, h3, h4⟩
  · have HOK : Hid (okPF a b zs is zq = false) := hide (by unfold okPF; rw [h1]; rfl)
    have H1 := hide h1
    clear h1
    go_enter Try.func27, Try.ntmps27
    go_wp2_with fail
    refine (IsMosaic_any _ _ ao n c zs io m d is _ HZ.out hn HR.out HZI.out hm HRI.out).mono ?_
    rintro ex w1 ⟨rfl, hb⟩
    have HB1 := hide hb
    have HR1 := hide (rd_step HR.out hb)
    have HRQ1 := hide (rd_step HRQ.out hb)
    clear hb
    rw [H1.out]
    go_wp2
    go_ret2
    exact ⟨ret_bb (by unfold pfV; rw [HOK.out]; rfl) HOK.out.symm, HB1.out⟩
  · have HOK : Hid (okPF a b zs is zq = false) := hide (by unfold okPF; rw [h1, h2]; rfl)
    have hw2 := h1
    unfold okMos wallB at hw2; simp only [Bool.and_eq_true] at hw2
    have b1 := inB_iff.1 hw2.1.1.1.1
    have b2 := inB_iff.1 hw2.1.1.1.2
    have HG := hide (good_of hw2.1.1.2)
    clear hw2
    have H1 := hide h1
    have H2 := hide h2
    clear h1 h2
    go_enter Try.func27, Try.ntmps27
    go_wp2_with fail
    refine (IsMosaic_any _ _ ao n c zs io m d is _ HZ.out hn HR.out HZI.out hm HRI.out).mono ?_
    rintro ex w1 ⟨rfl, hb⟩
    have HB1 := hide hb
    have HR1 := hide (rd_step HR.out hb)
    have HRQ1 := hide (rd_step HRQ.out hb)
    clear hb
    rw [H1.out]
    go_wp2_with fail
    refine (areWallSquares_any _ _ b1 b2 _ q e zq _ HZQ.out hq HRQ1.out).mono ?_
    rintro ex w2 ⟨rfl, hb⟩
    have HB2 := hide (bl_step HB1.out hb)
    have HR2 := hide (rd_step HR1.out hb)
    have HRQ2 := hide (rd_step HRQ1.out hb)
    clear hb
    rw [H2.out]
    go_wp2
    go_ret2
    exact ⟨ret_bb (by unfold pfV; rw [HOK.out]; rfl) HOK.out.symm, HB2.out⟩
  · have HOK : Hid (okPF a b zs is zq = true) := hide (by unfold okPF; rw [h1, h2]; rfl)
    have hw2 := h1
    unfold okMos wallB at hw2; simp only [Bool.and_eq_true] at hw2
    have b1 := inB_iff.1 hw2.1.1.1.1
    have b2 := inB_iff.1 hw2.1.1.1.2
    have HG := hide (good_of hw2.1.1.2)
    clear hw2
    have HV : Hid (pfV a b zs is zq = false) := hide (by unfold pfV; rw [h3, Bool.and_false]; rfl)
    have H1 := hide h1
    have H2 := hide h2
    have H3 := hide h3
    clear h1 h2 h3
    go_enter Try.func27, Try.ntmps27
    go_wp2_with fail
    refine (IsMosaic_any _ _ ao n c zs io m d is _ HZ.out hn HR.out HZI.out hm HRI.out).mono ?_
    rintro ex w1 ⟨rfl, hb⟩
    have HB1 := hide hb
    have HR1 := hide (rd_step HR.out hb)
    have HRQ1 := hide (rd_step HRQ.out hb)
    clear hb
    rw [H1.out]
    rw [H3.out]
    go_wp2_with fail
    refine (areWallSquares_any _ _ b1 b2 _ q e zq _ HZQ.out hq HRQ1.out).mono ?_
    rintro ex w2 ⟨rfl, hb⟩
    have HB2 := hide (bl_step HB1.out hb)
    have HR2 := hide (rd_step HR1.out hb)
    have HRQ2 := hide (rd_step HRQ1.out hb)
    clear hb
    rw [H2.out]
    go_wp2
    go_ret2
    exact ⟨ret_bb (HV.out.symm) HOK.out.symm, HB2.out⟩
  · have HOK : Hid (okPF a b zs is zq = true) := hide (by unfold okPF; rw [h1, h2]; rfl)
    have hw2 := h1
    unfold okMos wallB at hw2; simp only [Bool.and_eq_true] at hw2
    have b1 := inB_iff.1 hw2.1.1.1.1
    have b2 := inB_iff.1 hw2.1.1.1.2
    have HG := hide (good_of hw2.1.1.2)
    clear hw2
    have HV : Hid (pfV a b zs is zq = false) := hide (by unfold pfV; rw [h4, Bool.and_false]; rfl)
    have H1 := hide h1
    have H2 := hide h2
    have H3 := hide h3
    have H4 := hide h4
    clear h1 h2 h3 h4
    go_enter Try.func27, Try.ntmps27
    go_wp2_with fail
    refine (IsMosaic_any _ _ ao n c zs io m d is _ HZ.out hn HR.out HZI.out hm HRI.out).mono ?_
    rintro ex w1 ⟨rfl, hb⟩
    have HB1 := hide hb
    have HR1 := hide (rd_step HR.out hb)
    have HRQ1 := hide (rd_step HRQ.out hb)
    clear hb
    rw [H1.out]
    rw [H3.out]
    go_wp2_with fail
    refine (areWallSquares_any _ _ b1 b2 _ q e zq _ HZQ.out hq HRQ1.out).mono ?_
    rintro ex w2 ⟨rfl, hb⟩
    have HB2 := hide (bl_step HB1.out hb)
    have HR2 := hide (rd_step HR1.out hb)
    have HRQ2 := hide (rd_step HRQ1.out hb)
    clear hb
    rw [H2.out]
    go_wp2_with fail
    refine (lonely_any _ n c zs _ q e zq _ HZ.out hn HR2.out HZQ.out hq HRQ2.out HG.out).mono ?_
    rintro ex w3 ⟨rfl, hb⟩
    have HB3 := hide (bl_step HB2.out hb)
    clear hb
    rw [H4.out]
    go_wp2
    go_ret2
    exact ⟨ret_bb (HV.out.symm) HOK.out.symm, HB3.out⟩
  · have HOK : Hid (okPF a b zs is zq = true) := hide (by unfold okPF; rw [h1, h2]; rfl)
    have hw2 := h1
    unfold okMos wallB at hw2; simp only [Bool.and_eq_true] at hw2
    have b1 := inB_iff.1 hw2.1.1.1.1
    have b2 := inB_iff.1 hw2.1.1.1.2
    have HG := hide (good_of hw2.1.1.2)
    clear hw2
    have HV : Hid (pfV a b zs is zq = decide (q = m)) := hide (by unfold pfV; rw [HOK.out, h3, h4, HZQ.out, HZI.out]; rfl)
    have H1 := hide h1
    have H2 := hide h2
    have H3 := hide h3
    have H4 := hide h4
    clear h1 h2 h3 h4
    go_enter Try.func27, Try.ntmps27
    go_wp2_with fail
    refine (IsMosaic_any _ _ ao n c zs io m d is _ HZ.out hn HR.out HZI.out hm HRI.out).mono ?_
    rintro ex w1 ⟨rfl, hb⟩
    have HB1 := hide hb
    have HR1 := hide (rd_step HR.out hb)
    have HRQ1 := hide (rd_step HRQ.out hb)
    clear hb
    rw [H1.out]
    rw [H3.out]
    go_wp2_with fail
    refine (areWallSquares_any _ _ b1 b2 _ q e zq _ HZQ.out hq HRQ1.out).mono ?_
    rintro ex w2 ⟨rfl, hb⟩
    have HB2 := hide (bl_step HB1.out hb)
    have HR2 := hide (rd_step HR1.out hb)
    have HRQ2 := hide (rd_step HRQ1.out hb)
    clear hb
    rw [H2.out]
    go_wp2_with fail
    refine (lonely_any _ n c zs _ q e zq _ HZ.out hn HR2.out HZQ.out hq HRQ2.out HG.out).mono ?_
    rintro ex w3 ⟨rfl, hb⟩
    have HB3 := hide (bl_step HB2.out hb)
    clear hb
    rw [H4.out]
    go_wp2
    go_ret2
    exact ⟨ret_bb (by rw [HV.out]; first | rfl | simp | (rw [Bool.eq_iff_iff]; simp; omega)) HOK.out.symm, HB3.out⟩

set_option maxRecDepth 100000 in
set_option maxHeartbeats 1000000 in
theorem sProvesFewest_any (a b : Int) (ao : Option Addr) (n c : Nat) (zs : List Cv) (io : Option Addr) (m d : Nat) (is : List Int) (qo : Option Addr) (q e : Nat) (zq : List Ar2) (w : World) (hz : zs.length = n) (hn : n ≤ 1048576) (hr : Rd encCv 6 w.heap.size w ao zs) (hzi : is.length = m) (hm : m ≤ 1048576) (hri : Rd encI 1 w.heap.size w io is) (hzq : zq.length = q) (hq : q ≤ 1048576) (hrq : Rd encAr2 2 w.heap.size w qo zq) :
    Calls Try.prog 26 #[.int .i64 a, .int .i64 b, .slice ao n c, .slice io m d, .slice qo q e] w fun ex w' => ex = .returned (.tuple #[.bool (pfV a b zs is zq), .bool (okPF a b zs is zq)]) ∧ Below w.heap.size w w' := by
  have HS := hide (l12Some_any ao n c zs io m d is w hz hn hr hzi hm hri)
  have HZ := hide hz
  have HR := hide hr
  have HZI := hide hzi
  have HRI := hide hri
  clear hz hr hzi hri
  have HZQ := hide hzq
  have HRQ := hide hrq
  clear hzq hrq
  rcases first3 (wallB a b zs) (frB zs is) (sqB a b zq) with h1 | ⟨h1, h2⟩ | ⟨h1, h2, h3⟩ | ⟨h1, h2, h3⟩
  · have HOK : Hid (okPF a b zs is zq = false) := hide (by unfold okPF; rw [okMos_fr, h1]; rfl)
    have H1 := hide h1
    clear h1
    go_enter Try.func26, Try.ntmps26
    go_wp2_with fail
    refine HS.out.mono ?_
    rintro ex w1 ⟨v, rfl, ho, hb⟩
    have HB1 := hide hb
    have HR1 := hide (rd_step HR.out hb)
    have HRQ1 := hide (rd_step HRQ.out hb)
    clear hb ho HS
    go_wp2_with fail
    refine (l12Wall_any _ _ _ n c zs _ HZ.out hn HR1.out).mono ?_
    rintro ex w2 ⟨rfl, hb⟩
    have HB2 := hide (bl_step HB1.out hb)
    have HR2 := hide (rd_step HR1.out hb)
    have HRQ2 := hide (rd_step HRQ1.out hb)
    clear hb
    rw [H1.out]
    go_wp2
    go_ret2
    exact ⟨ret_bb (by unfold pfV; rw [HOK.out]; rfl) HOK.out.symm, HB2.out⟩
  · have HOK : Hid (okPF a b zs is zq = false) := hide (by unfold okPF; rw [okMos_fr, h1, h2]; rfl)
    have HFR : Hid ((foundB zs is && risB is) = false) := hide h2
    have H1 := hide h1
    have H2 := hide h2
    clear h1 h2
    go_enter Try.func26, Try.ntmps26
    go_wp2_with fail
    refine HS.out.mono ?_
    rintro ex w1 ⟨v, rfl, ho, hb⟩
    have HB1 := hide hb
    have HR1 := hide (rd_step HR.out hb)
    have HRQ1 := hide (rd_step HRQ.out hb)
    clear hb ho HS
    rw [HFR.out]
    go_wp2_with fail
    refine (l12Wall_any _ _ _ n c zs _ HZ.out hn HR1.out).mono ?_
    rintro ex w2 ⟨rfl, hb⟩
    have HB2 := hide (bl_step HB1.out hb)
    have HR2 := hide (rd_step HR1.out hb)
    have HRQ2 := hide (rd_step HRQ1.out hb)
    clear hb
    rw [H1.out]
    go_wp2
    go_ret2
    exact ⟨ret_bb (by unfold pfV; rw [HOK.out]; rfl) HOK.out.symm, HB2.out⟩
  · have HOK : Hid (okPF a b zs is zq = false) := hide (by unfold okPF; rw [okMos_fr, h1, h2, h3]; rfl)
    have HFR : Hid ((foundB zs is && risB is) = true) := hide h2
    have H1 := hide h1
    have H2 := hide h2
    have H3 := hide h3
    clear h1 h2 h3
    go_enter Try.func26, Try.ntmps26
    go_wp2_with fail
    refine HS.out.mono ?_
    rintro ex w1 ⟨v, rfl, ho, hb⟩
    have HB1 := hide hb
    have HR1 := hide (rd_step HR.out hb)
    have HRQ1 := hide (rd_step HRQ.out hb)
    clear hb ho HS
    rw [HFR.out]
    go_wp2_with fail
    refine (l12Wall_any _ _ _ n c zs _ HZ.out hn HR1.out).mono ?_
    rintro ex w2 ⟨rfl, hb⟩
    have HB2 := hide (bl_step HB1.out hb)
    have HR2 := hide (rd_step HR1.out hb)
    have HRQ2 := hide (rd_step HRQ1.out hb)
    clear hb
    rw [H1.out]
    go_wp2_with fail
    refine (l12Squares_any _ _ _ q e zq _ HZQ.out hq HRQ2.out).mono ?_
    rintro ex w3 ⟨rfl, hb⟩
    have HB3 := hide (bl_step HB2.out hb)
    have HR3 := hide (rd_step HR2.out hb)
    have HRQ3 := hide (rd_step HRQ2.out hb)
    clear hb
    rw [H3.out]
    go_wp2
    go_ret2
    exact ⟨ret_bb (by unfold pfV; rw [HOK.out]; rfl) HOK.out.symm, HB3.out⟩
  · have HOK : Hid (okPF a b zs is zq = true) := hide (by unfold okPF; rw [okMos_fr, h1, h2, h3]; rfl)
    have HFR : Hid ((foundB zs is && risB is) = true) := hide h2
    have hw2 := h1
    unfold wallB at hw2; simp only [Bool.and_eq_true] at hw2
    have b1 := inB_iff.1 hw2.1.1
    have b2 := inB_iff.1 hw2.1.2
    clear hw2
    have HL : Hid ((picks zs is).length = m) := hide (by rw [picks_len, HZI.out])
    have HM : Hid (mosV a b zs is = (cntX (picks zs is) b.toNat a.toNat == 0)) := hide (by unfold mosV; rw [okMos_fr, h1, h2]; rfl)
    have H1 := hide h1
    have H2 := hide h2
    have H3 := hide h3
    clear h1 h2 h3
    obtain ⟨wd, rfl⟩ : ∃ k : Nat, a = k := ⟨a.toNat, by omega⟩
    obtain ⟨hg, rfl⟩ : ∃ k : Nat, b = k := ⟨b.toNat, by omega⟩
    obtain ⟨X, hX⟩ : ∃ X, X = cntX (picks zs is) hg wd := ⟨_, rfl⟩
    have HM2 : Hid (mosV wd hg zs is = (X == 0)) := hide (by rw [HM.out, hX]; simp)
    have HX := hide hX
    clear hX HM
    by_cases hx0 : X = 0
    · have HM3 : Hid (mosV wd hg zs is = true) := hide (by rw [HM2.out, hx0]; rfl)
      have HX0 := hide hx0
      clear hx0 HM2
      cases h5 : loneB zs zq
      · have HV : Hid (pfV wd hg zs is zq = false) := hide (by unfold pfV; rw [h5, Bool.and_false]; rfl)
        have H5 := hide h5
        clear h5
        go_enter Try.func26, Try.ntmps26
        go_wp2_with fail
        refine HS.out.mono ?_
        rintro ex w1 ⟨v, rfl, ho, hb⟩
        have HB1 := hide hb
        have HO1 := hide (show w1.ownsRow w.heap.size 60 6 v m ((picks zs is).flatMap encCv) from ho HFR.out)
        have HR1 := hide (rd_step HR.out hb)
        have HRQ1 := hide (rd_step HRQ.out hb)
        clear hb ho HS
        rw [HFR.out]
        go_wp2_with fail
        refine (l12Wall_any _ _ _ n c zs _ HZ.out hn HR1.out).mono ?_
        rintro ex w2 ⟨rfl, hb⟩
        have HB2 := hide (bl_step HB1.out hb)
        have HO2 := hide (own_step HO1.out hb)
        have HR2 := hide (rd_step HR1.out hb)
        have HRQ2 := hide (rd_step HRQ1.out hb)
        clear hb
        rw [H1.out]
        go_wp2_with fail
        refine (l12Squares_any _ _ _ q e zq _ HZQ.out hq HRQ2.out).mono ?_
        rintro ex w3 ⟨rfl, hb⟩
        have HB3 := hide (bl_step HB2.out hb)
        have HO3 := hide (own_step HO2.out hb)
        have HR3 := hide (rd_step HR2.out hb)
        have HRQ3 := hide (rd_step HRQ2.out hb)
        clear hb
        rw [H3.out]
        obtain ⟨ao2, c2, rfl, hc1, hc2, hrd⟩ := own_rd encCv_len HO3.out HL.out
        have HRD := hide hrd
        clear hrd hc1 hc2
        go_wp2_with fail
        refine (l12Bare_any wd hg (by omega) (by omega) ao2 m c2 (picks zs is) _ HL.out hm HRD.out).mono ?_
        rintro ex w4 ⟨rfl, hb⟩
        have HB4 := hide (bl_step HB3.out hb)
        have HR4 := hide (rd_step HR3.out hb)
        have HRQ4 := hide (rd_step HRQ3.out hb)
        clear hb
        rw [← HX.out]
        rw [HX0.out]
        go_wp2_with fail
        refine (l12Lonely_any _ n c zs _ q e zq _ HZ.out hn HR4.out HZQ.out hq HRQ4.out).mono ?_
        rintro ex w5 ⟨rfl, hb⟩
        have HB5 := hide (bl_step HB4.out hb)
        clear hb
        rw [H5.out]
        go_wp2
        go_ret2
        exact ⟨ret_bb (HV.out.symm) HOK.out.symm, HB5.out⟩
      · have HV : Hid (pfV wd hg zs is zq = decide (q = m)) := hide (by unfold pfV; rw [HOK.out, HM3.out, h5, HZQ.out, HZI.out]; rfl)
        have H5 := hide h5
        clear h5
        go_enter Try.func26, Try.ntmps26
        go_wp2_with fail
        refine HS.out.mono ?_
        rintro ex w1 ⟨v, rfl, ho, hb⟩
        have HB1 := hide hb
        have HO1 := hide (show w1.ownsRow w.heap.size 60 6 v m ((picks zs is).flatMap encCv) from ho HFR.out)
        have HR1 := hide (rd_step HR.out hb)
        have HRQ1 := hide (rd_step HRQ.out hb)
        clear hb ho HS
        rw [HFR.out]
        go_wp2_with fail
        refine (l12Wall_any _ _ _ n c zs _ HZ.out hn HR1.out).mono ?_
        rintro ex w2 ⟨rfl, hb⟩
        have HB2 := hide (bl_step HB1.out hb)
        have HO2 := hide (own_step HO1.out hb)
        have HR2 := hide (rd_step HR1.out hb)
        have HRQ2 := hide (rd_step HRQ1.out hb)
        clear hb
        rw [H1.out]
        go_wp2_with fail
        refine (l12Squares_any _ _ _ q e zq _ HZQ.out hq HRQ2.out).mono ?_
        rintro ex w3 ⟨rfl, hb⟩
        have HB3 := hide (bl_step HB2.out hb)
        have HO3 := hide (own_step HO2.out hb)
        have HR3 := hide (rd_step HR2.out hb)
        have HRQ3 := hide (rd_step HRQ2.out hb)
        clear hb
        rw [H3.out]
        obtain ⟨ao2, c2, rfl, hc1, hc2, hrd⟩ := own_rd encCv_len HO3.out HL.out
        have HRD := hide hrd
        clear hrd hc1 hc2
        go_wp2_with fail
        refine (l12Bare_any wd hg (by omega) (by omega) ao2 m c2 (picks zs is) _ HL.out hm HRD.out).mono ?_
        rintro ex w4 ⟨rfl, hb⟩
        have HB4 := hide (bl_step HB3.out hb)
        have HR4 := hide (rd_step HR3.out hb)
        have HRQ4 := hide (rd_step HRQ3.out hb)
        clear hb
        rw [← HX.out]
        rw [HX0.out]
        go_wp2_with fail
        refine (l12Lonely_any _ n c zs _ q e zq _ HZ.out hn HR4.out HZQ.out hq HRQ4.out).mono ?_
        rintro ex w5 ⟨rfl, hb⟩
        have HB5 := hide (bl_step HB4.out hb)
        clear hb
        rw [H5.out]
        go_wp2
        go_ret2
        exact ⟨ret_bb (by rw [HV.out]; first | rfl | simp | (rw [Bool.eq_iff_iff]; simp; omega)) HOK.out.symm, HB5.out⟩
    · have HV : Hid (pfV wd hg zs is zq = false) := hide (by unfold pfV; rw [HM2.out, beq_eq_false_iff_ne.2 hx0, Bool.and_false]; rfl)
      have hd1 : decide (X = 0) = false := by simp [hx0]
      have hd2 : (X == 0) = false := by simp [hx0]
      clear HM2
      go_enter Try.func26, Try.ntmps26
      go_wp2_with fail
      refine HS.out.mono ?_
      rintro ex w1 ⟨v, rfl, ho, hb⟩
      have HB1 := hide hb
      have HO1 := hide (show w1.ownsRow w.heap.size 60 6 v m ((picks zs is).flatMap encCv) from ho HFR.out)
      have HR1 := hide (rd_step HR.out hb)
      have HRQ1 := hide (rd_step HRQ.out hb)
      clear hb ho HS
      rw [HFR.out]
      go_wp2_with fail
      refine (l12Wall_any _ _ _ n c zs _ HZ.out hn HR1.out).mono ?_
      rintro ex w2 ⟨rfl, hb⟩
      have HB2 := hide (bl_step HB1.out hb)
      have HO2 := hide (own_step HO1.out hb)
      have HR2 := hide (rd_step HR1.out hb)
      have HRQ2 := hide (rd_step HRQ1.out hb)
      clear hb
      rw [H1.out]
      go_wp2_with fail
      refine (l12Squares_any _ _ _ q e zq _ HZQ.out hq HRQ2.out).mono ?_
      rintro ex w3 ⟨rfl, hb⟩
      have HB3 := hide (bl_step HB2.out hb)
      have HO3 := hide (own_step HO2.out hb)
      have HR3 := hide (rd_step HR2.out hb)
      have HRQ3 := hide (rd_step HRQ2.out hb)
      clear hb
      rw [H3.out]
      obtain ⟨ao2, c2, rfl, hc1, hc2, hrd⟩ := own_rd encCv_len HO3.out HL.out
      have HRD := hide hrd
      clear hrd hc1 hc2
      go_wp2_with fail
      refine (l12Bare_any wd hg (by omega) (by omega) ao2 m c2 (picks zs is) _ HL.out hm HRD.out).mono ?_
      rintro ex w4 ⟨rfl, hb⟩
      have HB4 := hide (bl_step HB3.out hb)
      have HR4 := hide (rd_step HR3.out hb)
      have HRQ4 := hide (rd_step HRQ3.out hb)
      clear hb
      rw [← HX.out]
      go_wp2
      go_ret2
      exact ⟨ret_bb (HV.out.symm) HOK.out.symm, HB4.out⟩

end Go.Proofs.Ytpdfbijfklmonaa
