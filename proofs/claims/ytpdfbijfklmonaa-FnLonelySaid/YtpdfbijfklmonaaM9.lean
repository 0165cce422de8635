/- IsMosaic and its reference. -/
import Derived.Test.YtpdfbijfklmonaaM7
import Derived.Test.YtpdfbijfklmonaaM6
namespace Go.Proofs.Ytpdfbijfklmonaa
open Go.RowKit
set_option linter.unusedVariables false
set_option linter.unusedSimpArgs false

def okMos (a b : Int) (zs : List Cv) (is : List Int) : Bool := wallB a b zs && foundB zs is && risB is
def mosV (a b : Int) (zs : List Cv) (is : List Int) : Bool := okMos a b zs is && (cntX (picks zs is) b.toNat a.toNat == 0)

set_option maxRecDepth 100000 in
set_option maxHeartbeats 1000000 in
theorem IsMosaic_any (a b : Int) (ao : Option Addr) (n c : Nat) (zs : List Cv) (io : Option Addr) (m d : Nat) (is : List Int) (w : World) (hz : zs.length = n) (hn : n ≤ 1048576) (hr : Rd encCv 6 w.heap.size w ao zs) (hzi : is.length = m) (hm : m ≤ 1048576) (hri : Rd encI 1 w.heap.size w io is) :
    Calls Try.prog 19 #[.int .i64 a, .int .i64 b, .slice ao n c, .slice io m d] w fun e w' => e = .returned (.tuple #[.bool (mosV a b zs is), .bool (okMos a b zs is)]) ∧ Below w.heap.size w w' := by
  have HS := hide (some_any ao n c zs io m d is w hz hn hr hzi hm hri)
  have HZ := hide hz
  have HR := hide hr
  have HZI := hide hzi
  have HRI := hide hri
  clear hz hr hzi hri
  rcases first3 (wallB a b zs) (foundB zs is) (risB is) with h1 | ⟨h1, h2⟩ | ⟨h1, h2, h3⟩ | ⟨h1, h2, h3⟩
  · have HOK : Hid (okMos a b zs is = false) := hide (by unfold okMos; rw [h1]; rfl)
    have H1 := hide h1
    clear h1
    go_enter Try.func19, Try.ntmps19
    go_wp2_with fail
    refine HS.out.mono ?_
    rintro e w1 ⟨v, rfl, ho, hb⟩
    have HB1 := hide hb
    have HO1 := hide ho
    have HRW := hide (rd_step HR.out hb)
    have HRI1 := hide (rd_step HRI.out hb)
    clear hb ho HS
    go_wp2_with fail
    refine (isWall_any a b ao n c zs _ HZ.out hn HRW.out).mono ?_
    rintro e w2 ⟨rfl, hb⟩
    have HB2 := hide (bl_step HB1.out hb)
    have HRI2 := hide (rd_step HRI1.out hb)
    have HO2 := hide hb
    clear hb
    rw [H1.out]
    go_wp2
    go_ret2
    exact ⟨ret_bb (by unfold mosV; rw [HOK.out]; rfl) HOK.out.symm, HB2.out⟩
  · have HOK : Hid (okMos a b zs is = false) := hide (by unfold okMos; rw [h1, h2]; rfl)
    have H1 := hide h1
    have H2 := hide h2
    clear h1 h2
    go_enter Try.func19, Try.ntmps19
    go_wp2_with fail
    refine HS.out.mono ?_
    rintro e w1 ⟨v, rfl, ho, hb⟩
    have HB1 := hide hb
    have HO1 := hide ho
    have HRW := hide (rd_step HR.out hb)
    have HRI1 := hide (rd_step HRI.out hb)
    clear hb ho HS
    rw [H2.out]
    go_wp2_with fail
    refine (isWall_any a b ao n c zs _ HZ.out hn HRW.out).mono ?_
    rintro e w2 ⟨rfl, hb⟩
    have HB2 := hide (bl_step HB1.out hb)
    have HRI2 := hide (rd_step HRI1.out hb)
    have HO2 := hide hb
    clear hb
    rw [H1.out]
    go_wp2
    go_ret2
    exact ⟨ret_bb (by unfold mosV; rw [HOK.out]; rfl) HOK.out.symm, HB2.out⟩
  · have HOK : Hid (okMos a b zs is = false) := hide (by unfold okMos; rw [h1, h2, h3]; rfl)
    have H1 := hide h1
    have H2 := hide h2
    have H3 := hide h3
    clear h1 h2 h3
    go_enter Try.func19, Try.ntmps19
    go_wp2_with fail
    refine HS.out.mono ?_
    rintro e w1 ⟨v, rfl, ho, hb⟩
    have HB1 := hide hb
    have HO1 := hide ho
    have HRW := hide (rd_step HR.out hb)
    have HRI1 := hide (rd_step HRI.out hb)
    clear hb ho HS
    rw [H2.out]
    go_wp2_with fail
    refine (isWall_any a b ao n c zs _ HZ.out hn HRW.out).mono ?_
    rintro e w2 ⟨rfl, hb⟩
    have HB2 := hide (bl_step HB1.out hb)
    have HRI2 := hide (rd_step HRI1.out hb)
    have HO2 := hide hb
    clear hb
    rw [H1.out]
    go_wp2_with fail
    refine (isRising_any io m d is _ HZI.out hm HRI2.out).mono ?_
    rintro e w3 ⟨rfl, hb⟩
    have HB3 := hide (bl_step HB2.out hb)
    have hb3 := bl_step HO2.out hb
    have HO3 := hide hb3
    clear hb hb3
    rw [H3.out]
    go_wp2
    go_ret2
    exact ⟨ret_bb (by unfold mosV; rw [HOK.out]; rfl) HOK.out.symm, HB3.out⟩
  · have HOK : Hid (okMos a b zs is = true) := hide (by unfold okMos; rw [h1, h2, h3]; rfl)
    have H1 := hide h1
    have H2 := hide h2
    have H3 := hide h3
    have hw2 := h1
    unfold wallB at hw2; simp only [Bool.and_eq_true] at hw2
    have b1 := inB_iff.1 hw2.1.1
    have b2 := inB_iff.1 hw2.1.2
    have HG := hide (good_picks (good_of hw2.2) h2)
    have HL : Hid ((picks zs is).length = m) := hide (by rw [picks_len, HZI.out])
    have HV : Hid (mosV a b zs is = (cntX (picks zs is) b.toNat a.toNat == 0)) := hide (by unfold mosV; rw [HOK.out]; rfl)
    have HFR : Hid ((foundB zs is && risB is) = true) := hide (by rw [h2, h3]; rfl)
    have HSM : Hid (someL zs is = picks zs is) := hide (by unfold someL; rw [h2]; rfl)
    clear h1 h2 h3 hw2
    obtain ⟨wd, rfl⟩ : ∃ k : Nat, a = k := ⟨a.toNat, by omega⟩
    obtain ⟨hg, rfl⟩ : ∃ k : Nat, b = k := ⟨b.toNat, by omega⟩
    go_enter Try.func19, Try.ntmps19
    go_wp2_with fail
    refine HS.out.mono ?_
    rintro e w1 ⟨v, rfl, ho, hb⟩
    have HB1 := hide hb
    have HO1 := hide (show w1.ownsRow w.heap.size 60 6 v m ((picks zs is).flatMap encCv) from by rw [HSM.out, HL.out] at ho; exact ho)
    have HRW := hide (rd_step HR.out hb)
    have HRI1 := hide (rd_step HRI.out hb)
    clear hb ho HS
    rw [H2.out]
    go_wp2_with fail
    refine (isWall_any _ _ ao n c zs _ HZ.out hn HRW.out).mono ?_
    rintro e w2 ⟨rfl, hb⟩
    have HB2 := hide (bl_step HB1.out hb)
    have HRI2 := hide (rd_step HRI1.out hb)
    have HO2 := hide (own_step HO1.out hb)
    clear hb
    rw [H1.out]
    go_wp2_with fail
    refine (isRising_any io m d is _ HZI.out hm HRI2.out).mono ?_
    rintro e w3 ⟨rfl, hb⟩
    have HB3 := hide (bl_step HB2.out hb)
    have HO3 := hide (own_step HO2.out hb)
    clear hb
    rw [H3.out]
    obtain ⟨ao2, c2, rfl, hc1, hc2, hrd⟩ := own_rd encCv_len HO3.out HL.out
    have HRD := hide hrd
    clear hrd hc1 hc2
    go_wp2_with fail
    refine (bare_any wd hg (by omega) (by omega) ao2 m c2 (picks zs is) _ HL.out hm HRD.out HG.out).mono ?_
    rintro e w4 ⟨rfl, hb⟩
    have HB4 := hide (bl_step HB3.out hb)
    clear hb
    go_wp2
    go_ret2
    exact ⟨ret_bb (by rw [HV.out]; first | rfl | simp) HOK.out.symm, HB4.out⟩

set_option maxRecDepth 100000 in
set_option maxHeartbeats 1000000 in
theorem sIsMosaic_any (a b : Int) (ao : Option Addr) (n c : Nat) (zs : List Cv) (io : Option Addr) (m d : Nat) (is : List Int) (w : World) (hz : zs.length = n) (hn : n ≤ 1048576) (hr : Rd encCv 6 w.heap.size w ao zs) (hzi : is.length = m) (hm : m ≤ 1048576) (hri : Rd encI 1 w.heap.size w io is) :
    Calls Try.prog 17 #[.int .i64 a, .int .i64 b, .slice ao n c, .slice io m d] w fun e w' => e = .returned (.tuple #[.bool (mosV a b zs is), .bool (okMos a b zs is)]) ∧ Below w.heap.size w w' := by
  have HS := hide (l12Some_any ao n c zs io m d is w hz hn hr hzi hm hri)
  have HZ := hide hz
  have HR := hide hr
  have HZI := hide hzi
  have HRI := hide hri
  clear hz hr hzi hri
  rcases first3 (wallB a b zs) (foundB zs is) (risB is) with h1 | ⟨h1, h2⟩ | ⟨h1, h2, h3⟩ | ⟨h1, h2, h3⟩
  · have HOK : Hid (okMos a b zs is = false) := hide (by unfold okMos; rw [h1]; rfl)
    have H1 := hide h1
    clear h1
    go_enter Try.func17, Try.ntmps17
    go_wp2_with fail
    refine HS.out.mono ?_
    rintro e w1 ⟨v, rfl, ho, hb⟩
    have HB1 := hide hb
    have HO1 := hide ho
    have HRW := hide (rd_step HR.out hb)
    have HRI1 := hide (rd_step HRI.out hb)
    clear hb ho HS
    go_wp2_with fail
    refine (l12Wall_any a b ao n c zs _ HZ.out hn HRW.out).mono ?_
    rintro e w2 ⟨rfl, hb⟩
    have HB2 := hide (bl_step HB1.out hb)
    have HRI2 := hide (rd_step HRI1.out hb)
    have HO2 := hide hb
    clear hb
    rw [H1.out]
    go_wp2
    go_ret2
    exact ⟨ret_bb (by unfold mosV; rw [HOK.out]; rfl) HOK.out.symm, HB2.out⟩
  · have HOK : Hid (okMos a b zs is = false) := hide (by unfold okMos; rw [h1, h2]; rfl)
    have H1 := hide h1
    have H2 := hide h2
    clear h1 h2
    have HFR : Hid ((foundB zs is && risB is) = false) := hide (by rw [H2.out]; rfl)
    go_enter Try.func17, Try.ntmps17
    go_wp2_with fail
    refine HS.out.mono ?_
    rintro e w1 ⟨v, rfl, ho, hb⟩
    have HB1 := hide hb
    have HO1 := hide ho
    have HRW := hide (rd_step HR.out hb)
    have HRI1 := hide (rd_step HRI.out hb)
    clear hb ho HS
    rw [HFR.out]
    go_wp2_with fail
    refine (l12Wall_any a b ao n c zs _ HZ.out hn HRW.out).mono ?_
    rintro e w2 ⟨rfl, hb⟩
    have HB2 := hide (bl_step HB1.out hb)
    have HRI2 := hide (rd_step HRI1.out hb)
    have HO2 := hide hb
    clear hb
    rw [H1.out]
    go_wp2
    go_ret2
    exact ⟨ret_bb (by unfold mosV; rw [HOK.out]; rfl) HOK.out.symm, HB2.out⟩
  · have HOK : Hid (okMos a b zs is = false) := hide (by unfold okMos; rw [h1, h2, h3]; rfl)
    have H1 := hide h1
    have H2 := hide h2
    have H3 := hide h3
    clear h1 h2 h3
    have HFR : Hid ((foundB zs is && risB is) = false) := hide (by rw [H2.out, H3.out]; rfl)
    go_enter Try.func17, Try.ntmps17
    go_wp2_with fail
    refine HS.out.mono ?_
    rintro e w1 ⟨v, rfl, ho, hb⟩
    have HB1 := hide hb
    have HO1 := hide ho
    have HRW := hide (rd_step HR.out hb)
    have HRI1 := hide (rd_step HRI.out hb)
    clear hb ho HS
    rw [HFR.out]
    go_wp2_with fail
    refine (l12Wall_any a b ao n c zs _ HZ.out hn HRW.out).mono ?_
    rintro e w2 ⟨rfl, hb⟩
    have HB2 := hide (bl_step HB1.out hb)
    have HRI2 := hide (rd_step HRI1.out hb)
    have HO2 := hide hb
    clear hb
    rw [H1.out]
    go_wp2
    go_ret2
    exact ⟨ret_bb (by unfold mosV; rw [HOK.out]; rfl) HOK.out.symm, HB2.out⟩
  · have HOK : Hid (okMos a b zs is = true) := hide (by unfold okMos; rw [h1, h2, h3]; rfl)
    have H1 := hide h1
    have H2 := hide h2
    have H3 := hide h3
    have hw2 := h1
    unfold wallB at hw2; simp only [Bool.and_eq_true] at hw2
    have b1 := inB_iff.1 hw2.1.1
    have b2 := inB_iff.1 hw2.1.2
    have HG := hide (good_picks (good_of hw2.2) h2)
    have HL : Hid ((picks zs is).length = m) := hide (by rw [picks_len, HZI.out])
    have HV : Hid (mosV a b zs is = (cntX (picks zs is) b.toNat a.toNat == 0)) := hide (by unfold mosV; rw [HOK.out]; rfl)
    have HFR : Hid ((foundB zs is && risB is) = true) := hide (by rw [h2, h3]; rfl)
    have HSM : Hid (someL zs is = picks zs is) := hide (by unfold someL; rw [h2]; rfl)
    clear h1 h2 h3 hw2
    obtain ⟨wd, rfl⟩ : ∃ k : Nat, a = k := ⟨a.toNat, by omega⟩
    obtain ⟨hg, rfl⟩ : ∃ k : Nat, b = k := ⟨b.toNat, by omega⟩
    go_enter Try.func17, Try.ntmps17
    go_wp2_with fail
    refine HS.out.mono ?_
    rintro e w1 ⟨v, rfl, ho, hb⟩
    have HB1 := hide hb
    have HO1 := hide (show w1.ownsRow w.heap.size 60 6 v m ((picks zs is).flatMap encCv) from ho HFR.out)
    have HRW := hide (rd_step HR.out hb)
    have HRI1 := hide (rd_step HRI.out hb)
    clear hb ho HS
    rw [HFR.out]
    go_wp2_with fail
    refine (l12Wall_any _ _ ao n c zs _ HZ.out hn HRW.out).mono ?_
    rintro e w2 ⟨rfl, hb⟩
    have HB2 := hide (bl_step HB1.out hb)
    have HRI2 := hide (rd_step HRI1.out hb)
    have HO2 := hide (own_step HO1.out hb)
    clear hb
    rw [H1.out]
    obtain ⟨ao2, c2, rfl, hc1, hc2, hrd⟩ := own_rd encCv_len HO2.out HL.out
    have HRD := hide hrd
    clear hrd hc1 hc2
    go_wp2_with fail
    refine (l12Bare_any wd hg (by omega) (by omega) ao2 m c2 (picks zs is) _ HL.out hm HRD.out).mono ?_
    rintro e w4 ⟨rfl, hb⟩
    have HB4 := hide (bl_step HB2.out hb)
    clear hb
    go_wp2
    go_ret2
    exact ⟨ret_bb (by rw [HV.out]; first | rfl | simp) HOK.out.symm, HB4.out⟩

end Go.Proofs.Ytpdfbijfklmonaa
