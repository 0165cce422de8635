/- FewestCovers, CheapestCovers: the reference. -/
import Derived.Test.YtpdfbijfklmonaaM26
namespace Go.Proofs.Ytpdfbijfklmonaa
open Go.RowKit
set_option linter.unusedVariables false
set_option linter.unusedSimpArgs false

set_option maxRecDepth 100000 in
set_option maxHeartbeats 1000000 in
theorem sFewestCovers_any (a b : Int) (ao : Option Addr) (n c : Nat) (zs : List Cv) (w : World) (hz : zs.length = n) (hn : n ≤ 1048576) (hr : Rd encCv 6 w.heap.size w ao zs) :
    Calls Try.prog 33 #[.int .i64 a, .int .i64 b, .slice ao n c] w fun e w' => ∃ v, e = .returned (.tuple #[v, .bool (okFew a b zs)]) ∧ w'.ownsRow w.heap.size 3 1 v (fewV a b zs).length ((fewV a b zs).flatMap encI) ∧ Below w.heap.size w w' := by
  have HZ := hide hz
  have HR := hide hr
  clear hz hr
  cases h1 : wallB a b zs with
  | false =>
    have HOK : Hid (okFew a b zs = false) := hide (by unfold okFew; rw [h1]; rfl)
    have HC : Hid (fewV a b zs = []) := hide (by unfold fewV; rw [HOK.out]; rfl)
    have H1 := hide h1
    clear h1
    go_enter Try.func33, Try.ntmps33
    go_wp2_with fail
    refine (l12Wall_any _ _ _ n c zs _ HZ.out hn HR.out).mono ?_
    rintro e w1 ⟨rfl, hb⟩
    have HB1 := hide hb
    have HR1 := hide (rd_step HR.out hb)
    clear hb
    rw [H1.out]
    go_wp2
    go_ret2
    exact ⟨_, ret_vb' HOK.out.symm, by rw [HC.out]; exact World.ownsRow_made _ #[] 0 HB1.out.size (by simp [maxLen]) rfl, HB1.out.alloc HB1.out.size _⟩
  | true =>
    have hw2 := h1
    unfold wallB at hw2; simp only [Bool.and_eq_true] at hw2
    have b1 := inB_iff.1 hw2.1.1
    have b2 := inB_iff.1 hw2.1.2
    have HCV := hide hw2.2
    have HG := hide (good_of hw2.2)
    have h10 : n ≤ 10 := by have := covers_10 hw2.2; rw [HZ.out] at this; exact this
    have H1 := hide h1
    clear h1 hw2
    obtain ⟨wd, rfl⟩ : ∃ k : Nat, a = k := ⟨a.toNat, by omega⟩
    obtain ⟨hg, rfl⟩ : ∃ k : Nat, b = k := ⟨b.toNat, by omega⟩
    obtain ⟨X, hX⟩ : ∃ X, X = cntX zs hg wd := ⟨_, rfl⟩
    have hx1 : 0 ≤ X := by rw [hX]; exact cntX_nn _ _ _
    have HX := hide hX
    by_cases hx0 : X = 0
    · have HOK : Hid (okFew wd hg zs = true) := hide (by unfold okFew; rw [H1.out]; simp [← hX, hx0])
      have HC : Hid (fewV wd hg zs = (bestS false wd hg zs (2 ^ n)).map Cv.i) := hide (by unfold fewV; rw [HOK.out, HZ.out]; rfl)
      have HX0 := hide hx0
      clear hx0 hX
      go_enter Try.func33, Try.ntmps33
      go_wp2_with fail
      refine (l12Wall_any _ _ _ n c zs _ HZ.out hn HR.out).mono ?_
      rintro e w1 ⟨rfl, hb⟩
      have HB1 := hide hb
      have HR1 := hide (rd_step HR.out hb)
      clear hb
      rw [H1.out]
      go_wp2_with fail
      refine (l12Bare_any wd hg (by omega) (by omega) ao n c zs _ HZ.out hn HR1.out).mono ?_
      rintro e w2 ⟨rfl, hb⟩
      have HB2 := hide (bl_step HB1.out hb)
      have HR2 := hide (rd_step HR1.out hb)
      clear hb
      rw [← HX.out]
      rw [HX0.out]
      go_wp2_with fail
      refine (l12Best_any false wd hg (by omega) (by omega) ao n c zs _ HZ.out h10 HR2.out HCV.out).mono ?_
      rintro e w3 ⟨v, rfl, ho, hb⟩
      have HB3 := hide (bl_step HB2.out hb)
      have HO3 := hide (own_base ho HB2.out.size)
      clear hb ho
      go_wp2
      go_ret2
      exact ⟨_, ret_vb' HOK.out.symm, by rw [HC.out, List.length_map]; exact HO3.out, HB3.out⟩
    · have HOK : Hid (okFew wd hg zs = false) := hide (by unfold okFew; rw [H1.out]; simp [← hX, hx0])
      have HC : Hid (fewV wd hg zs = []) := hide (by unfold fewV; rw [HOK.out]; rfl)
      have hx2 : 0 < X := by omega
      clear hX
      go_enter Try.func33, Try.ntmps33
      go_wp2_with fail
      refine (l12Wall_any _ _ _ n c zs _ HZ.out hn HR.out).mono ?_
      rintro e w1 ⟨rfl, hb⟩
      have HB1 := hide hb
      have HR1 := hide (rd_step HR.out hb)
      clear hb
      rw [H1.out]
      go_wp2_with fail
      refine (l12Bare_any wd hg (by omega) (by omega) ao n c zs _ HZ.out hn HR1.out).mono ?_
      rintro e w2 ⟨rfl, hb⟩
      have HB2 := hide (bl_step HB1.out hb)
      have HR2 := hide (rd_step HR1.out hb)
      clear hb
      rw [← HX.out]
      go_wp2
      go_ret2
      exact ⟨_, ret_vb' HOK.out.symm, by rw [HC.out]; exact World.ownsRow_made _ #[] 0 HB2.out.size (by simp [maxLen]) rfl, HB2.out.alloc HB2.out.size _⟩

set_option maxRecDepth 100000 in
set_option maxHeartbeats 1000000 in
theorem sCheapestCovers_any (a b : Int) (ao : Option Addr) (n c : Nat) (zs : List Cv) (w : World) (hz : zs.length = n) (hn : n ≤ 1048576) (hr : Rd encCv 6 w.heap.size w ao zs) :
    Calls Try.prog 35 #[.int .i64 a, .int .i64 b, .slice ao n c] w fun e w' => ∃ v, e = .returned (.tuple #[v, .int .i64 (cheP a b zs), .bool (okFew a b zs)]) ∧ w'.ownsRow w.heap.size 3 1 v (cheV a b zs).length ((cheV a b zs).flatMap encI) ∧ Below w.heap.size w w' := by
  have HZ := hide hz
  have HR := hide hr
  clear hz hr
  cases h1 : wallB a b zs with
  | false =>
    have HOK : Hid (okFew a b zs = false) := hide (by unfold okFew; rw [h1]; rfl)
    have HC : Hid (cheV a b zs = []) := hide (by unfold cheV; rw [HOK.out]; rfl)
    have H1 := hide h1
    clear h1
    go_enter Try.func35, Try.ntmps35
    go_wp2_with fail
    refine (l12Wall_any _ _ _ n c zs _ HZ.out hn HR.out).mono ?_
    rintro e w1 ⟨rfl, hb⟩
    have HB1 := hide hb
    have HR1 := hide (rd_step HR.out hb)
    clear hb
    rw [H1.out]
    go_wp2
    go_ret3
    exact ⟨_, ret_vib' (by unfold cheP; rw [HOK.out]; rfl) HOK.out.symm, by rw [HC.out]; exact World.ownsRow_made _ #[] 0 HB1.out.size (by simp [maxLen]) rfl, HB1.out.alloc HB1.out.size _⟩
  | true =>
    have hw2 := h1
    unfold wallB at hw2; simp only [Bool.and_eq_true] at hw2
    have b1 := inB_iff.1 hw2.1.1
    have b2 := inB_iff.1 hw2.1.2
    have HCV := hide hw2.2
    have HG := hide (good_of hw2.2)
    have h10 : n ≤ 10 := by have := covers_10 hw2.2; rw [HZ.out] at this; exact this
    have H1 := hide h1
    clear h1 hw2
    obtain ⟨wd, rfl⟩ : ∃ k : Nat, a = k := ⟨a.toNat, by omega⟩
    obtain ⟨hg, rfl⟩ : ∃ k : Nat, b = k := ⟨b.toNat, by omega⟩
    obtain ⟨X, hX⟩ : ∃ X, X = cntX zs hg wd := ⟨_, rfl⟩
    have hx1 : 0 ≤ X := by rw [hX]; exact cntX_nn _ _ _
    have HX := hide hX
    by_cases hx0 : X = 0
    · have HOK : Hid (okFew wd hg zs = true) := hide (by unfold okFew; rw [H1.out]; simp [← hX, hx0])
      have HC : Hid (cheV wd hg zs = (bestS true wd hg zs (2 ^ n)).map Cv.i) := hide (by unfold cheV; rw [HOK.out, HZ.out]; rfl)
      have HSP : Hid (sumP (bestS true wd hg zs (2 ^ n)) = cheP wd hg zs) := hide (by unfold cheP; rw [HOK.out, HZ.out]; rfl)
      have HX0 := hide hx0
      clear hx0 hX
      go_enter Try.func35, Try.ntmps35
      go_wp2_with fail
      refine (l12Wall_any _ _ _ n c zs _ HZ.out hn HR.out).mono ?_
      rintro e w1 ⟨rfl, hb⟩
      have HB1 := hide hb
      have HR1 := hide (rd_step HR.out hb)
      clear hb
      rw [H1.out]
      go_wp2_with fail
      refine (l12Bare_any wd hg (by omega) (by omega) ao n c zs _ HZ.out hn HR1.out).mono ?_
      rintro e w2 ⟨rfl, hb⟩
      have HB2 := hide (bl_step HB1.out hb)
      have HR2 := hide (rd_step HR1.out hb)
      clear hb
      rw [← HX.out]
      rw [HX0.out]
      go_wp2_with fail
      refine (l12Best_any true wd hg (by omega) (by omega) ao n c zs _ HZ.out h10 HR2.out HCV.out).mono ?_
      rintro e w3 ⟨v, rfl, ho, hb⟩
      have HB3 := hide (bl_step HB2.out hb)
      have HO3 := hide (own_base ho HB2.out.size)
      clear hb ho
      rw [HSP.out]
      go_wp2
      go_ret3
      exact ⟨_, ret_vib' (rfl) HOK.out.symm, by rw [HC.out, List.length_map]; exact HO3.out, HB3.out⟩
    · have HOK : Hid (okFew wd hg zs = false) := hide (by unfold okFew; rw [H1.out]; simp [← hX, hx0])
      have HC : Hid (cheV wd hg zs = []) := hide (by unfold cheV; rw [HOK.out]; rfl)
      have hx2 : 0 < X := by omega
      clear hX
      go_enter Try.func35, Try.ntmps35
      go_wp2_with fail
      refine (l12Wall_any _ _ _ n c zs _ HZ.out hn HR.out).mono ?_
      rintro e w1 ⟨rfl, hb⟩
      have HB1 := hide hb
      have HR1 := hide (rd_step HR.out hb)
      clear hb
      rw [H1.out]
      go_wp2_with fail
      refine (l12Bare_any wd hg (by omega) (by omega) ao n c zs _ HZ.out hn HR1.out).mono ?_
      rintro e w2 ⟨rfl, hb⟩
      have HB2 := hide (bl_step HB1.out hb)
      have HR2 := hide (rd_step HR1.out hb)
      clear hb
      rw [← HX.out]
      go_wp2
      go_ret3
      exact ⟨_, ret_vib' (by unfold cheP; rw [HOK.out]; rfl) HOK.out.symm, by rw [HC.out]; exact World.ownsRow_made _ #[] 0 HB2.out.size (by simp [maxLen]) rfl, HB2.out.alloc HB2.out.size _⟩

end Go.Proofs.Ytpdfbijfklmonaa
