/- BareSquares and its reference. -/
import Derived.Test.YtpdfbijfklmonaaM4
import Derived.Test.YtpdfbijfklmonaaM5
namespace Go.Proofs.Ytpdfbijfklmonaa
open Go.RowKit
set_option linter.unusedVariables false
set_option linter.unusedSimpArgs false

theorem BareSquares_any (a b : Int) (ao : Option Addr) (n c : Nat) (zs : List Cv) (w : World) (hz : zs.length = n) (hn : n ≤ 1048576) (hr : Rd encCv 6 w.heap.size w ao zs) :
    Calls Try.prog 42 #[.int .i64 a, .int .i64 b, .slice ao n c] w fun e w' => e = .returned (.tuple #[.int .i64 (bareV a b zs), .bool (wallB a b zs)]) ∧ Below w.heap.size w w' := by
  have HZ := hide hz
  have HR := hide hr
  have H := hide (isWall_any a b ao n c zs w hz hn hr)
  clear hz hr
  cases hw : wallB a b zs with
  | false =>
    have HW := hide hw
    clear hw
    go_enter Try.func42, Try.ntmps42
    go_wp2_with fail
    refine H.out.mono ?_
    rintro e w1 ⟨rfl, hb⟩
    rw [HW.out]
    go_wp2
    go_ret2
    exact ⟨ret_ib2 (by unfold bareV; rw [HW.out]; rfl) rfl, hb⟩
  | true =>
    have HW := hide hw
    have hw2 := hw
    unfold wallB at hw2; simp only [Bool.and_eq_true] at hw2
    have h1 := inB_iff.1 hw2.1.1
    have h2 := inB_iff.1 hw2.1.2
    have HG := hide (good_of hw2.2)
    clear hw hw2
    have HE := hide (show bareV a b zs = cntX zs b.toNat a.toNat from by unfold bareV; rw [HW.out]; rfl)
    obtain ⟨wd, rfl⟩ : ∃ k : Nat, a = k := ⟨a.toNat, by omega⟩
    obtain ⟨hg, rfl⟩ : ∃ k : Nat, b = k := ⟨b.toNat, by omega⟩
    go_enter Try.func42, Try.ntmps42
    go_wp2_with fail
    refine H.out.mono ?_
    rintro e w1 ⟨rfl, hb⟩
    rw [HW.out]
    have HB := hide hb
    clear hb
    go_wp2_with fail
    refine (bare_any wd hg (by omega) (by omega) ao n c zs _ HZ.out hn (rd_step HR.out HB.out) HG.out).mono ?_
    rintro e w2 ⟨rfl, hb⟩
    go_wp2
    go_ret2
    exact ⟨ret_ib2 (by rw [HE.out]; simp) rfl, bl_step HB.out hb⟩

theorem sBareSquares_any (a b : Int) (ao : Option Addr) (n c : Nat) (zs : List Cv) (w : World) (hz : zs.length = n) (hn : n ≤ 1048576) (hr : Rd encCv 6 w.heap.size w ao zs) :
    Calls Try.prog 43 #[.int .i64 a, .int .i64 b, .slice ao n c] w fun e w' => e = .returned (.tuple #[.int .i64 (bareV a b zs), .bool (wallB a b zs)]) ∧ Below w.heap.size w w' := by
  have HZ := hide hz
  have HR := hide hr
  have H := hide (l12Wall_any a b ao n c zs w hz hn hr)
  clear hz hr
  cases hw : wallB a b zs with
  | false =>
    have HW := hide hw
    clear hw
    go_enter Try.func43, Try.ntmps43
    go_wp2_with fail
    refine H.out.mono ?_
    rintro e w1 ⟨rfl, hb⟩
    rw [HW.out]
    go_wp2
    go_ret2
    exact ⟨ret_ib2 (by unfold bareV; rw [HW.out]; rfl) rfl, hb⟩
  | true =>
    have HW := hide hw
    have hw2 := hw
    unfold wallB at hw2; simp only [Bool.and_eq_true] at hw2
    have h1 := inB_iff.1 hw2.1.1
    have h2 := inB_iff.1 hw2.1.2
    have HG := hide (good_of hw2.2)
    clear hw hw2
    have HE := hide (show bareV a b zs = cntX zs b.toNat a.toNat from by unfold bareV; rw [HW.out]; rfl)
    obtain ⟨wd, rfl⟩ : ∃ k : Nat, a = k := ⟨a.toNat, by omega⟩
    obtain ⟨hg, rfl⟩ : ∃ k : Nat, b = k := ⟨b.toNat, by omega⟩
    go_enter Try.func43, Try.ntmps43
    go_wp2_with fail
    refine H.out.mono ?_
    rintro e w1 ⟨rfl, hb⟩
    rw [HW.out]
    have HB := hide hb
    clear hb
    go_wp2_with fail
    refine (l12Bare_any wd hg (by omega) (by omega) ao n c zs _ HZ.out hn (rd_step HR.out HB.out)).mono ?_
    rintro e w2 ⟨rfl, hb⟩
    go_wp2
    go_ret2
    exact ⟨ret_ib2 (by rw [HE.out]; simp) rfl, bl_step HB.out hb⟩

end Go.Proofs.Ytpdfbijfklmonaa
