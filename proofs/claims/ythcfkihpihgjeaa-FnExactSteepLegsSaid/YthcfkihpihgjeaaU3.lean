/- IsLand: the reference. -/
import Derived.Test.YthcfkihpihgjeaaU1
namespace Go.Proofs.Ythcfkihpihgjeaa
open Go.RowKit
set_option linter.unusedVariables false
set_option linter.unusedSimpArgs false

theorem okBar_no {wd hg : Int} {x : Ar4} (h : x.a < 0 ∨ x.c < x.a ∨ wd ≤ x.c ∨ x.b < 0 ∨ x.d < x.b ∨ hg ≤ x.d) : okBar wd hg x = false := by
  rw [Bool.eq_false_iff]; intro h'
  unfold okBar at h'; simp only [Bool.and_eq_true, decide_eq_true_eq, inB_iff] at h'; omega
theorem okBar_yes {wd hg : Int} {x : Ar4} (h : 0 ≤ x.a ∧ x.a ≤ x.c ∧ x.c < wd ∧ 0 ≤ x.b ∧ x.b ≤ x.d ∧ x.d < hg) : okBar wd hg x = true := by
  unfold okBar; simp only [Bool.and_eq_true, decide_eq_true_eq, inB_iff]; omega
set_option maxRecDepth 100000 in
set_option maxHeartbeats 2000000 in
theorem l16Good_any (wd hg st : Int) (ao : Option Addr) (n c : Nat) (zs : List Ar4) (w : World) (hz : zs.length = n) (hn : n ≤ 1048576) (hr : Rd encAr4 4 w.heap.size w ao zs) :
    Calls Try.prog 50 #[.agg #[.int .i64 wd, .int .i64 hg, .slice ao n c, .int .i64 st]] w fun e w' => e = .returned (.bool (landB wd hg st zs)) ∧ Below w.heap.size w w' := by
  have HZ := hide hz
  have HR := hide hr
  obtain ⟨V, hV⟩ : ∃ V, V = w.alloc (.cells #[.int .i64 wd, .int .i64 hg, .slice ao n c, .int .i64 st] 33) := ⟨_, rfl⟩
  have HBV : Hid (Below w.heap.size w V) := hide (by rw [hV]; exact (Below.refl _ _).alloc (Nat.le_refl _) _)
  have g0 : w.heap.size < V.heap.size := by rw [hV]; simp
  have e0 := hide (show V.cell? ⟨w.heap.size, 0, none⟩ = some (.int .i64 wd) from by rw [hV]; simp)
  have e1 := hide (show V.cell? ⟨w.heap.size, 1, none⟩ = some (.int .i64 hg) from by rw [hV]; simp)
  have e2 := hide (show V.cell? ⟨w.heap.size, 2, none⟩ = some (.slice ao n c) from by rw [hV]; simp)
  have e3 := hide (show V.cell? ⟨w.heap.size, 3, none⟩ = some (.int .i64 st) from by rw [hV]; simp)
  have HW := hide hV
  clear hz hr hV
  go_enter Try.func50, Try.ntmps50
  go_wp2
  rw [← HW.out]
  go_loopg [3] n (fun gk i wr => ∃ k : Nat, k ≤ n ∧ n - k ≤ gk ∧ i = .int .i64 k ∧ Aside (Below V.heap.size V wr) ∧ Aside (∀ j, j < k → okBar wd hg zs[j]! = true))
  case atStart => exact ⟨0, Nat.zero_le _, by omega, rfl, Below.refl _ _, fun j hj => absurd hj (Nat.not_lt_zero _)⟩
  case round =>
    obtain ⟨k, hk, hgk, rfl, BW, A⟩ := hrel
    have k0 := (BW.out.cell (p := ⟨w.heap.size, 0, none⟩) g0).trans e0.out
    have k1 := (BW.out.cell (p := ⟨w.heap.size, 1, none⟩) g0).trans e1.out
    have k2 := (BW.out.cell (p := ⟨w.heap.size, 2, none⟩) g0).trans e2.out
    have k3 := (BW.out.cell (p := ⟨w.heap.size, 3, none⟩) g0).trans e3.out
    have gx : w.heap.size < wr.heap.size := Nat.lt_of_lt_of_le g0 BW.out.size
    by_cases hlt : k < n
    · have hlti : (k : Int) < (n : Int) := by omega
      obtain ⟨b, off, rfl, hb1, hat⟩ := rdAr4 HR.out (by rw [HZ.out]; omega)
      obtain ⟨x, hx, hxc⟩ := hat k (by rw [HZ.out]; exact hlt)
      have HX := hide (getB hx)
      obtain ⟨hbr, c0, c1, c2, c3⟩ := hxc wr (HBV.out.trans (BW.out.mono HBV.out.size))
      clear hx hxc hat
      have h6 : x.a < 0 ∨ (¬ x.a < 0 ∧ x.c < x.a) ∨ (¬ x.a < 0 ∧ ¬ x.c < x.a ∧ wd ≤ x.c) ∨ (¬ x.a < 0 ∧ ¬ x.c < x.a ∧ ¬ wd ≤ x.c ∧ x.b < 0) ∨ (¬ x.a < 0 ∧ ¬ x.c < x.a ∧ ¬ wd ≤ x.c ∧ ¬ x.b < 0 ∧ x.d < x.b) ∨
          (¬ x.a < 0 ∧ ¬ x.c < x.a ∧ ¬ wd ≤ x.c ∧ ¬ x.b < 0 ∧ ¬ x.d < x.b ∧ hg ≤ x.d) ∨ (¬ x.a < 0 ∧ ¬ x.c < x.a ∧ ¬ wd ≤ x.c ∧ ¬ x.b < 0 ∧ ¬ x.d < x.b ∧ ¬ hg ≤ x.d) := by omega
      rcases h6 with s1 | ⟨s1, s2⟩ | ⟨s1, s2, s3⟩ | ⟨s1, s2, s3, s4⟩ | ⟨s1, s2, s3, s4, s5⟩ | ⟨s1, s2, s3, s4, s5, s6⟩ | ⟨s1, s2, s3, s4, s5, s6⟩
      iterate 6
        · have HF := hide (land_bad (wd := wd) (hg := hg) (st := st) HZ.out hlt HX.out (okBar_no (by omega)))
          go_wp2
          go_ret
          first
            | exact ⟨ret_bool HF.out.symm, HBV.out.trans ((BW.out.alloc BW.out.size _).mono HBV.out.size)⟩
            | exact ⟨ret_bool (by rw [HF.out, decide_eq_false_iff_not]; omega), HBV.out.trans ((BW.out.alloc BW.out.size _).mono HBV.out.size)⟩
            | exact ⟨ret_bool (by rw [HF.out, decide_eq_true_eq]; omega), HBV.out.trans ((BW.out.alloc BW.out.size _).mono HBV.out.size)⟩
      · have HOK : Hid (okBar wd hg zs[k]! = true) := hide (by rw [HX.out]; exact okBar_yes (by omega))
        go_wp2
        go_roundg (n - (k + 1))
        case measure => omega
        case rel => exact ⟨k + 1, by omega, by omega, by go_num, BW.out.alloc BW.out.size _, upto_succ A.out HOK.out⟩
    · have hge : ¬ (k : Int) < (n : Int) := by omega
      have HE := hide (land_end (st := st) HZ.out A.out (by omega : n ≤ k))
      rcases first4 (inB wd 1 2000) (inB hg 1 2000) (inB st 1 100) (decide (n ≤ 10)) with h1 | ⟨h1, h2⟩ | ⟨h1, h2, h3⟩ | ⟨h1, h2, h3, h4⟩ | ⟨h1, h2, h3, h4⟩
      iterate 4
        · have HF : Hid (landB wd hg st zs = false) := hide (by rw [HE.out]; simp [*])
          try (have h4' : ¬ (n : Int) ≤ 10 := by simp at h4; omega)
          try (have h4' : (n : Int) ≤ 10 := by simp at h4; omega)
          go_wp2_with (go_at_call 40; refine (l1In_any _ _ _ _).mono ?_; rintro e w' ⟨rfl, rfl⟩)
          go_ret
          first
            | exact ⟨ret_bool HF.out.symm, HBV.out.trans (BW.out.mono HBV.out.size)⟩
            | exact ⟨ret_bool (by rw [HF.out, decide_eq_false_iff_not]; omega), HBV.out.trans (BW.out.mono HBV.out.size)⟩
            | exact ⟨ret_bool (by rw [HF.out, decide_eq_true_eq]; omega), HBV.out.trans (BW.out.mono HBV.out.size)⟩
      · have HF : Hid (landB wd hg st zs = true) := hide (by rw [HE.out]; simp [*])
        try (have h4' : ¬ (n : Int) ≤ 10 := by simp at h4; omega)
        try (have h4' : (n : Int) ≤ 10 := by simp at h4; omega)
        go_wp2_with (go_at_call 40; refine (l1In_any _ _ _ _).mono ?_; rintro e w' ⟨rfl, rfl⟩)
        go_ret
        first
          | exact ⟨ret_bool HF.out.symm, HBV.out.trans (BW.out.mono HBV.out.size)⟩
          | exact ⟨ret_bool (by rw [HF.out, decide_eq_false_iff_not]; omega), HBV.out.trans (BW.out.mono HBV.out.size)⟩
          | exact ⟨ret_bool (by rw [HF.out, decide_eq_true_eq]; omega), HBV.out.trans (BW.out.mono HBV.out.size)⟩


theorem sIsLand_any (wd hg st : Int) (ao : Option Addr) (n c : Nat) (zs : List Ar4) (w : World) (hz : zs.length = n) (hn : n ≤ 1048576) (hr : Rd encAr4 4 w.heap.size w ao zs) :
    Calls Try.prog 13 #[.agg #[.int .i64 wd, .int .i64 hg, .slice ao n c, .int .i64 st]] w fun e w' => e = .returned (.bool (landB wd hg st zs)) ∧ Below w.heap.size w w' := by
  have HC := hide (l16Good_any wd hg st ao n c zs (w.alloc (.cells #[.int .i64 wd, .int .i64 hg, .slice ao n c, .int .i64 st] 33)) hz hn (rd_step hr ((Below.refl _ _).alloc (Nat.le_refl _) _)))
  clear hz hr
  go_enter Try.func13, Try.ntmps13
  go_wp2_with fail
  refine HC.out.mono ?_
  rintro e w2 ⟨rfl, hb⟩
  go_wp2
  go_ret
  exact ⟨rfl, bl_step ((Below.refl _ _).alloc (Nat.le_refl _) _) hb⟩

end Go.Proofs.Ythcfkihpihgjeaa
