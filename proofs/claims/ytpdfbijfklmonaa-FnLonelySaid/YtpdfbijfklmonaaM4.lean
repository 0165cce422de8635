/- bare. -/
import Derived.Test.YtpdfbijfklmonaaM3
namespace Go.Proofs.Ytpdfbijfklmonaa
open Go.RowKit
set_option linter.unusedVariables false
set_option linter.unusedSimpArgs false

set_option maxRecDepth 100000 in
set_option maxHeartbeats 4000000 in
theorem bare_any (wd hg : Nat) (h10 : wd ≤ 10) (h20 : hg ≤ 10) (ao : Option Addr) (n c : Nat) (zs : List Cv) (w : World) (hz : zs.length = n) (hn : n ≤ 1048576) (hr : Rd encCv 6 w.heap.size w ao zs) (ok : goodAll zs) :
    Calls Try.prog 55 #[.int .i64 wd, .int .i64 hg, .slice ao n c] w fun e w' => e = .returned (.int .i64 (cntX zs hg wd)) ∧ Below w.heap.size w w' := by
  have HZ := hide hz
  have HR := hide hr
  have HOK := hide ok
  clear hz hr ok
  go_enter Try.func55, Try.ntmps55
  go_wp2
  go_loopg [7, 11] wd (fun gk cv i wr => ∃ k : Nat, k ≤ wd ∧ wd - k ≤ gk ∧ i = .int .i64 k ∧ cv = .int .i64 (cntX zs hg k) ∧ Aside (Below w.heap.size w wr))
  case atStart => exact ⟨0, Nat.zero_le _, by omega, rfl, rfl, Below.refl _ _⟩
  case round =>
    obtain ⟨k, hk, hgk, rfl, rfl, BW⟩ := hrel
    obtain ⟨v0, hv0⟩ : ∃ v0, v0 = wr := ⟨_, rfl⟩
    subst hv0
    by_cases hlt : k < wd
    · have hlti : (k : Int) < (wd : Int) := by omega
      have bx := cntX_bd zs h20 k
      go_wp2
      obtain ⟨W, hW⟩ : ∃ W, W = v0.alloc (.cells #[.int .i64 k] 3) := ⟨_, rfl⟩
      have HBW : Hid (Below w.heap.size w W) := hide (by rw [hW]; exact BW.out.alloc BW.out.size _)
      have g0 : v0.heap.size < W.heap.size := by rw [hW]; simp
      have e0 : W.cell? ⟨v0.heap.size, 0, none⟩ = some (.int .i64 k) := by rw [hW]; simp
      have HWW : Hid (Below v0.heap.size v0 W) := hide (by rw [hW]; exact (Below.refl _ _).alloc (Nat.le_refl _) _)
      have S0 : Hid (w.heap.size ≤ v0.heap.size) := hide BW.out.size
      rw [← hW]
      clear hW
      go_loopg [7, 15] hg (fun gj cv i w2 => ∃ j : Nat, j ≤ hg ∧ hg - j ≤ gj ∧ i = .int .i64 j ∧ cv = .int .i64 (cntX zs hg k + cntY zs k j) ∧ Aside (Below W.heap.size W w2))
      case atStart => exact ⟨0, Nat.zero_le _, by omega, rfl, by simp [cntY], Below.refl _ _⟩
      case round =>
        obtain ⟨j, hj, hgj, rfl, rfl, BV⟩ := hrel
        have by_ := cntY_bd zs k j
        by_cases hlj : j < hg
        · have hlji : (j : Int) < (hg : Int) := by omega
          go_wp2_with fail
          obtain ⟨V, hV⟩ : ∃ V, V = wr.alloc (.cells #[.int .i64 j] 3) := ⟨_, rfl⟩
          have HBV : Hid (Below W.heap.size W V) := hide (by rw [hV]; exact BV.out.alloc BV.out.size _)
          have f1 : V.cell? ⟨wr.heap.size, 0, none⟩ = some (.int .i64 j) := by rw [hV]; simp
          have q1 : wr.heap.size < V.heap.size := by rw [hV]; simp
          rw [← hV]
          clear hV
          have f0 : V.cell? ⟨v0.heap.size, 0, none⟩ = some (.int .i64 k) := (HBV.out.cell g0).trans e0
          have q0 : v0.heap.size < V.heap.size := Nat.lt_of_lt_of_le g0 HBV.out.size
          have BVw := hide (HBW.out.trans (HBV.out.mono HBW.out.size))
          have eg : ∀ args w, (callFunc 88 args).run Try.prog w = .ok (.enter 88 args) w := enters_at Try.func88 (by kernel_rfl) rfl
          have hp : ∀ (W' : World) (x : Cv), Below V.heap.size V W' → Calls Try.prog 88 (#[.agg #[.int .i64 x.i, .int .i64 x.w, .int .i64 x.s, .int .i64 x.e, .int .i64 x.n, .int .i64 x.p]] ++ #[.pointer (some ⟨v0.heap.size, 0, none⟩), .pointer (some ⟨wr.heap.size, 0, none⟩)]) W' fun e w' => e = .returned (.bool (showsI k j x)) ∧ Below W'.heap.size W' w' :=
            fun W' x hb => bare1_any ⟨v0.heap.size, 0, none⟩ ⟨wr.heap.size, 0, none⟩ k j x W' ((hb.cell (p := ⟨v0.heap.size, 0, none⟩) q0).trans f0) ((hb.cell (p := ⟨wr.heap.size, 0, none⟩) q1).trans f1) (Nat.lt_of_lt_of_le q0 hb.size) (Nat.lt_of_lt_of_le q1 hb.size)
          have HC := hide (ContainsFuncCover_any 88 #[.pointer (some ⟨v0.heap.size, 0, none⟩), .pointer (some ⟨wr.heap.size, 0, none⟩)] (showsI k j) eg ao n c zs V HZ.out hn (rd_step HR.out BVw.out) hp)
          clear hp
          refine HC.out.mono ?_
          rintro e w3 ⟨rfl, hb⟩
          rw [anyI_eq HOK.out]
          have HB3 := hide (HBV.out.trans (hb.mono HBV.out.size))
          clear hb eg
          cases hq : anyB zs k j with
          | true =>
            have HQ := hide (cntY_hit hq)
            clear hq
            go_wp2
            go_roundg (hg - (j + 1))
            case measure => omega
            case rel => exact ⟨j + 1, by omega, by omega, by go_num, by rw [HQ.out], HB3.out⟩
          | false =>
            have HQ := hide (cntY_miss hq)
            clear hq
            have k5 : IntKind.i64.wrap (cntX zs hg k + cntY zs k j + 1) = cntX zs hg k + cntY zs k j + 1 := IntWalk.i64_in _ (by omega)
            go_wp2
            go_roundg (hg - (j + 1))
            case measure => omega
            case rel => exact ⟨j + 1, by omega, by omega, by go_num, by rw [HQ.out, Int.add_assoc], HB3.out⟩
        · have hge : ¬ (j : Int) < (hg : Int) := by omega
          go_wp2
          go_roundg (wd - (k + 1))
          case measure => omega
          case rel =>
            obtain rfl : j = hg := by omega
            exact ⟨k + 1, by omega, by omega, by go_num, by rw [cntX_succ], HBW.out.trans (BV.out.mono HBW.out.size)⟩
    · have hge : ¬ (k : Int) < (wd : Int) := by omega
      go_wp2
      go_ret
      obtain rfl : k = wd := by omega
      exact ⟨rfl, BW.out⟩

end Go.Proofs.Ytpdfbijfklmonaa
