/- Squares and lonely: the reference. -/
import Derived.Test.YtpdfbijfklmonaaM13
namespace Go.Proofs.Ytpdfbijfklmonaa
open Go.RowKit
set_option linter.unusedVariables false
set_option linter.unusedSimpArgs false

theorem upto_succ' {p : Nat → Bool} {k : Nat} (h : ∀ j, j < k → p j = false) (hk : p k = false) : ∀ j, j < k + 1 → p j = false := fun j hj => by
  rcases Nat.lt_or_ge j k with h1 | h1
  · exact h j h1
  · have : j = k := by omega
    subst this; exact hk

set_option maxRecDepth 100000 in
set_option maxHeartbeats 2000000 in
theorem l12Squares_any (wd hg : Int) (qo : Option Addr) (m d : Nat) (zq : List Ar2) (w : World) (hzq : zq.length = m) (hm : m ≤ 1048576) (hrq : Rd encAr2 2 w.heap.size w qo zq) :
    Calls Try.prog 61 #[.int .i64 wd, .int .i64 hg, .slice qo m d] w fun e w' => e = .returned (.bool (sqB wd hg zq)) ∧ Below w.heap.size w w' := by
  have HZQ := hide hzq
  have HRQ := hide hrq
  clear hzq hrq
  go_enter Try.func61, Try.ntmps61
  go_wp2
  go_loopg [7, 8, 9] m (fun gk i _ _ wr => ∃ k : Nat, k ≤ m ∧ m - k ≤ gk ∧ i = .int .i64 k ∧ Aside (Below w.heap.size w wr) ∧ Aside (∀ j, j < k → stepQ wd hg zq j = true))
  case atStart => exact ⟨0, Nat.zero_le _, by omega, rfl, Below.refl _ _, fun j hj => absurd hj (Nat.not_lt_zero _)⟩
  case round =>
    obtain ⟨k, hk, hgk, rfl, BW, A⟩ := hrel
    by_cases hlt : k < m
    · have hlti : (k : Int) < (m : Int) := by omega
      have hk0i : (0 : Int) ≤ (k : Int) := by omega
      obtain ⟨b, off, rfl, hb1, hat⟩ := rdAr2 HRQ.out (by rw [HZQ.out]; omega)
      obtain ⟨x, hx, hxc⟩ := hat k (by rw [HZQ.out]; exact hlt)
      have HX := hide (getQ! hx)
      obtain ⟨hbr, c0, c1⟩ := hxc wr BW.out
      have HAT := hide hat
      clear hx hxc hat
      obtain ⟨W, hW⟩ : ∃ W, W = wr := ⟨_, rfl⟩
      subst hW
      go_wp2_with fail
      refine wp_region_held_drew (S := fun w' => w'.cell? ⟨b, off + k * 2, none⟩ = some (.int .i64 x.a) ∧ w'.cell? ⟨b, off + k * 2 + 1, none⟩ = some (.int .i64 x.b)) (by kernel_rfl) ⟨c0, c1⟩ (fun hHeld => ?_)
      refine held_take 0 16 ?vv1 rfl (by kernel_rfl) (by kernel_rfl) (by kernel_rfl) rfl (fun _ _ _ h => h) (by rfl) ?hy1 (by assumption) ?rest1
      case hy1 => (intro w hSw; (try dsimp only at hSw); go_simp; try with_reducible rfl)
      try simp only [Act.put, List.setIfInBounds_toArray, List.set_cons_zero, List.set_cons_succ]
      refine held_take 1 17 ?vv2 rfl (by kernel_rfl) (by kernel_rfl) (by kernel_rfl) rfl (fun _ _ _ h => h) (by rfl) ?hy2 (by assumption) ?rest2
      case hy2 => (intro w hSw; (try dsimp only at hSw); go_simp; try with_reducible rfl)
      try simp only [Act.put, List.setIfInBounds_toArray, List.set_cons_zero, List.set_cons_succ]
      refine held_take 2 18 ?vv3 rfl (by kernel_rfl) (by kernel_rfl) (by kernel_rfl) rfl (fun _ _ _ h => h) (by rfl) ?hy3 (by assumption) ?rest3
      case hy3 => (intro w hSw; (try dsimp only at hSw); go_simp; try with_reducible rfl)
      try simp only [Act.put, List.setIfInBounds_toArray, List.set_cons_zero, List.set_cons_succ]
      refine held_take 3 19 ?vv4 rfl (by kernel_rfl) (by kernel_rfl) (by kernel_rfl) rfl (fun _ _ _ h => h) (by rfl) ?hy4 (by assumption) ?rest4
      case hy4 => (intro w hSw; (try dsimp only at hSw); go_simp; try with_reducible rfl)
      try simp only [Act.put, List.setIfInBounds_toArray, List.set_cons_zero, List.set_cons_succ]
      refine held_take 4 20 ?vv5 rfl (by kernel_rfl) (by kernel_rfl) (by kernel_rfl) rfl (fun _ _ _ h => h) (by rfl) ?hy5 (by assumption) ?rest5
      case hy5 => (intro w hSw; (try dsimp only at hSw); go_simp; try with_reducible rfl)
      try simp only [Act.put, List.setIfInBounds_toArray, List.set_cons_zero, List.set_cons_succ]
      refine held_take 5 21 ?vv6 rfl (by kernel_rfl) (by kernel_rfl) (by kernel_rfl) rfl (fun _ _ _ h => h) (by rfl) ?hy6 (by assumption) ?rest6
      case hy6 => (intro w hSw; (try dsimp only at hSw); go_simp; try with_reducible rfl)
      try simp only [Act.put, List.setIfInBounds_toArray, List.set_cons_zero, List.set_cons_succ]
      refine held_take 6 22 ?vv7 rfl (by kernel_rfl) (by kernel_rfl) (by kernel_rfl) rfl (fun _ _ _ h => h) (by rfl) ?hy7 (by assumption) ?rest7
      case hy7 => (intro w hSw; (try dsimp only at hSw); go_simp; try with_reducible rfl)
      try simp only [Act.put, List.setIfInBounds_toArray, List.set_cons_zero, List.set_cons_succ]
      refine held_take 7 23 ?vv8 rfl (by kernel_rfl) (by kernel_rfl) (by kernel_rfl) rfl (fun _ _ _ h => h) (by rfl) ?hy8 (by assumption) ?rest8
      case hy8 => (intro w hSw; (try dsimp only at hSw); go_simp; try with_reducible rfl)
      try simp only [Act.put, List.setIfInBounds_toArray, List.set_cons_zero, List.set_cons_succ]
      refine held_take 8 24 ?vv9 rfl (by kernel_rfl) (by kernel_rfl) (by kernel_rfl) rfl (fun _ _ _ h => h) (by rfl) ?hy9 (by assumption) ?rest9
      case hy9 => (intro w hSw; (try dsimp only at hSw); go_simp; try with_reducible rfl)
      try simp only [Act.put, List.setIfInBounds_toArray, List.set_cons_zero, List.set_cons_succ]
      refine held_take 9 25 ?vv10 rfl (by kernel_rfl) (by kernel_rfl) (by kernel_rfl) rfl (fun _ _ _ h => h) (by rfl) ?hy10 (by assumption) ?rest10
      case hy10 => (intro w hSw; (try dsimp only at hSw); go_simp; try with_reducible rfl)
      try simp only [Act.put, List.setIfInBounds_toArray, List.set_cons_zero, List.set_cons_succ]
      refine held_take 10 8 ?vv11 rfl (by kernel_rfl) (by kernel_rfl) (by kernel_rfl) rfl (fun _ _ _ h => h) (by rfl) ?hy11 (by assumption) ?rest11
      case hy11 => (intro w hSw; (try dsimp only at hSw); go_simp; try with_reducible rfl)
      try simp only [Act.put, List.setIfInBounds_toArray, List.set_cons_zero, List.set_cons_succ]
      refine held_take 11 9 ?vv12 rfl (by kernel_rfl) (by kernel_rfl) (by kernel_rfl) rfl (fun _ _ _ h => h) (by rfl) ?hy12 (by assumption) ?rest12
      case hy12 => (intro w hSw; (try dsimp only at hSw); go_simp; try with_reducible rfl)
      try simp only [Act.put, List.setIfInBounds_toArray, List.set_cons_zero, List.set_cons_succ]
      refine wpAnyH_done (by kernel_rfl) ?_ _
      clear hHeld
      rcases (show x.a < 0 ∨ (¬ x.a < 0 ∧ wd ≤ x.a) ∨ (¬ x.a < 0 ∧ ¬ wd ≤ x.a ∧ x.b < 0) ∨ (¬ x.a < 0 ∧ ¬ wd ≤ x.a ∧ ¬ x.b < 0 ∧ hg ≤ x.b) ∨ (¬ x.a < 0 ∧ ¬ wd ≤ x.a ∧ ¬ x.b < 0 ∧ ¬ hg ≤ x.b) from by omega) with s1 | ⟨s1, s2⟩ | ⟨s1, s2, s3⟩ | ⟨s1, s2, s3, s4⟩ | ⟨s1, s2, s3, s4⟩
      iterate 4
        · have HF := hide (sq_bad HZQ.out hlt (stepQ_out (wd := wd) (hg := hg) HX.out (by rw [Bool.eq_false_iff]; intro h; unfold inSq at h; simp only [Bool.and_eq_true, inB_iff] at h; omega)))
          go_wp2
          go_ret
          exact ⟨ret_bool HF.out.symm, BW.out.drew⟩
      have HIN : Hid (inSq wd hg x = true) := hide (by unfold inSq; simp only [Bool.and_eq_true, inB_iff]; omega)
      by_cases hk0 : k = 0
      · have k1 : decide (0 < k) = false := by simp [hk0]
        have HOK := hide (stepQ_0 HX.out HIN.out hk0)
        clear hk0
        go_wp2
        go_roundg (m - (k + 1))
        case measure => omega
        case rel => exact ⟨k + 1, by omega, by omega, by go_num, BW.out.drew, upto_succ A.out HOK.out⟩
      · have k1 : 0 < k := by omega
        obtain ⟨y, hy, hyc⟩ := HAT.out (k - 1) (by rw [HZQ.out]; omega)
        have HY := hide (getQ! hy)
        obtain ⟨hbW, p0, p1⟩ := hyc W BW.out
        clear hy hyc
        have k2 : (1 : Int) ≤ (k : Int) := by omega
        have k3 : (0 : Int) ≤ (k : Int) - 1 := by omega
        have k4 : (k : Int) - 1 < (m : Int) := by omega
        have k5 : IntKind.i64.wrap ((k : Int) - 1) = (k : Int) - 1 := IntWalk.i64_in _ (by omega)
        have k6 : ((k : Int) - 1).toNat = k - 1 := by omega
        rcases (show x.a < y.a ∨ (¬ x.a < y.a ∧ y.a = x.a ∧ x.b ≤ y.b) ∨ (¬ x.a < y.a ∧ y.a = x.a ∧ ¬ x.b ≤ y.b) ∨ (¬ x.a < y.a ∧ ¬ y.a = x.a) from by omega) with s1 | ⟨s1, s2, s3⟩ | ⟨s1, s2, s3⟩ | ⟨s1, s2⟩
        · have HF := hide (sq_bad HZQ.out hlt (stepQ_no (wd := wd) (hg := hg) HX.out HY.out k1 (by unfold ltS; simp; omega)))
          go_wp2
          go_ret
          exact ⟨ret_bool HF.out.symm, BW.out.drew⟩
        · have HF := hide (sq_bad HZQ.out hlt (stepQ_no (wd := wd) (hg := hg) HX.out HY.out k1 (by unfold ltS; simp; omega)))
          rw [s2] at p0
          have HS2 := hide s2
          clear s2
          go_wp2
          go_ret
          exact ⟨ret_bool HF.out.symm, BW.out.drew⟩
        · have HOK := hide (stepQ_1 HX.out HY.out HIN.out (by unfold ltS; simp; omega))
          rw [s2] at p0
          have HS2 := hide s2
          clear s2
          go_wp2
          go_roundg (m - (k + 1))
          case measure => omega
          case rel => exact ⟨k + 1, by omega, by omega, by go_num, BW.out.drew, upto_succ A.out HOK.out⟩
        · have HOK := hide (stepQ_1 HX.out HY.out HIN.out (by unfold ltS; simp; omega))
          have s3 : decide (y.a = x.a) = false := by simp [s2]
          have s4 : (y.a == x.a) = false := by simp [s2]
          go_wp2
          go_roundg (m - (k + 1))
          case measure => omega
          case rel => exact ⟨k + 1, by omega, by omega, by go_num, BW.out.drew, upto_succ A.out HOK.out⟩
    · have hge : ¬ (k : Int) < (m : Int) := by omega
      go_wp2
      go_ret
      exact ⟨ret_bool (by rw [sq_end HZQ.out A.out (by omega), Bool.eq_iff_iff]; simp; omega), BW.out⟩

set_option maxRecDepth 100000 in
set_option maxHeartbeats 4000000 in
theorem l12Lonely_any (ao : Option Addr) (n c : Nat) (zs : List Cv) (qo : Option Addr) (m d : Nat) (zq : List Ar2) (w : World) (hz : zs.length = n) (hn : n ≤ 1048576) (hr : Rd encCv 6 w.heap.size w ao zs) (hzq : zq.length = m) (hm : m ≤ 1048576) (hrq : Rd encAr2 2 w.heap.size w qo zq) :
    Calls Try.prog 62 #[.slice ao n c, .slice qo m d] w fun e w' => e = .returned (.bool (loneB zs zq)) ∧ Below w.heap.size w w' := by
  have HZ := hide hz
  have HR := hide hr
  clear hz hr
  have HZQ := hide hzq
  have HRQ := hide hrq
  clear hzq hrq
  go_enter Try.func62, Try.ntmps62
  go_wp2
  go_loopg [5, 6, 7] n (fun gi iv _ _ wr => ∃ i : Nat, i ≤ n ∧ n - i ≤ gi ∧ iv = .int .i64 i ∧ Aside (Below w.heap.size w wr) ∧ Aside (∀ j, j < i → loneX zq zs[j]! = false))
  case atStart => exact ⟨0, Nat.zero_le _, by omega, rfl, Below.refl _ _, fun j hj => absurd hj (Nat.not_lt_zero _)⟩
  case round =>
    obtain ⟨i, hi, hgi, rfl, BW, A⟩ := hrel
    obtain ⟨v0, hv0⟩ : ∃ v0, v0 = wr := ⟨_, rfl⟩
    subst hv0
    by_cases hlt : i < n
    · have hlti : (i : Int) < (n : Int) := by omega
      obtain ⟨b, off, rfl, hb1, hat⟩ := rdCv HR.out (by rw [HZ.out]; omega)
      obtain ⟨x, hx, hxc⟩ := hat i (by rw [HZ.out]; exact hlt)
      have HX := hide (getB hx)
      have HXC := hide hxc
      have HO : Hid (loneX zq x = decide (1 < cntS (fun q => showsB q.a q.b x) zq m)) := hide (by unfold loneX; rw [HZQ.out])
      obtain ⟨F, hF⟩ : ∃ F, F = fun q : Ar2 => showsB q.a q.b x := ⟨_, rfl⟩
      rw [← hF] at HO
      have HFF := hide hF
      clear hx hxc hat hF
      go_wp2
      go_loopg [6, 7] m (fun gk cv kv w2 => ∃ k : Nat, k ≤ m ∧ m - k ≤ gk ∧ kv = .int .i64 k ∧ cv = .int .i64 (cntS F zq k) ∧ Aside (Below w.heap.size w w2))
      case atStart => exact ⟨0, Nat.zero_le _, by omega, rfl, rfl, BW.out⟩
      case round =>
        obtain ⟨k, hk, hgk, rfl, rfl, BV⟩ := hrel
        obtain ⟨W, hW⟩ : ∃ W, W = wr := ⟨_, rfl⟩
        subst hW
        have bd := cntS_bd F zq k
        by_cases hlk : k < m
        · have hlki : (k : Int) < (m : Int) := by omega
          obtain ⟨b3, off3, rfl, hb3, hat⟩ := rdAr2 HRQ.out (by rw [HZQ.out]; omega)
          obtain ⟨q, hq, hqc⟩ := hat k (by rw [HZQ.out]; exact hlk)
          have HXQ := hide (getQ! hq)
          obtain ⟨hbr3, d0, d1⟩ := hqc W BV.out
          obtain ⟨hbr, c0, c1, c2, c3, c4, c5⟩ := HXC.out W BV.out
          clear hq hqc hat
          go_wp2_with fail
          cases hs : showsB q.a q.b x with
          | true =>
            have HN := hide (cntS_hit (f := F) HXQ.out (by rw [HFF.out]; exact hs))
            have k5 : IntKind.i64.wrap (cntS F zq k + 1) = cntS F zq k + 1 := IntWalk.i64_in _ (by omega)
            have HQ := hide hs
            clear hs
            refine wp_region_held_drew (S := fun w' => w'.cell? ⟨b, off + i * 6, none⟩ = some (.int .i64 x.i) ∧ w'.cell? ⟨b, off + i * 6 + 1, none⟩ = some (.int .i64 x.w) ∧ w'.cell? ⟨b, off + i * 6 + 2, none⟩ = some (.int .i64 x.s) ∧ w'.cell? ⟨b, off + i * 6 + 3, none⟩ = some (.int .i64 x.e) ∧ w'.cell? ⟨b, off + i * 6 + 4, none⟩ = some (.int .i64 x.n) ∧ w'.cell? ⟨b, off + i * 6 + 5, none⟩ = some (.int .i64 x.p) ∧ w'.cell? ⟨b3, off3 + k * 2, none⟩ = some (.int .i64 q.a) ∧ w'.cell? ⟨b3, off3 + k * 2 + 1, none⟩ = some (.int .i64 q.b) ∧ Below W.heap.size W w') (by kernel_rfl) ⟨c0, c1, c2, c3, c4, c5, d0, d1, (Below.refl _ _).drew⟩ (fun hHeld => ?_)
            first
              | (refine held_skip 0 20 rfl (by kernel_rfl) (by kernel_rfl) (by kernel_rfl) rfl (fun _ _ _ h => h) (by rfl) (by assumption) ?_)
              | (refine held_take 0 20 ?vv270 rfl (by kernel_rfl) (by kernel_rfl) (by kernel_rfl) rfl (fun _ _ _ h => h) (by rfl) ?hy270 (by assumption) ?rest270
                 case hy270 => (intro w hSw; (try dsimp only at hSw); go_simp; try with_reducible rfl))
            try simp only [Act.put, List.setIfInBounds_toArray, List.set_cons_zero, List.set_cons_succ]
            first
              | (refine held_skip 1 21 rfl (by kernel_rfl) (by kernel_rfl) (by kernel_rfl) rfl (fun _ _ _ h => h) (by rfl) (by assumption) ?_)
              | (refine held_take 1 21 ?vv271 rfl (by kernel_rfl) (by kernel_rfl) (by kernel_rfl) rfl (fun _ _ _ h => h) (by rfl) ?hy271 (by assumption) ?rest271
                 case hy271 => (intro w hSw; (try dsimp only at hSw); go_simp; try with_reducible rfl))
            try simp only [Act.put, List.setIfInBounds_toArray, List.set_cons_zero, List.set_cons_succ]
            first
              | (refine held_skip 2 22 rfl (by kernel_rfl) (by kernel_rfl) (by kernel_rfl) rfl (fun _ _ _ h => h) (by rfl) (by assumption) ?_)
              | (refine held_take 2 22 ?vv272 rfl (by kernel_rfl) (by kernel_rfl) (by kernel_rfl) rfl (fun _ _ _ h => h) (by rfl) ?hy272 (by assumption) ?rest272
                 case hy272 => (intro w hSw; (try dsimp only at hSw); go_simp; try with_reducible rfl))
            try simp only [Act.put, List.setIfInBounds_toArray, List.set_cons_zero, List.set_cons_succ]
            first
              | (refine held_skip 3 23 rfl (by kernel_rfl) (by kernel_rfl) (by kernel_rfl) rfl (fun _ _ _ h => h) (by rfl) (by assumption) ?_)
              | (refine held_take 3 23 ?vv273 rfl (by kernel_rfl) (by kernel_rfl) (by kernel_rfl) rfl (fun _ _ _ h => h) (by rfl) ?hy273 (by assumption) ?rest273
                 case hy273 => (intro w hSw; (try dsimp only at hSw); go_simp; try with_reducible rfl))
            try simp only [Act.put, List.setIfInBounds_toArray, List.set_cons_zero, List.set_cons_succ]
            first
              | (refine held_skip 4 24 rfl (by kernel_rfl) (by kernel_rfl) (by kernel_rfl) rfl (fun _ _ _ h => h) (by rfl) (by assumption) ?_)
              | (refine held_take 4 24 ?vv274 rfl (by kernel_rfl) (by kernel_rfl) (by kernel_rfl) rfl (fun _ _ _ h => h) (by rfl) ?hy274 (by assumption) ?rest274
                 case hy274 => (intro w hSw; (try dsimp only at hSw); go_simp; try with_reducible rfl))
            try simp only [Act.put, List.setIfInBounds_toArray, List.set_cons_zero, List.set_cons_succ]
            first
              | (refine held_skip 5 25 rfl (by kernel_rfl) (by kernel_rfl) (by kernel_rfl) rfl (fun _ _ _ h => h) (by rfl) (by assumption) ?_)
              | (refine held_take 5 25 ?vv275 rfl (by kernel_rfl) (by kernel_rfl) (by kernel_rfl) rfl (fun _ _ _ h => h) (by rfl) ?hy275 (by assumption) ?rest275
                 case hy275 => (intro w hSw; (try dsimp only at hSw); go_simp; try with_reducible rfl))
            try simp only [Act.put, List.setIfInBounds_toArray, List.set_cons_zero, List.set_cons_succ]
            first
              | (refine held_skip 6 26 rfl (by kernel_rfl) (by kernel_rfl) (by kernel_rfl) rfl (fun _ _ _ h => h) (by rfl) (by assumption) ?_)
              | (refine held_take 6 26 ?vv276 rfl (by kernel_rfl) (by kernel_rfl) (by kernel_rfl) rfl (fun _ _ _ h => h) (by rfl) ?hy276 (by assumption) ?rest276
                 case hy276 => (intro w hSw; (try dsimp only at hSw); go_simp; try with_reducible rfl))
            try simp only [Act.put, List.setIfInBounds_toArray, List.set_cons_zero, List.set_cons_succ]
            first
              | (refine held_skip 7 27 rfl (by kernel_rfl) (by kernel_rfl) (by kernel_rfl) rfl (fun _ _ _ h => h) (by rfl) (by assumption) ?_)
              | (refine held_take 7 27 ?vv277 rfl (by kernel_rfl) (by kernel_rfl) (by kernel_rfl) rfl (fun _ _ _ h => h) (by rfl) ?hy277 (by assumption) ?rest277
                 case hy277 => (intro w hSw; (try dsimp only at hSw); go_simp; try with_reducible rfl))
            try simp only [Act.put, List.setIfInBounds_toArray, List.set_cons_zero, List.set_cons_succ]
            first
              | (refine held_skip 8 28 rfl (by kernel_rfl) (by kernel_rfl) (by kernel_rfl) rfl (fun _ _ _ h => h) (by rfl) (by assumption) ?_)
              | (refine held_take 8 28 ?vv278 rfl (by kernel_rfl) (by kernel_rfl) (by kernel_rfl) rfl (fun _ _ _ h => h) (by rfl) ?hy278 (by assumption) ?rest278
                 case hy278 => (intro w hSw; (try dsimp only at hSw); go_simp; try with_reducible rfl))
            try simp only [Act.put, List.setIfInBounds_toArray, List.set_cons_zero, List.set_cons_succ]
            first
              | (refine held_skip 9 29 rfl (by kernel_rfl) (by kernel_rfl) (by kernel_rfl) rfl (fun _ _ _ h => h) (by rfl) (by assumption) ?_)
              | (refine held_take 9 29 ?vv279 rfl (by kernel_rfl) (by kernel_rfl) (by kernel_rfl) rfl (fun _ _ _ h => h) (by rfl) ?hy279 (by assumption) ?rest279
                 case hy279 => (intro w hSw; (try dsimp only at hSw); go_simp; try with_reducible rfl))
            try simp only [Act.put, List.setIfInBounds_toArray, List.set_cons_zero, List.set_cons_succ]
            first
              | (refine held_skip 10 30 rfl (by kernel_rfl) (by kernel_rfl) (by kernel_rfl) rfl (fun _ _ _ h => h) (by rfl) (by assumption) ?_)
              | (refine held_take 10 30 ?vv280 rfl (by kernel_rfl) (by kernel_rfl) (by kernel_rfl) rfl (fun _ _ _ h => h) (by rfl) ?hy280 (by assumption) ?rest280
                 case hy280 => (intro w hSw; (try dsimp only at hSw); go_simp; try with_reducible rfl))
            try simp only [Act.put, List.setIfInBounds_toArray, List.set_cons_zero, List.set_cons_succ]
            first
              | (refine held_skip 11 31 rfl (by kernel_rfl) (by kernel_rfl) (by kernel_rfl) rfl (fun _ _ _ h => h) (by rfl) (by assumption) ?_)
              | (refine held_take 11 31 ?vv281 rfl (by kernel_rfl) (by kernel_rfl) (by kernel_rfl) rfl (fun _ _ _ h => h) (by rfl) ?hy281 (by assumption) ?rest281
                 case hy281 => (intro w hSw; (try dsimp only at hSw); go_simp; try with_reducible rfl))
            try simp only [Act.put, List.setIfInBounds_toArray, List.set_cons_zero, List.set_cons_succ]
            first
              | (refine held_skip 12 32 rfl (by kernel_rfl) (by kernel_rfl) (by kernel_rfl) rfl (fun _ _ _ h => h) (by rfl) (by assumption) ?_)
              | (refine held_take 12 32 ?vv282 rfl (by kernel_rfl) (by kernel_rfl) (by kernel_rfl) rfl (fun _ _ _ h => h) (by rfl) ?hy282 (by assumption) ?rest282
                 case hy282 => (intro w hSw; (try dsimp only at hSw); go_simp; try with_reducible rfl))
            try simp only [Act.put, List.setIfInBounds_toArray, List.set_cons_zero, List.set_cons_succ]
            first
              | (refine held_skip 13 33 rfl (by kernel_rfl) (by kernel_rfl) (by kernel_rfl) rfl (fun _ _ _ h => h) (by rfl) (by assumption) ?_)
              | (refine held_take 13 33 ?vv283 rfl (by kernel_rfl) (by kernel_rfl) (by kernel_rfl) rfl (fun _ _ _ h => h) (by rfl) ?hy283 (by assumption) ?rest283
                 case hy283 => (intro w hSw; (try dsimp only at hSw); go_simp; try with_reducible rfl))
            try simp only [Act.put, List.setIfInBounds_toArray, List.set_cons_zero, List.set_cons_succ]
            refine wpAnyH_ready (rs := [14]) (by kernel_rfl) (by simp) ?_
            refine AllReadyH.cons rfl (fun K hK => ?_) AllReadyH.nil
            go_simp
            refine (l12Shows_any x _ _ _).mono ?_
            rintro e w2 ⟨rfl, hb⟩
            rw [HQ.out]
            go_wp2_with fail
            have hq := Below.trans hHeld.2.2.2.2.2.2.2.2 (Below.mono hb hHeld.2.2.2.2.2.2.2.2.size)
            refine hK.out _ _ ⟨(hq.cell (p := ⟨b, off + i * 6, none⟩) hbr).trans c0, (hq.cell (p := ⟨b, off + i * 6 + 1, none⟩) hbr).trans c1, (hq.cell (p := ⟨b, off + i * 6 + 2, none⟩) hbr).trans c2, (hq.cell (p := ⟨b, off + i * 6 + 3, none⟩) hbr).trans c3, (hq.cell (p := ⟨b, off + i * 6 + 4, none⟩) hbr).trans c4, (hq.cell (p := ⟨b, off + i * 6 + 5, none⟩) hbr).trans c5, (hq.cell (p := ⟨b3, off3 + k * 2, none⟩) hbr3).trans d0, (hq.cell (p := ⟨b3, off3 + k * 2 + 1, none⟩) hbr3).trans d1, hq⟩ (fun hHeld => ?_)
            clear hq hb hK K
            try simp only [Act.put, List.setIfInBounds_toArray, List.set_cons_zero, List.set_cons_succ]
            refine wpAnyH_done (by kernel_rfl) ?_ _
            have HB2 := hide hHeld.2.2.2.2.2.2.2.2
            clear hHeld
            go_wp2
            go_roundg (m - (k + 1))
            case measure => omega
            case rel => exact ⟨k + 1, by omega, by omega, by go_num, by rw [HN.out], BV.out.trans (Below.mono HB2.out BV.out.size)⟩
          | false =>
            have HN := hide (cntS_miss (f := F) HXQ.out (by rw [HFF.out]; exact hs))
            have HQ := hide hs
            clear hs
            refine wp_region_held_drew (S := fun w' => w'.cell? ⟨b, off + i * 6, none⟩ = some (.int .i64 x.i) ∧ w'.cell? ⟨b, off + i * 6 + 1, none⟩ = some (.int .i64 x.w) ∧ w'.cell? ⟨b, off + i * 6 + 2, none⟩ = some (.int .i64 x.s) ∧ w'.cell? ⟨b, off + i * 6 + 3, none⟩ = some (.int .i64 x.e) ∧ w'.cell? ⟨b, off + i * 6 + 4, none⟩ = some (.int .i64 x.n) ∧ w'.cell? ⟨b, off + i * 6 + 5, none⟩ = some (.int .i64 x.p) ∧ w'.cell? ⟨b3, off3 + k * 2, none⟩ = some (.int .i64 q.a) ∧ w'.cell? ⟨b3, off3 + k * 2 + 1, none⟩ = some (.int .i64 q.b) ∧ Below W.heap.size W w') (by kernel_rfl) ⟨c0, c1, c2, c3, c4, c5, d0, d1, (Below.refl _ _).drew⟩ (fun hHeld => ?_)
            first
              | (refine held_skip 0 20 rfl (by kernel_rfl) (by kernel_rfl) (by kernel_rfl) rfl (fun _ _ _ h => h) (by rfl) (by assumption) ?_)
              | (refine held_take 0 20 ?vv284 rfl (by kernel_rfl) (by kernel_rfl) (by kernel_rfl) rfl (fun _ _ _ h => h) (by rfl) ?hy284 (by assumption) ?rest284
                 case hy284 => (intro w hSw; (try dsimp only at hSw); go_simp; try with_reducible rfl))
            try simp only [Act.put, List.setIfInBounds_toArray, List.set_cons_zero, List.set_cons_succ]
            first
              | (refine held_skip 1 21 rfl (by kernel_rfl) (by kernel_rfl) (by kernel_rfl) rfl (fun _ _ _ h => h) (by rfl) (by assumption) ?_)
              | (refine held_take 1 21 ?vv285 rfl (by kernel_rfl) (by kernel_rfl) (by kernel_rfl) rfl (fun _ _ _ h => h) (by rfl) ?hy285 (by assumption) ?rest285
                 case hy285 => (intro w hSw; (try dsimp only at hSw); go_simp; try with_reducible rfl))
            try simp only [Act.put, List.setIfInBounds_toArray, List.set_cons_zero, List.set_cons_succ]
            first
              | (refine held_skip 2 22 rfl (by kernel_rfl) (by kernel_rfl) (by kernel_rfl) rfl (fun _ _ _ h => h) (by rfl) (by assumption) ?_)
              | (refine held_take 2 22 ?vv286 rfl (by kernel_rfl) (by kernel_rfl) (by kernel_rfl) rfl (fun _ _ _ h => h) (by rfl) ?hy286 (by assumption) ?rest286
                 case hy286 => (intro w hSw; (try dsimp only at hSw); go_simp; try with_reducible rfl))
            try simp only [Act.put, List.setIfInBounds_toArray, List.set_cons_zero, List.set_cons_succ]
            first
              | (refine held_skip 3 23 rfl (by kernel_rfl) (by kernel_rfl) (by kernel_rfl) rfl (fun _ _ _ h => h) (by rfl) (by assumption) ?_)
              | (refine held_take 3 23 ?vv287 rfl (by kernel_rfl) (by kernel_rfl) (by kernel_rfl) rfl (fun _ _ _ h => h) (by rfl) ?hy287 (by assumption) ?rest287
                 case hy287 => (intro w hSw; (try dsimp only at hSw); go_simp; try with_reducible rfl))
            try simp only [Act.put, List.setIfInBounds_toArray, List.set_cons_zero, List.set_cons_succ]
            first
              | (refine held_skip 4 24 rfl (by kernel_rfl) (by kernel_rfl) (by kernel_rfl) rfl (fun _ _ _ h => h) (by rfl) (by assumption) ?_)
              | (refine held_take 4 24 ?vv288 rfl (by kernel_rfl) (by kernel_rfl) (by kernel_rfl) rfl (fun _ _ _ h => h) (by rfl) ?hy288 (by assumption) ?rest288
                 case hy288 => (intro w hSw; (try dsimp only at hSw); go_simp; try with_reducible rfl))
            try simp only [Act.put, List.setIfInBounds_toArray, List.set_cons_zero, List.set_cons_succ]
            first
              | (refine held_skip 5 25 rfl (by kernel_rfl) (by kernel_rfl) (by kernel_rfl) rfl (fun _ _ _ h => h) (by rfl) (by assumption) ?_)
              | (refine held_take 5 25 ?vv289 rfl (by kernel_rfl) (by kernel_rfl) (by kernel_rfl) rfl (fun _ _ _ h => h) (by rfl) ?hy289 (by assumption) ?rest289
                 case hy289 => (intro w hSw; (try dsimp only at hSw); go_simp; try with_reducible rfl))
            try simp only [Act.put, List.setIfInBounds_toArray, List.set_cons_zero, List.set_cons_succ]
            first
              | (refine held_skip 6 26 rfl (by kernel_rfl) (by kernel_rfl) (by kernel_rfl) rfl (fun _ _ _ h => h) (by rfl) (by assumption) ?_)
              | (refine held_take 6 26 ?vv290 rfl (by kernel_rfl) (by kernel_rfl) (by kernel_rfl) rfl (fun _ _ _ h => h) (by rfl) ?hy290 (by assumption) ?rest290
                 case hy290 => (intro w hSw; (try dsimp only at hSw); go_simp; try with_reducible rfl))
            try simp only [Act.put, List.setIfInBounds_toArray, List.set_cons_zero, List.set_cons_succ]
            first
              | (refine held_skip 7 27 rfl (by kernel_rfl) (by kernel_rfl) (by kernel_rfl) rfl (fun _ _ _ h => h) (by rfl) (by assumption) ?_)
              | (refine held_take 7 27 ?vv291 rfl (by kernel_rfl) (by kernel_rfl) (by kernel_rfl) rfl (fun _ _ _ h => h) (by rfl) ?hy291 (by assumption) ?rest291
                 case hy291 => (intro w hSw; (try dsimp only at hSw); go_simp; try with_reducible rfl))
            try simp only [Act.put, List.setIfInBounds_toArray, List.set_cons_zero, List.set_cons_succ]
            first
              | (refine held_skip 8 28 rfl (by kernel_rfl) (by kernel_rfl) (by kernel_rfl) rfl (fun _ _ _ h => h) (by rfl) (by assumption) ?_)
              | (refine held_take 8 28 ?vv292 rfl (by kernel_rfl) (by kernel_rfl) (by kernel_rfl) rfl (fun _ _ _ h => h) (by rfl) ?hy292 (by assumption) ?rest292
                 case hy292 => (intro w hSw; (try dsimp only at hSw); go_simp; try with_reducible rfl))
            try simp only [Act.put, List.setIfInBounds_toArray, List.set_cons_zero, List.set_cons_succ]
            first
              | (refine held_skip 9 29 rfl (by kernel_rfl) (by kernel_rfl) (by kernel_rfl) rfl (fun _ _ _ h => h) (by rfl) (by assumption) ?_)
              | (refine held_take 9 29 ?vv293 rfl (by kernel_rfl) (by kernel_rfl) (by kernel_rfl) rfl (fun _ _ _ h => h) (by rfl) ?hy293 (by assumption) ?rest293
                 case hy293 => (intro w hSw; (try dsimp only at hSw); go_simp; try with_reducible rfl))
            try simp only [Act.put, List.setIfInBounds_toArray, List.set_cons_zero, List.set_cons_succ]
            first
              | (refine held_skip 10 30 rfl (by kernel_rfl) (by kernel_rfl) (by kernel_rfl) rfl (fun _ _ _ h => h) (by rfl) (by assumption) ?_)
              | (refine held_take 10 30 ?vv294 rfl (by kernel_rfl) (by kernel_rfl) (by kernel_rfl) rfl (fun _ _ _ h => h) (by rfl) ?hy294 (by assumption) ?rest294
                 case hy294 => (intro w hSw; (try dsimp only at hSw); go_simp; try with_reducible rfl))
            try simp only [Act.put, List.setIfInBounds_toArray, List.set_cons_zero, List.set_cons_succ]
            first
              | (refine held_skip 11 31 rfl (by kernel_rfl) (by kernel_rfl) (by kernel_rfl) rfl (fun _ _ _ h => h) (by rfl) (by assumption) ?_)
              | (refine held_take 11 31 ?vv295 rfl (by kernel_rfl) (by kernel_rfl) (by kernel_rfl) rfl (fun _ _ _ h => h) (by rfl) ?hy295 (by assumption) ?rest295
                 case hy295 => (intro w hSw; (try dsimp only at hSw); go_simp; try with_reducible rfl))
            try simp only [Act.put, List.setIfInBounds_toArray, List.set_cons_zero, List.set_cons_succ]
            first
              | (refine held_skip 12 32 rfl (by kernel_rfl) (by kernel_rfl) (by kernel_rfl) rfl (fun _ _ _ h => h) (by rfl) (by assumption) ?_)
              | (refine held_take 12 32 ?vv296 rfl (by kernel_rfl) (by kernel_rfl) (by kernel_rfl) rfl (fun _ _ _ h => h) (by rfl) ?hy296 (by assumption) ?rest296
                 case hy296 => (intro w hSw; (try dsimp only at hSw); go_simp; try with_reducible rfl))
            try simp only [Act.put, List.setIfInBounds_toArray, List.set_cons_zero, List.set_cons_succ]
            first
              | (refine held_skip 13 33 rfl (by kernel_rfl) (by kernel_rfl) (by kernel_rfl) rfl (fun _ _ _ h => h) (by rfl) (by assumption) ?_)
              | (refine held_take 13 33 ?vv297 rfl (by kernel_rfl) (by kernel_rfl) (by kernel_rfl) rfl (fun _ _ _ h => h) (by rfl) ?hy297 (by assumption) ?rest297
                 case hy297 => (intro w hSw; (try dsimp only at hSw); go_simp; try with_reducible rfl))
            try simp only [Act.put, List.setIfInBounds_toArray, List.set_cons_zero, List.set_cons_succ]
            refine wpAnyH_ready (rs := [14]) (by kernel_rfl) (by simp) ?_
            refine AllReadyH.cons rfl (fun K hK => ?_) AllReadyH.nil
            go_simp
            refine (l12Shows_any x _ _ _).mono ?_
            rintro e w2 ⟨rfl, hb⟩
            rw [HQ.out]
            go_wp2_with fail
            have hq := Below.trans hHeld.2.2.2.2.2.2.2.2 (Below.mono hb hHeld.2.2.2.2.2.2.2.2.size)
            refine hK.out _ _ ⟨(hq.cell (p := ⟨b, off + i * 6, none⟩) hbr).trans c0, (hq.cell (p := ⟨b, off + i * 6 + 1, none⟩) hbr).trans c1, (hq.cell (p := ⟨b, off + i * 6 + 2, none⟩) hbr).trans c2, (hq.cell (p := ⟨b, off + i * 6 + 3, none⟩) hbr).trans c3, (hq.cell (p := ⟨b, off + i * 6 + 4, none⟩) hbr).trans c4, (hq.cell (p := ⟨b, off + i * 6 + 5, none⟩) hbr).trans c5, (hq.cell (p := ⟨b3, off3 + k * 2, none⟩) hbr3).trans d0, (hq.cell (p := ⟨b3, off3 + k * 2 + 1, none⟩) hbr3).trans d1, hq⟩ (fun hHeld => ?_)
            clear hq hb hK K
            try simp only [Act.put, List.setIfInBounds_toArray, List.set_cons_zero, List.set_cons_succ]
            refine wpAnyH_done (by kernel_rfl) ?_ _
            have HB2 := hide hHeld.2.2.2.2.2.2.2.2
            clear hHeld
            go_wp2
            go_roundg (m - (k + 1))
            case measure => omega
            case rel => exact ⟨k + 1, by omega, by omega, by go_num, by rw [HN.out], BV.out.trans (Below.mono HB2.out BV.out.size)⟩
        · have hge : ¬ (k : Int) < (m : Int) := by omega
          obtain rfl : k = m := by omega
          cases hq : decide (1 < cntS F zq k) with
          | true =>
            have HL := hide (lone_bad HZ.out hlt HX.out (by rw [HO.out]; exact hq))
            have hq2 : 1 < cntS F zq k := by simpa using hq
            clear hq
            go_wp2
            go_ret
            exact ⟨ret_bool HL.out.symm, BV.out⟩
          | false =>
            have HL : Hid (loneX zq zs[i]! = false) := hide (by rw [HX.out, HO.out]; exact hq)
            have hq2 : ¬ 1 < cntS F zq k := by simpa using hq
            clear hq
            go_wp2
            go_roundg (n - (i + 1))
            case measure => omega
            case rel => exact ⟨i + 1, by omega, by omega, by go_num, BV.out, upto_succ' A.out HL.out⟩
    · have hge : ¬ (i : Int) < (n : Int) := by omega
      have HL := hide (lone_end HZ.out A.out (by omega : n ≤ i))
      go_wp2
      go_ret
      exact ⟨ret_bool HL.out.symm, BW.out⟩

end Go.Proofs.Ytpdfbijfklmonaa
