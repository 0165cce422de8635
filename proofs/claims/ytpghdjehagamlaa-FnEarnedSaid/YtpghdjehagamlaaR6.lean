/- AreLawful: the program answers lawful. -/
import Derived.Test.YtpghdjehagamlaaR6a
namespace Go.Proofs.Ytpghdjehagamlaa
open Go.RowKit

theorem lawful_rights {rz : List Rt} {cz : List Cp} (h : areR rz = false) : lawful rz cz = false := by unfold lawful; rw [h]; rfl
theorem lawful_len {rz : List Rt} {cz : List Cp} (h : ¬ cz.length ≤ 15) : lawful rz cz = false := by unfold lawful; simp [h]
theorem lawful_step {rz : List Rt} {cz : List Cp} {k : Nat} (hk : k < cz.length) (h : stepC cz k = false) : lawful rz cz = false := by
  unfold lawful; rw [allB_false k hk h]; simp
theorem lawful_share {rz : List Rt} {cz : List Cp} {k : Nat} (hk : k < cz.length) (h : shareOk rz cz cz[k]! = false) : lawful rz cz = false := by
  rw [← law_eq]; unfold lawI; rw [allB_false k hk (by simp only [h, Bool.and_false])]; simp
theorem lawful_left {rz : List Rt} {cz : List Cp} {k : Nat} (hk : k < cz.length) (h : leftOk rz cz cz[k]! = false) : lawful rz cz = false := by
  unfold lawful; rw [allB_false (p := fun k => leftOk rz cz cz[k]!) k hk h]; simp
theorem lawful_trueI {rz : List Rt} {cz : List Cp} (h : areR rz = true) (hl : cz.length ≤ 15) (ha : ∀ j, j < cz.length → stepC cz j = true) (hs : ∀ j, j < cz.length → shareOk rz cz cz[j]! = true) : lawful rz cz = true := by
  rw [← law_eq]; unfold lawI
  rw [h, allB_true (p := fun k => stepC cz k && shareOk rz cz cz[k]!) (fun j hj => by simp only [ha j hj, hs j hj]; rfl)]; simp [hl]
theorem lawful_trueS {rz : List Rt} {cz : List Cp} (h : areR rz = true) (hl : cz.length ≤ 15) (ha : ∀ j, j < cz.length → stepC cz j = true) (hs : ∀ j, j < cz.length → leftOk rz cz cz[j]! = true) : lawful rz cz = true := by
  unfold lawful
  rw [h, allB_true ha, allB_true (p := fun k => leftOk rz cz cz[k]!) hs]; simp [hl]
theorem stepC_bad0 {zs : List Cp} {k : Nat} {x : Cp} (hx : zs[k]! = x) (h : inB x.s 1 999 = false ∨ inB x.r 1 999 = false ∨ inB x.d 0 4000 = false ∨ inB x.p 1 100 = false) : stepC zs k = false := by
  unfold stepC okCp; rw [hx]; rcases h with h | h | h | h <;> rw [h] <;> simp
theorem stepC_bad {zs : List Cp} {k : Nat} {x y : Cp} (hx : zs[k]! = x) (hy : zs[k - 1]! = y) (hk : 0 < k) (hs : x.d < y.d) : stepC zs k = false := by
  unfold stepC; rw [hx, hy]; simp; intro; omega
theorem stepC_ok0 {zs : List Cp} {k : Nat} {x : Cp} (hx : zs[k]! = x) (h1 : inB x.s 1 999 = true) (h2 : inB x.r 1 999 = true) (h3 : inB x.d 0 4000 = true) (h4 : inB x.p 1 100 = true) (hk : k = 0) : stepC zs k = true := by
  unfold stepC okCp; rw [hx, h1, h2, h3, h4]; simp [hk]
theorem stepC_ok1 {zs : List Cp} {k : Nat} {x y : Cp} (hx : zs[k]! = x) (hy : zs[k - 1]! = y) (h1 : inB x.s 1 999 = true) (h2 : inB x.r 1 999 = true) (h3 : inB x.d 0 4000 = true) (h4 : inB x.p 1 100 = true) (hs : y.d ≤ x.d) : stepC zs k = true := by
  unfold stepC okCp; rw [hx, hy, h1, h2, h3, h4]; simp [hs]
theorem share_none {rz : List Rt} {cz : List Cp} {k : Nat} {x : Cp} (hx : cz[k]! = x) (h : rz.find? (isS x.s) = none) : shareOk rz cz cz[k]! = true := by rw [hx]; unfold shareOk; rw [h]
theorem share_some {rz : List Rt} {cz : List Cp} {k : Nat} {x : Cp} {r : Rt} (hx : cz[k]! = x) (h : rz.find? (isS x.s) = some r) : shareOk rz cz cz[k]! = decide (usedV r x.r cz ≤ r.h) := by rw [hx]; unfold shareOk; rw [h]
theorem left_eq {rz : List Rt} {cz : List Cp} {k : Nat} {x : Cp} (hx : cz[k]! = x) : leftOk rz cz cz[k]! = decide (0 ≤ leftV rz cz x.s x.r x.d) := by rw [hx]; rfl

set_option maxRecDepth 100000 in
set_option maxHeartbeats 1000000 in
theorem AreLawful0_any (ro : Option Addr) (m d : Nat) (rz : List Rt) (ao : Option Addr) (n c : Nat) (zs : List Cp) (w : World) (hrz : rz.length = m) (hm : m ≤ 1048576) (hrr : Rd encRt 4 w.heap.size w ro rz) (hz : zs.length = n) (hn : n ≤ 1048576) (hr : Rd encCp 4 w.heap.size w ao zs) :
    Calls Try.prog 31 #[.slice ro m d, .slice ao n c] w fun e w' => e = .returned (.bool (lawful rz zs)) ∧ Below w.heap.size w w' := by
  have HZ := hide hz
  have HR := hide hr
  have HRZ := hide hrz
  have HRR := hide hrr
  clear hz hr hrz hrr
  have HA := hide (AreRights_any ro m d rz w HRZ.out hm HRR.out)
  cases h0 : areR rz with
  | false =>
    have HO := hide (lawful_rights (cz := zs) h0)
    go_enter Try.func31, Try.ntmps31
    go_wp2_with fail
    refine HA.out.mono ?_
    rintro e w1 ⟨rfl, hb⟩
    have HB := hide hb
    clear hb
    go_wp2
    go_ret
    exact ⟨ret_bool HO.out.symm, HB.out⟩
  | true =>
  have H0 := hide h0
  by_cases hl : n ≤ 15
  rotate_left
  · have HO := hide (lawful_len (rz := rz) (cz := zs) (by rw [HZ.out]; exact hl))
    have hl2 : (15 : Int) < (n : Int) := by omega
    go_enter Try.func31, Try.ntmps31
    go_wp2_with fail
    refine HA.out.mono ?_
    rintro e w1 ⟨rfl, hb⟩
    have HB := hide hb
    clear hb
    go_wp2
    go_ret
    exact ⟨ret_bool HO.out.symm, HB.out⟩
  have hl2 : ¬ (15 : Int) < (n : Int) := by omega
  go_enter Try.func31, Try.ntmps31
  go_wp2_with fail
  refine HA.out.mono ?_
  rintro e w1 ⟨rfl, hb⟩
  have HB := hide hb
  clear hb h0
  rw [H0.out]
  go_wp2
  go_loopg [18] n (fun gk i wr => ∃ k : Nat, k ≤ n ∧ n - k ≤ gk ∧ i = .int .i64 k ∧ Aside (Below w.heap.size w wr) ∧ Aside (∀ j, j < k → stepC zs j = true) ∧ Aside (∀ j, j < k → shareOk rz zs zs[j]! = true))
  case atStart => exact ⟨0, Nat.zero_le _, by omega, rfl, HB.out, fun j hj => absurd hj (Nat.not_lt_zero _), fun j hj => absurd hj (Nat.not_lt_zero _)⟩
  case round =>
    obtain ⟨k, hk, hg, rfl, BW, A, A2⟩ := hrel
    by_cases hlt : k < n
    · have hlti : (k : Int) < (n : Int) := by omega
      obtain ⟨b, off, rfl, hb1, hat⟩ := rdCp HR.out (by rw [HZ.out]; omega)
      obtain ⟨x, hx, hxc⟩ := hat k (by rw [HZ.out]; exact hlt)
      have HX := hide (getB hx)
      obtain ⟨hbr, c0, c1, c2, c3⟩ := hxc wr BW.out
      have HAT := hide hat
      have HXC := hide hxc
      clear hx hxc hat
      go_wp2_with fail
      rcases first4 (inB x.s 1 999) (inB x.r 1 999) (inB x.d 0 4000) (inB x.p 1 100) with h1 | ⟨h1, h2⟩ | ⟨h1, h2, h3⟩ | ⟨h1, h2, h3, h4⟩ | ⟨h1, h2, h3, h4⟩
      iterate 4
        · have HF : Hid (lawful rz zs = false) := hide (lawful_step (by rw [HZ.out]; exact hlt) (stepC_bad0 HX.out (by simp [*])))
          go_quiet ((first | (go_at_call 64; exact quiet_left (isId_any _ _)) | (go_at_call 65; exact quiet_left (isDay_any _ _)) | (go_at_call 76; exact quiet_left (within_any _ _ _ _))))
          go_wp2
          go_ret
          exact ⟨ret_bool HF.out.symm, below_drewN (BW.out.alloc BW.out.size _) _⟩
      · by_cases hk0 : k = 0
        · have k1 : decide (0 < k) = false := by simp [hk0]
          have HOK := hide (stepC_ok0 HX.out h1 h2 h3 h4 hk0)
          clear hk0
          go_quiet ((first | (go_at_call 64; exact quiet_left (isId_any _ _)) | (go_at_call 65; exact quiet_left (isDay_any _ _)) | (go_at_call 76; exact quiet_left (within_any _ _ _ _))))
          clear k1
          have HWN : Hid (Below w.heap.size w ((wr.alloc (.cells #[.int .i64 x.s, .int .i64 x.r, .int .i64 x.d, .int .i64 x.p] 34)).drewN nq)) := hide (below_drewN (BW.out.alloc BW.out.size _) _)
          go_wp2_with fail
          refine (rightOf_any _ _ _ rz _ _ HRZ.out hm (rd_step HRR.out HWN.out)).mono ?_
          rintro e w2 ⟨rfl, hb⟩
          have HB2 := hide (bl_step HWN.out hb)
          have e0 : w2.cell? ⟨wr.heap.size, 0, none⟩ = some (.int .i64 x.s) := (hb.cell (p := ⟨wr.heap.size, 0, none⟩) (by simp)).trans (by simp)
          have e1 : w2.cell? ⟨wr.heap.size, 1, none⟩ = some (.int .i64 x.r) := (hb.cell (p := ⟨wr.heap.size, 1, none⟩) (by simp)).trans (by simp)
          have g0 : wr.heap.size < w2.heap.size := by have := hb.size; simp at this; omega
          clear hb
          rcases idx_cases (isS x.s) rz with ⟨g1, g2, _⟩ | ⟨i, r, hi, hri, hp, g1, g2, _⟩
          · have G := hide (share_none HX.out g2)
            rw [g1]
            clear g1 g2
            have hg0 : decide ((0 : Int) ≤ -1) = false := by decide
            go_wp2_with fail
            go_quiet (fail)
            go_wp2
            go_roundg (n - (k + 1))
            case measure => omega
            case rel => exact ⟨k + 1, by omega, by omega, by go_num, below_drewN HB2.out _, upto_succ A.out HOK.out, upto_succ A2.out G.out⟩
          · have G := hide (share_some HX.out g2)
            rw [g1]
            have him : i < m := by rw [← HRZ.out]; exact hi
            obtain ⟨b', off', rfl, hb1', hat'⟩ := rdRt HRR.out (by omega)
            obtain ⟨r', hr', hrc⟩ := hat' i hi
            obtain rfl : r' = r := by rw [hri] at hr'; injection hr' with h; exact h.symm
            obtain ⟨hbr', d0, d1, d2, d3⟩ := hrc w2 HB2.out
            clear g1 g2 hri hr' hp hrc hat' hi
            have hi0 : (0 : Int) ≤ (i : Int) := by omega
            have hi1 : (i : Int) < (m : Int) := by omega
            by_cases hu : usedV r' x.r zs ≤ r'.h
            all_goals
              have HU := hide hu
              go_wp2_with fail
              go_region_held3 (fun w' => w'.cell? ⟨b', off' + i * 4, none⟩ = some (.int .i64 r'.s) ∧ w'.cell? ⟨b', off' + i * 4 + 1, none⟩ = some (.int .i64 r'.e) ∧ w'.cell? ⟨b', off' + i * 4 + 2, none⟩ = some (.int .i64 r'.h) ∧ w'.cell? ⟨b', off' + i * 4 + 3, none⟩ = some (.int .i64 r'.f) ∧ w'.cell? ⟨wr.heap.size, 1, none⟩ = some (.int .i64 x.r) ∧ Below w2.heap.size w2 w')
                (first | exact ⟨d0, d1, d2, d3, e1, (Below.refl _ _).drew⟩ | go_keep | (go_split_ands; have hq : Below w2.heap.size w2 w' := Below.trans (by assumption) (Below.mono hb (Below.size (by assumption))); exact ⟨(hq.cell (p := ⟨b', off' + i * 4, none⟩) hbr').trans d0, (hq.cell (p := ⟨b', off' + i * 4 + 1, none⟩) hbr').trans d1, (hq.cell (p := ⟨b', off' + i * 4 + 2, none⟩) hbr').trans d2, (hq.cell (p := ⟨b', off' + i * 4 + 3, none⟩) hbr').trans d3, (hq.cell (p := ⟨wr.heap.size, 1, none⟩) g0).trans e1, hq⟩))
                (first | (go_at_call 77; go_split_ands; refine (copied_any r' _ _ _ zs _ _ HZ.out hn (rd_step HR.out (bl_step HB2.out ?_))).mono ?_; assumption; rintro e w' ⟨rfl, hb⟩))
              all_goals
                go_split_ands
                go_wp2
                first
                  | (go_ret
                     exact ⟨ret_bool (lawful_share (by rw [HZ.out]; exact hlt) (by rw [G.out]; simp [HU.out])).symm, bl_step HB2.out (by assumption)⟩)
                  | (go_roundg (n - (k + 1))
                     case measure => omega
                     case rel => exact ⟨k + 1, by omega, by omega, by go_num, bl_step HB2.out (by assumption), upto_succ A.out HOK.out, upto_succ A2.out (by rw [G.out]; simp [HU.out])⟩)
        · obtain ⟨y, hy, hyc⟩ := HAT.out (k - 1) (by rw [HZ.out]; omega)
          obtain ⟨_, p0, p1, p2, p3⟩ := hyc wr BW.out
          clear hyc
          have k1 : 0 < k := by omega
          have k2 : (1 : Int) ≤ (k : Int) := by omega
          have k3 : (0 : Int) ≤ (k : Int) - 1 := by omega
          have k4 : (k : Int) - 1 < (n : Int) := by omega
          have k5 : IntKind.i64.wrap ((k : Int) - 1) = (k : Int) - 1 := IntWalk.i64_in _ (by omega)
          have k6 : ((k : Int) - 1).toNat = k - 1 := by omega
          have HY := hide (getB hy)
          clear hy
          by_cases hs : x.d < y.d
          · have HF : Hid (lawful rz zs = false) := hide (lawful_step (by rw [HZ.out]; exact hlt) (stepC_bad HX.out HY.out k1 hs))
            go_quiet ((first | (go_at_call 64; exact quiet_left (isId_any _ _)) | (go_at_call 65; exact quiet_left (isDay_any _ _)) | (go_at_call 76; exact quiet_left (within_any _ _ _ _))))
            go_wp2
            go_ret
            exact ⟨ret_bool HF.out.symm, below_drewN (BW.out.alloc BW.out.size _) _⟩
          · have HOK := hide (stepC_ok1 HX.out HY.out h1 h2 h3 h4 (by omega))
            go_quiet ((first | (go_at_call 64; exact quiet_left (isId_any _ _)) | (go_at_call 65; exact quiet_left (isDay_any _ _)) | (go_at_call 76; exact quiet_left (within_any _ _ _ _))))
            clear k1
            have HWN : Hid (Below w.heap.size w ((wr.alloc (.cells #[.int .i64 x.s, .int .i64 x.r, .int .i64 x.d, .int .i64 x.p] 34)).drewN nq)) := hide (below_drewN (BW.out.alloc BW.out.size _) _)
            go_wp2_with fail
            refine (rightOf_any _ _ _ rz _ _ HRZ.out hm (rd_step HRR.out HWN.out)).mono ?_
            rintro e w2 ⟨rfl, hb⟩
            have HB2 := hide (bl_step HWN.out hb)
            have e0 : w2.cell? ⟨wr.heap.size, 0, none⟩ = some (.int .i64 x.s) := (hb.cell (p := ⟨wr.heap.size, 0, none⟩) (by simp)).trans (by simp)
            have e1 : w2.cell? ⟨wr.heap.size, 1, none⟩ = some (.int .i64 x.r) := (hb.cell (p := ⟨wr.heap.size, 1, none⟩) (by simp)).trans (by simp)
            have g0 : wr.heap.size < w2.heap.size := by have := hb.size; simp at this; omega
            clear hb
            rcases idx_cases (isS x.s) rz with ⟨g1, g2, _⟩ | ⟨i, r, hi, hri, hp, g1, g2, _⟩
            · have G := hide (share_none HX.out g2)
              rw [g1]
              clear g1 g2
              have hg0 : decide ((0 : Int) ≤ -1) = false := by decide
              go_wp2_with fail
              go_quiet (fail)
              go_wp2
              go_roundg (n - (k + 1))
              case measure => omega
              case rel => exact ⟨k + 1, by omega, by omega, by go_num, below_drewN HB2.out _, upto_succ A.out HOK.out, upto_succ A2.out G.out⟩
            · have G := hide (share_some HX.out g2)
              rw [g1]
              have him : i < m := by rw [← HRZ.out]; exact hi
              obtain ⟨b', off', rfl, hb1', hat'⟩ := rdRt HRR.out (by omega)
              obtain ⟨r', hr', hrc⟩ := hat' i hi
              obtain rfl : r' = r := by rw [hri] at hr'; injection hr' with h; exact h.symm
              obtain ⟨hbr', d0, d1, d2, d3⟩ := hrc w2 HB2.out
              clear g1 g2 hri hr' hp hrc hat' hi
              have hi0 : (0 : Int) ≤ (i : Int) := by omega
              have hi1 : (i : Int) < (m : Int) := by omega
              by_cases hu : usedV r' x.r zs ≤ r'.h
              all_goals
                have HU := hide hu
                go_wp2_with fail
                go_region_held3 (fun w' => w'.cell? ⟨b', off' + i * 4, none⟩ = some (.int .i64 r'.s) ∧ w'.cell? ⟨b', off' + i * 4 + 1, none⟩ = some (.int .i64 r'.e) ∧ w'.cell? ⟨b', off' + i * 4 + 2, none⟩ = some (.int .i64 r'.h) ∧ w'.cell? ⟨b', off' + i * 4 + 3, none⟩ = some (.int .i64 r'.f) ∧ w'.cell? ⟨wr.heap.size, 1, none⟩ = some (.int .i64 x.r) ∧ Below w2.heap.size w2 w')
                  (first | exact ⟨d0, d1, d2, d3, e1, (Below.refl _ _).drew⟩ | go_keep | (go_split_ands; have hq : Below w2.heap.size w2 w' := Below.trans (by assumption) (Below.mono hb (Below.size (by assumption))); exact ⟨(hq.cell (p := ⟨b', off' + i * 4, none⟩) hbr').trans d0, (hq.cell (p := ⟨b', off' + i * 4 + 1, none⟩) hbr').trans d1, (hq.cell (p := ⟨b', off' + i * 4 + 2, none⟩) hbr').trans d2, (hq.cell (p := ⟨b', off' + i * 4 + 3, none⟩) hbr').trans d3, (hq.cell (p := ⟨wr.heap.size, 1, none⟩) g0).trans e1, hq⟩))
                  (first | (go_at_call 77; go_split_ands; refine (copied_any r' _ _ _ zs _ _ HZ.out hn (rd_step HR.out (bl_step HB2.out ?_))).mono ?_; assumption; rintro e w' ⟨rfl, hb⟩))
                all_goals
                  go_split_ands
                  go_wp2
                  first
                    | (go_ret
                       exact ⟨ret_bool (lawful_share (by rw [HZ.out]; exact hlt) (by rw [G.out]; simp [HU.out])).symm, bl_step HB2.out (by assumption)⟩)
                    | (go_roundg (n - (k + 1))
                       case measure => omega
                       case rel => exact ⟨k + 1, by omega, by omega, by go_num, bl_step HB2.out (by assumption), upto_succ A.out HOK.out, upto_succ A2.out (by rw [G.out]; simp [HU.out])⟩)
    · have hge : ¬ (k : Int) < (n : Int) := by omega
      go_wp2
      go_ret
      exact ⟨ret_bool (lawful_trueI H0.out (by rw [HZ.out]; exact hl) (fun j hj => A.out j (by rw [HZ.out] at hj; omega)) (fun j hj => A2.out j (by rw [HZ.out] at hj; omega))).symm, BW.out⟩

end Go.Proofs.Ytpghdjehagamlaa
