/- What copyings cost. -/
import Derived.Test.YtpghdjehagamlaaR7
namespace Go.Proofs.Ytpghdjehagamlaa
open Go.RowKit

/-- what a copying costs -/
def costV (rz : List Rt) (x : Cp) : Int := match rz.find? (isS x.s) with | none => 0 | some r => if r.e < x.d then 0 else wrap64 (r.f * x.p)
theorem cost_none {rz : List Rt} {x : Cp} (h : rz.find? (isS x.s) = none) : costV rz x = 0 ∧ freeR rz x.s x.d = true := by unfold costV freeR; rw [h]; exact ⟨rfl, rfl⟩
theorem cost_free {rz : List Rt} {x : Cp} {r : Rt} (h : rz.find? (isS x.s) = some r) (hd : r.e < x.d) : costV rz x = 0 ∧ freeR rz x.s x.d = true := by unfold costV freeR; rw [h]; simp [hd]
theorem cost_some {rz : List Rt} {x : Cp} {r : Rt} (h : rz.find? (isS x.s) = some r) (hd : ¬ r.e < x.d) : costV rz x = wrap64 (r.f * x.p) ∧ freeR rz x.s x.d = false := by unfold costV freeR; rw [h]; simp [hd]

set_option maxRecDepth 100000 in
theorem copyCost_any (ro : Option Addr) (m d : Nat) (rz : List Rt) (x : Cp) (w : World) (hrz : rz.length = m) (hm : m ≤ 1048576) (hrr : Rd encRt 4 w.heap.size w ro rz) :
    Calls Try.prog 55 #[.slice ro m d, .agg #[.int .i64 x.s, .int .i64 x.r, .int .i64 x.d, .int .i64 x.p]] w fun e w' => e = .returned (.int .i64 (costV rz x)) ∧ Below w.heap.size w w' := by
  have HRZ := hide hrz
  obtain ⟨W, hW⟩ : ∃ W, W = w.alloc (.cells #[.int .i64 x.s, .int .i64 x.r, .int .i64 x.d, .int .i64 x.p] 34) := ⟨_, rfl⟩
  have HRR : Hid (Rd encRt 4 W.heap.size W ro rz) := hide (by rw [hW]; exact (hrr.alloc _).mono (by simp))
  have g0 : w.heap.size < W.heap.size := by rw [hW]; simp
  have e0 : W.cell? ⟨w.heap.size, 0, none⟩ = some (.int .i64 x.s) := by rw [hW]; simp
  have e2 : W.cell? ⟨w.heap.size, 2, none⟩ = some (.int .i64 x.d) := by rw [hW]; simp
  have e3 : W.cell? ⟨w.heap.size, 3, none⟩ = some (.int .i64 x.p) := by rw [hW]; simp
  have HBW : Hid (Below w.heap.size w W) := hide (by rw [hW]; exact (Below.refl _ _).alloc (Nat.le_refl _) _)
  have HW := hide hW
  clear hrz hrr hW
  have HF := hide (isFree_any ro m d rz x.s x.d W HRZ.out hm HRR.out)
  rcases idx_cases (isS x.s) rz with ⟨g1, g2, _⟩ | ⟨k, r, hk, hx, hp, g1, g2, _⟩
  · have G := hide (cost_none g2)
    clear g1 g2
    go_enter Try.func55, Try.ntmps55
    go_wp2_with fail
    rw [← HW.out]
    refine HF.out.mono ?_
    rintro e w1 ⟨rfl, hb⟩
    rw [G.out.2]
    have HB := hide (HBW.out.trans (Below.mono hb HBW.out.size))
    clear hb
    go_wp2
    go_ret
    exact ⟨ret_int G.out.1.symm, HB.out⟩
  · by_cases hd : r.e < x.d
    · have G := hide (cost_free g2 hd)
      clear g1 g2 hx hp hk
      go_enter Try.func55, Try.ntmps55
      go_wp2_with fail
      rw [← HW.out]
      refine HF.out.mono ?_
      rintro e w1 ⟨rfl, hb⟩
      rw [G.out.2]
      have HB := hide (HBW.out.trans (Below.mono hb HBW.out.size))
      clear hb
      go_wp2
      go_ret
      exact ⟨ret_int G.out.1.symm, HB.out⟩
    · have G := hide (cost_some g2 hd)
      have G1 := hide g1
      have hkn : k < m := by rw [← HRZ.out]; exact hk
      obtain ⟨b, off, rfl, hb1, hat⟩ := rdRt HRR.out (by omega)
      obtain ⟨r', hr', hrc⟩ := hat k hk
      obtain rfl : r' = r := by rw [hx] at hr'; injection hr' with h; exact h.symm
      have HXC := hide hrc
      clear g1 g2 hx hr' hp hat hrc hk hd
      have hki : (k : Int) < (m : Int) := by omega
      have hk0 : (0 : Int) ≤ (k : Int) := by omega
      go_enter Try.func55, Try.ntmps55
      go_wp2_with fail
      rw [← HW.out]
      refine HF.out.mono ?_
      rintro e w1 ⟨rfl, hb⟩
      rw [G.out.2]
      have HB := hide hb
      have q0 : w1.cell? ⟨w.heap.size, 0, none⟩ = some (.int .i64 x.s) := (HB.out.cell (p := ⟨w.heap.size, 0, none⟩) g0).trans e0
      have q3 : w1.cell? ⟨w.heap.size, 3, none⟩ = some (.int .i64 x.p) := (HB.out.cell (p := ⟨w.heap.size, 3, none⟩) g0).trans e3
      have g1 : w.heap.size < w1.heap.size := Nat.lt_of_lt_of_le g0 HB.out.size
      obtain ⟨hbr, c0, c1, c2, c3⟩ := HXC.out w1 HB.out
      clear hb e0 e2 e3 HF
      go_wp2_with fail
      go_region_held3 (fun w' => w'.cell? ⟨b, off + k * 4 + 3, none⟩ = some (.int .i64 r'.f) ∧ w'.cell? ⟨w.heap.size, 0, none⟩ = some (.int .i64 x.s) ∧ w'.cell? ⟨w.heap.size, 3, none⟩ = some (.int .i64 x.p) ∧ Below w1.heap.size w1 w')
        (first | exact ⟨c3, q0, q3, (Below.refl _ _).drew⟩ | go_keep | (go_split_ands; have hq : Below w1.heap.size w1 w' := Below.trans (by assumption) (Below.mono hb (Below.size (by assumption))); exact ⟨(hq.cell (p := ⟨b, off + k * 4 + 3, none⟩) hbr).trans c3, (hq.cell (p := ⟨w.heap.size, 0, none⟩) g1).trans q0, (hq.cell (p := ⟨w.heap.size, 3, none⟩) g1).trans q3, hq⟩))
        (first | (go_at_call 69; go_split_ands; refine (rightOf_any _ _ _ rz _ _ HRZ.out hm (rd_step HRR.out (bl_step HB.out ?_))).mono ?_; assumption; rintro e w' ⟨rfl, hb⟩; rw [G1.out]))
      all_goals
        go_wp2
        go_ret
        go_split_ands
        exact ⟨ret_int (by rw [G.out.1, wrapEq]), HBW.out.trans (Below.mono (bl_step HB.out (by assumption)) HBW.out.size)⟩

set_option maxRecDepth 100000 in
theorem l14Cost_any (ro : Option Addr) (m d : Nat) (rz : List Rt) (x : Cp) (w : World) (hrz : rz.length = m) (hm : m ≤ 1048576) (hrr : Rd encRt 4 w.heap.size w ro rz) :
    Calls Try.prog 52 #[.slice ro m d, .agg #[.int .i64 x.s, .int .i64 x.r, .int .i64 x.d, .int .i64 x.p]] w fun e w' => e = .returned (.int .i64 (costV rz x)) ∧ Below w.heap.size w w' := by
  have HRZ := hide hrz
  obtain ⟨W, hW⟩ : ∃ W, W = w.alloc (.cells #[.int .i64 x.s, .int .i64 x.r, .int .i64 x.d, .int .i64 x.p] 34) := ⟨_, rfl⟩
  have HRR : Hid (Rd encRt 4 W.heap.size W ro rz) := hide (by rw [hW]; exact (hrr.alloc _).mono (by simp))
  have g0 : w.heap.size < W.heap.size := by rw [hW]; simp
  have e0 : W.cell? ⟨w.heap.size, 0, none⟩ = some (.int .i64 x.s) := by rw [hW]; simp
  have e2 : W.cell? ⟨w.heap.size, 2, none⟩ = some (.int .i64 x.d) := by rw [hW]; simp
  have e3 : W.cell? ⟨w.heap.size, 3, none⟩ = some (.int .i64 x.p) := by rw [hW]; simp
  have HBW : Hid (Below w.heap.size w W) := hide (by rw [hW]; exact (Below.refl _ _).alloc (Nat.le_refl _) _)
  have HW := hide hW
  clear hrz hrr hW
  have HF := hide (l14Free_any ro m d rz x.s x.d W HRZ.out hm HRR.out)
  rcases idx_cases (isS x.s) rz with ⟨g1, g2, _⟩ | ⟨k, r, hk, hx, hp, g1, g2, _⟩
  · have G := hide (cost_none g2)
    clear g1 g2
    go_enter Try.func52, Try.ntmps52
    go_wp2_with fail
    rw [← HW.out]
    refine HF.out.mono ?_
    rintro e w1 ⟨rfl, hb⟩
    rw [G.out.2]
    have HB := hide (HBW.out.trans (Below.mono (bl_eq hb) HBW.out.size))
    clear hb
    go_wp2
    go_ret
    exact ⟨ret_int G.out.1.symm, HB.out⟩
  · by_cases hd : r.e < x.d
    · have G := hide (cost_free g2 hd)
      clear g1 g2 hx hp hk
      go_enter Try.func52, Try.ntmps52
      go_wp2_with fail
      rw [← HW.out]
      refine HF.out.mono ?_
      rintro e w1 ⟨rfl, hb⟩
      rw [G.out.2]
      have HB := hide (HBW.out.trans (Below.mono (bl_eq hb) HBW.out.size))
      clear hb
      go_wp2
      go_ret
      exact ⟨ret_int G.out.1.symm, HB.out⟩
    · have G := hide (cost_some g2 hd)
      have G1 := hide g1
      have hkn : k < m := by rw [← HRZ.out]; exact hk
      obtain ⟨b, off, rfl, hb1, hat⟩ := rdRt HRR.out (by omega)
      obtain ⟨r', hr', hrc⟩ := hat k hk
      obtain rfl : r' = r := by rw [hx] at hr'; injection hr' with h; exact h.symm
      have HXC := hide hrc
      clear g1 g2 hx hr' hp hat hrc hk hd
      have hki : (k : Int) < (m : Int) := by omega
      have hk0 : (0 : Int) ≤ (k : Int) := by omega
      go_enter Try.func52, Try.ntmps52
      go_wp2_with fail
      rw [← HW.out]
      refine HF.out.mono ?_
      rintro e w1 ⟨rfl, hb⟩
      rw [G.out.2]
      have HB := hide (bl_eq hb)
      have q0 : w1.cell? ⟨w.heap.size, 0, none⟩ = some (.int .i64 x.s) := (HB.out.cell (p := ⟨w.heap.size, 0, none⟩) g0).trans e0
      have q3 : w1.cell? ⟨w.heap.size, 3, none⟩ = some (.int .i64 x.p) := (HB.out.cell (p := ⟨w.heap.size, 3, none⟩) g0).trans e3
      have g1 : w.heap.size < w1.heap.size := Nat.lt_of_lt_of_le g0 HB.out.size
      obtain ⟨hbr, c0, c1, c2, c3⟩ := HXC.out w1 HB.out
      clear hb e0 e2 e3 HF
      go_wp2_with fail
      go_region_held3 (fun w' => w'.cell? ⟨b, off + k * 4 + 3, none⟩ = some (.int .i64 r'.f) ∧ w'.cell? ⟨w.heap.size, 0, none⟩ = some (.int .i64 x.s) ∧ w'.cell? ⟨w.heap.size, 3, none⟩ = some (.int .i64 x.p) ∧ Below w1.heap.size w1 w')
        (first | exact ⟨c3, q0, q3, (Below.refl _ _).drew⟩ | go_keep | (go_split_ands; have hq : Below w1.heap.size w1 w' := Below.trans (by assumption) (Below.mono hb (Below.size (by assumption))); exact ⟨(hq.cell (p := ⟨b, off + k * 4 + 3, none⟩) hbr).trans c3, (hq.cell (p := ⟨w.heap.size, 0, none⟩) g1).trans q0, (hq.cell (p := ⟨w.heap.size, 3, none⟩) g1).trans q3, hq⟩))
        (first | (go_at_call 72; go_split_ands; refine (l14Find_any _ _ _ rz _ _ HRZ.out hm (rd_step HRR.out (bl_step HB.out ?_))).mono ?_; assumption; rintro e w' ⟨rfl, rfl⟩; rw [G1.out]))
      all_goals
        go_wp2
        go_ret
        go_split_ands
        exact ⟨ret_int (by rw [G.out.1, wrapEq]), HBW.out.trans (Below.mono (bl_step HB.out (by assumption)) HBW.out.size)⟩

/-- a test of a copying, by a closure that reads what it captured and makes memory of its own -/
def KeepAt (g : Nat) (lb : Array Value) (p : Cp → Bool) (w : World) : Prop := ∀ (W : World) (x : Cp), Below w.heap.size w W → Calls Try.prog g (#[.agg #[.int .i64 x.s, .int .i64 x.r, .int .i64 x.d, .int .i64 x.p]] ++ lb) W fun e w' => e = .returned (.bool (p x)) ∧ Below W.heap.size W w'
theorem KeepAt.later {g : Nat} {lb : Array Value} {p : Cp → Bool} {w w' : World} (h : KeepAt g lb p w) (hb : Below w.heap.size w w') : KeepAt g lb p w' := fun W x hW => h W x (bl_step hb hW)
set_option maxRecDepth 100000 in
theorem costOf_any (g : Nat) (lb : Array Value) (p : Cp → Bool) (eg : ∀ args w, (callFunc g args).run Try.prog w = .ok (.enter g args) w) (ro : Option Addr) (m d : Nat) (rz : List Rt) (ao : Option Addr) (n c : Nat) (zs : List Cp) (w : World) (hrz : rz.length = m) (hm : m ≤ 1048576) (hrr : Rd encRt 4 w.heap.size w ro rz) (hz : zs.length = n) (hn : n ≤ 1048576) (hr : Rd encCp 4 w.heap.size w ao zs) (hp : KeepAt g lb p w) :
    Calls Try.prog 86 #[.slice ro m d, .slice ao n c, .func (.func g) #[] lb] w fun e w' => e = .returned (.int .i64 (sumI (costV rz) p zs)) ∧ Below w.heap.size w w' := by
  have HZ := hide hz
  have HR := hide hr
  have HRZ := hide hrz
  have HRR := hide hrr
  clear hz hr hrz hrr
  have HP := hide hp
  clear hp
  go_enter Try.func86, Try.ntmps86
  go_wp2
  go_loopg [7, 12] n (fun gk t i wr => ∃ k : Nat, k ≤ n ∧ n - k ≤ gk ∧ i = .int .i64 k ∧ t = .int .i64 (sumI (costV rz) p (zs.take k)) ∧ Aside (Below w.heap.size w wr))
  case atStart => exact ⟨0, Nat.zero_le _, by omega, rfl, by rw [sum_zero], Below.refl _ w⟩
  case round =>
    obtain ⟨k, hk, hg, rfl, rfl, BW⟩ := hrel
    by_cases hlt : k < n
    · have hltz : (k : Int) < (n : Int) := by omega
      obtain ⟨b, off, rfl, hb1, hat⟩ := rdCp HR.out (by rw [HZ.out]; omega)
      obtain ⟨x, hx, hxc⟩ := hat k (by rw [HZ.out]; exact hlt)
      have HX := hide hx
      obtain ⟨hbr, c0, c1, c2, c3⟩ := hxc wr BW.out
      have HWN := hide (BW.out.alloc BW.out.size (.cells #[.int .i64 x.s, .int .i64 x.r, .int .i64 x.d, .int .i64 x.p] 34))
      have hcall := HP.out (wr.alloc (.cells #[.int .i64 x.s, .int .i64 x.r, .int .i64 x.d, .int .i64 x.p] 34)) x HWN.out
      clear hx hxc hat
      generalize ht : sumI (costV rz) p (zs.take k) = t
      have HT := hide ht
      clear ht
      cases hq : p x with
      | true =>
        rw [hq] at hcall
        have HQ := hide hq
        clear hq
        go_wp2_with fail
        refine hcall.mono ?_
        rintro e w2 ⟨rfl, hb⟩
        have HB2 := hide (bl_step HWN.out hb)
        have f0 : w2.cell? ⟨wr.heap.size, 0, none⟩ = some (.int .i64 x.s) := (hb.cell (p := ⟨wr.heap.size, 0, none⟩) (by simp)).trans (by simp)
        have f1 : w2.cell? ⟨wr.heap.size, 1, none⟩ = some (.int .i64 x.r) := (hb.cell (p := ⟨wr.heap.size, 1, none⟩) (by simp)).trans (by simp)
        have f2 : w2.cell? ⟨wr.heap.size, 2, none⟩ = some (.int .i64 x.d) := (hb.cell (p := ⟨wr.heap.size, 2, none⟩) (by simp)).trans (by simp)
        have f3 : w2.cell? ⟨wr.heap.size, 3, none⟩ = some (.int .i64 x.p) := (hb.cell (p := ⟨wr.heap.size, 3, none⟩) (by simp)).trans (by simp)
        clear hb hcall
        go_wp2_with fail
        refine (copyCost_any _ _ _ rz x _ HRZ.out hm (rd_step HRR.out HB2.out)).mono ?_
        rintro e w3 ⟨rfl, hb⟩
        have HB3 := hide (bl_step HB2.out hb)
        clear hb
        generalize hv : costV rz x = v
        have HV := hide hv
        clear hv
        go_wp2
        go_roundg (n - (k + 1))
        case measure => omega
        case rel => exact ⟨k + 1, by omega, by omega, by go_num, by rw [sum_yes HX.out HQ.out, HT.out, HV.out], HB3.out⟩
      | false =>
        rw [hq] at hcall
        have HQ := hide hq
        clear hq
        go_wp2_with fail
        refine hcall.mono ?_
        rintro e w2 ⟨rfl, hb⟩
        have HB2 := hide (bl_step HWN.out hb)
        clear hb hcall
        go_wp2
        go_roundg (n - (k + 1))
        case measure => omega
        case rel => exact ⟨k + 1, by omega, by omega, by go_num, by rw [sum_no HX.out HQ.out, HT.out], HB2.out⟩
    · have hltz : ¬ (k : Int) < (n : Int) := by omega
      go_wp2
      go_ret
      exact ⟨ret_int (by rw [sum_all (by rw [HZ.out]; omega)]), BW.out⟩
def isSh (s : Int) (x : Cp) : Bool := x.s == s
def isRd (r : Int) (x : Cp) : Bool := x.r == r
theorem keepSh (s : Int) (B : Nat) (w : World) (hB : B < w.heap.size) (hc : w.cell? ⟨B, 0, none⟩ = some (.int .i64 s)) : KeepAt 97 #[.pointer (some ⟨B, 0, none⟩)] (isSh s) w := fun W x hb => by
  have hc' : W.cell? ⟨B, 0, none⟩ = some (.int .i64 s) := (hb.cell (p := ⟨B, 0, none⟩) hB).trans hc
  have hBW : B < W.heap.size := Nat.lt_of_lt_of_le hB hb.size
  show Calls Try.prog 97 #[.agg #[.int .i64 x.s, .int .i64 x.r, .int .i64 x.d, .int .i64 x.p], .pointer (some ⟨B, 0, none⟩)] W _
  clear hc hb
  go_enter Try.func97, Try.ntmps97
  go_wp2
  go_ret
  exact ⟨rfl, (Below.refl _ _).alloc (Nat.le_refl _) _⟩
theorem keepRd (s : Int) (B : Nat) (w : World) (hB : B < w.heap.size) (hc : w.cell? ⟨B, 0, none⟩ = some (.int .i64 s)) : KeepAt 87 #[.pointer (some ⟨B, 0, none⟩)] (isRd s) w := fun W x hb => by
  have hc' : W.cell? ⟨B, 0, none⟩ = some (.int .i64 s) := (hb.cell (p := ⟨B, 0, none⟩) hB).trans hc
  have hBW : B < W.heap.size := Nat.lt_of_lt_of_le hB hb.size
  show Calls Try.prog 87 #[.agg #[.int .i64 x.s, .int .i64 x.r, .int .i64 x.d, .int .i64 x.p], .pointer (some ⟨B, 0, none⟩)] W _
  clear hc hb
  go_enter Try.func87, Try.ntmps87
  go_wp2
  go_ret
  exact ⟨rfl, (Below.refl _ _).alloc (Nat.le_refl _) _⟩
/-- what the copyings of a sheet cost -/
def earnV (rz : List Rt) (zs : List Cp) (s : Int) : Int := sumI (costV rz) (isSh s) zs
set_option maxRecDepth 100000 in
theorem earnedBy_any (ro : Option Addr) (m d : Nat) (rz : List Rt) (ao : Option Addr) (n c : Nat) (zs : List Cp) (s : Int) (w : World) (hrz : rz.length = m) (hm : m ≤ 1048576) (hrr : Rd encRt 4 w.heap.size w ro rz) (hz : zs.length = n) (hn : n ≤ 1048576) (hr : Rd encCp 4 w.heap.size w ao zs) :
    Calls Try.prog 85 #[.slice ro m d, .slice ao n c, .int .i64 s] w fun e w' => e = .returned (.int .i64 (earnV rz zs s)) ∧ Below w.heap.size w w' := by
  have eg : ∀ args w, (callFunc 97 args).run Try.prog w = .ok (.enter 97 args) w := enters_at Try.func97 (by kernel_rfl) rfl
  have H := hide (costOf_any 97 #[.pointer (some ⟨w.heap.size, 0, none⟩)] (isSh s) eg ro m d rz ao n c zs (w.alloc (.cells #[.int .i64 s] 3)) hrz hm ((hrr.alloc _).mono (by simp)) hz hn ((hr.alloc _).mono (by simp)) (keepSh s w.heap.size _ (by simp) (by simp)))
  clear hrz hrr hz hr eg
  go_enter Try.func85, Try.ntmps85
  go_wp2_with fail
  refine H.out.mono ?_
  rintro e w' ⟨rfl, hb⟩
  go_wp2
  go_ret
  exact ⟨rfl, ((Below.refl _ w).alloc (Nat.le_refl _) _).trans (hb.mono (by simp))⟩

set_option maxRecDepth 100000 in
theorem l14Earned_any (ro : Option Addr) (m d : Nat) (rz : List Rt) (ao : Option Addr) (n c : Nat) (zs : List Cp) (s : Int) (w : World) (hrz : rz.length = m) (hm : m ≤ 1048576) (hrr : Rd encRt 4 w.heap.size w ro rz) (hz : zs.length = n) (hn : n ≤ 1048576) (hr : Rd encCp 4 w.heap.size w ao zs) :
    Calls Try.prog 79 #[.slice ro m d, .slice ao n c, .int .i64 s] w fun e w' => e = .returned (.int .i64 (earnV rz zs s)) ∧ Below w.heap.size w w' := by
  have HZ := hide hz
  have HR := hide hr
  have HRZ := hide hrz
  have HRR := hide hrr
  clear hz hr hrz hrr
  go_enter Try.func79, Try.ntmps79
  go_wp2
  go_loopg [7, 8] n (fun gk t i wr => ∃ k : Nat, k ≤ n ∧ n - k ≤ gk ∧ i = .int .i64 k ∧ t = .int .i64 (sumI (costV rz) (isSh s) (zs.take k)) ∧ Aside (Below w.heap.size w wr))
  case atStart => exact ⟨0, Nat.zero_le _, by omega, rfl, by rw [sum_zero], Below.refl _ w⟩
  case round =>
    obtain ⟨k, hk, hg, rfl, rfl, BW⟩ := hrel
    by_cases hlt : k < n
    · have hltz : (k : Int) < (n : Int) := by omega
      obtain ⟨b, off, rfl, hb1, hat⟩ := rdCp HR.out (by rw [HZ.out]; omega)
      obtain ⟨x, hx, hxc⟩ := hat k (by rw [HZ.out]; exact hlt)
      have HX := hide hx
      obtain ⟨hbr, c0, c1, c2, c3⟩ := hxc wr BW.out
      clear hx hxc hat
      generalize ht : sumI (costV rz) (isSh s) (zs.take k) = t
      have HT := hide ht
      clear ht
      cases hq : (x.s == s) with
      | true =>
        have HQ : Hid (isSh s x = true) := hide hq
        go_wp2_with fail
        refine (l14Cost_any _ _ _ rz x _ HRZ.out hm (rd_step HRR.out BW.out)).mono ?_
        rintro e w3 ⟨rfl, hb⟩
        have HB3 := hide (bl_step BW.out hb)
        clear hb
        generalize hv : costV rz x = v
        have HV := hide hv
        clear hv
        go_wp2
        go_roundg (n - (k + 1))
        case measure => omega
        case rel => exact ⟨k + 1, by omega, by omega, by go_num, by rw [sum_yes HX.out HQ.out, HT.out, HV.out], HB3.out⟩
      | false =>
        have HQ : Hid (isSh s x = false) := hide hq
        go_wp2
        go_roundg (n - (k + 1))
        case measure => omega
        case rel => exact ⟨k + 1, by omega, by omega, by go_num, by rw [sum_no HX.out HQ.out, HT.out], BW.out⟩
    · have hltz : ¬ (k : Int) < (n : Int) := by omega
      go_wp2
      go_ret
      exact ⟨ret_int (by unfold earnV; rw [sum_all (by rw [HZ.out]; omega)]), BW.out⟩

end Go.Proofs.Ytpghdjehagamlaa
