/- What is left. -/
import Derived.Test.YtpghdjehagamlaaR4
namespace Go.Proofs.Ytpghdjehagamlaa
open Go.RowKit

theorem wrapEq (x : Int) : IntKind.i64.wrap x = wrap64 x := by unfold wrap64; exact IntKind.wrap_i64 x
/-- how much a reader may still copy on a day -/
def leftV (rz : List Rt) (cz : List Cp) (s rd d : Int) : Int := match rz.find? (isS s) with | none => 100 | some r => if r.e < d then 100 else wrap64 (r.h - usedV r rd cz)
theorem left_none {rz : List Rt} {cz : List Cp} {s rd d : Int} (h : rz.find? (isS s) = none) : leftV rz cz s rd d = 100 ∧ freeR rz s d = true := by unfold leftV freeR; rw [h]; exact ⟨rfl, rfl⟩
theorem left_free {rz : List Rt} {cz : List Cp} {s rd d : Int} {r : Rt} (h : rz.find? (isS s) = some r) (hd : r.e < d) : leftV rz cz s rd d = 100 ∧ freeR rz s d = true := by
  unfold leftV freeR; rw [h]; simp [hd]
theorem left_some {rz : List Rt} {cz : List Cp} {s rd d : Int} {r : Rt} (h : rz.find? (isS s) = some r) (hd : ¬ r.e < d) : leftV rz cz s rd d = wrap64 (r.h - usedV r rd cz) ∧ freeR rz s d = false := by
  unfold leftV freeR; rw [h]; simp [hd]
set_option maxRecDepth 100000 in
theorem partLeft_any (ro : Option Addr) (m d : Nat) (rz : List Rt) (ao : Option Addr) (n c : Nat) (zs : List Cp) (s rd dy : Int) (w : World) (hrz : rz.length = m) (hm : m ≤ 1048576) (hrr : Rd encRt 4 w.heap.size w ro rz) (hz : zs.length = n) (hn : n ≤ 1048576) (hr : Rd encCp 4 w.heap.size w ao zs) :
    Calls Try.prog 66 #[.slice ro m d, .slice ao n c, .int .i64 s, .int .i64 rd, .int .i64 dy] w fun e w' => e = .returned (.int .i64 (leftV rz zs s rd dy)) ∧ Below w.heap.size w w' := by
  have HZ := hide hz
  have HR := hide hr
  have HRZ := hide hrz
  have HRR := hide hrr
  clear hz hr hrz hrr
  have HF := hide (isFree_any ro m d rz s dy w HRZ.out hm HRR.out)
  rcases idx_cases (isS s) rz with ⟨g1, g2, _⟩ | ⟨k, x, hk, hx, hp, g1, g2, _⟩
  · have G := hide (left_none (cz := zs) (rd := rd) (d := dy) g2)
    clear g1 g2
    go_enter Try.func66, Try.ntmps66
    go_wp2_with fail
    refine HF.out.mono ?_
    rintro e w1 ⟨rfl, hb⟩
    rw [G.out.2]
    have HB := hide hb
    clear hb
    go_wp2
    go_ret
    exact ⟨ret_int G.out.1.symm, HB.out⟩
  · by_cases hd : x.e < dy
    · have G := hide (left_free (cz := zs) (rd := rd) g2 hd)
      clear g1 g2 hx hp hk
      go_enter Try.func66, Try.ntmps66
      go_wp2_with fail
      refine HF.out.mono ?_
      rintro e w1 ⟨rfl, hb⟩
      rw [G.out.2]
      have HB := hide hb
      clear hb
      go_wp2
      go_ret
      exact ⟨ret_int G.out.1.symm, HB.out⟩
    · have G := hide (left_some (cz := zs) (rd := rd) g2 hd)
      have G1 := hide g1
      have hkn : k < m := by rw [← HRZ.out]; exact hk
      obtain ⟨b, off, rfl, hb1, hat⟩ := rdRt HRR.out (by omega)
      obtain ⟨x', hx', hxc⟩ := hat k hk
      obtain rfl : x' = x := by rw [hx] at hx'; injection hx' with h; exact h.symm
      have HXC := hide hxc
      clear g1 g2 hx hx' hp hat hxc hk hd
      have hki : (k : Int) < (m : Int) := by omega
      go_enter Try.func66, Try.ntmps66
      go_wp2_with fail
      refine HF.out.mono ?_
      rintro e w1 ⟨rfl, hb⟩
      rw [G.out.2]
      have HRR1 := hide (rd_step HRR.out hb)
      have HR1 := hide (rd_step HR.out hb)
      have HB := hide hb
      clear hb HF
      go_wp2_with fail
      refine (rightOf_any _ _ _ rz _ _ HRZ.out hm HRR1.out).mono ?_
      rintro e w2 ⟨rfl, hb⟩
      rw [G1.out]
      have HR2 := hide (rd_step HR1.out hb)
      have HB2 := hide (bl_step HB.out hb)
      obtain ⟨hbr, c0, c1, c2, c3⟩ := HXC.out w2 HB2.out
      clear hb HR1 HRR1 HB
      go_wp2_with fail
      obtain ⟨W, hW⟩ : ∃ W, W = w2.alloc (.cells #[.int .i64 x'.s, .int .i64 x'.e, .int .i64 x'.h, .int .i64 x'.f] 72) := ⟨_, rfl⟩
      have HR3 : Hid (Rd encCp 4 W.heap.size W ao zs) := hide (by rw [hW]; exact (HR2.out.alloc _).mono (by simp))
      have e0 : W.cell? ⟨w2.heap.size, 0, none⟩ = some (.int .i64 x'.s) := by rw [hW]; simp
      have e1 : W.cell? ⟨w2.heap.size, 1, none⟩ = some (.int .i64 x'.e) := by rw [hW]; simp
      have e2 : W.cell? ⟨w2.heap.size, 2, none⟩ = some (.int .i64 x'.h) := by rw [hW]; simp
      have e3 : W.cell? ⟨w2.heap.size, 3, none⟩ = some (.int .i64 x'.f) := by rw [hW]; simp
      have g0 : w2.heap.size < W.heap.size := by rw [hW]; simp
      have HBW : Hid (Below w.heap.size w W) := hide (by rw [hW]; exact HB2.out.alloc HB2.out.size _)
      rw [← hW]
      clear hW
      go_region_held3 (fun w' => w'.cell? ⟨w2.heap.size, 0, none⟩ = some (.int .i64 x'.s) ∧ w'.cell? ⟨w2.heap.size, 1, none⟩ = some (.int .i64 x'.e) ∧ w'.cell? ⟨w2.heap.size, 2, none⟩ = some (.int .i64 x'.h) ∧ w'.cell? ⟨w2.heap.size, 3, none⟩ = some (.int .i64 x'.f) ∧ Below W.heap.size W w')
        (first | exact ⟨e0, e1, e2, e3, (Below.refl _ _).drew⟩ | go_keep | (go_split_ands; have hq : Below W.heap.size W w' := Below.trans (by assumption) (Below.mono hb (Below.size (by assumption))); exact ⟨(hq.cell (p := ⟨w2.heap.size, 0, none⟩) g0).trans e0, (hq.cell (p := ⟨w2.heap.size, 1, none⟩) g0).trans e1, (hq.cell (p := ⟨w2.heap.size, 2, none⟩) g0).trans e2, (hq.cell (p := ⟨w2.heap.size, 3, none⟩) g0).trans e3, hq⟩))
        (first | (go_at_call 77; go_split_ands; refine (copied_any x' _ _ _ zs _ _ HZ.out hn (rd_step HR3.out ?_)).mono ?_; assumption; rintro e w' ⟨rfl, hb⟩))
      all_goals
        go_wp2
        go_ret
        go_split_ands
        exact ⟨ret_int (by rw [G.out.1, wrapEq]), HBW.out.trans (Below.mono (B := W.heap.size) (by assumption) HBW.out.size)⟩

set_option maxRecDepth 100000 in
theorem l14Left_any (ro : Option Addr) (m d : Nat) (rz : List Rt) (ao : Option Addr) (n c : Nat) (zs : List Cp) (s rd dy : Int) (w : World) (hrz : rz.length = m) (hm : m ≤ 1048576) (hrr : Rd encRt 4 w.heap.size w ro rz) (hz : zs.length = n) (hn : n ≤ 1048576) (hr : Rd encCp 4 w.heap.size w ao zs) :
    Calls Try.prog 75 #[.slice ro m d, .slice ao n c, .int .i64 s, .int .i64 rd, .int .i64 dy] w fun e w' => e = .returned (.int .i64 (leftV rz zs s rd dy)) ∧ Below w.heap.size w w' := by
  have HZ := hide hz
  have HR := hide hr
  have HRZ := hide hrz
  have HRR := hide hrr
  clear hz hr hrz hrr
  have HF := hide (l14Free_any ro m d rz s dy w HRZ.out hm HRR.out)
  rcases idx_cases (isS s) rz with ⟨g1, g2, _⟩ | ⟨k, x, hk, hx, hp, g1, g2, _⟩
  · have G := hide (left_none (cz := zs) (rd := rd) (d := dy) g2)
    clear g1 g2
    go_enter Try.func75, Try.ntmps75
    go_wp2_with fail
    refine HF.out.mono ?_
    rintro e w1 ⟨rfl, rfl⟩
    rw [G.out.2]
    go_wp2
    go_ret
    exact ⟨ret_int G.out.1.symm, Below.refl _ _⟩
  · by_cases hd : x.e < dy
    · have G := hide (left_free (cz := zs) (rd := rd) g2 hd)
      clear g1 g2 hx hp hk
      go_enter Try.func75, Try.ntmps75
      go_wp2_with fail
      refine HF.out.mono ?_
      rintro e w1 ⟨rfl, rfl⟩
      rw [G.out.2]
      go_wp2
      go_ret
      exact ⟨ret_int G.out.1.symm, Below.refl _ _⟩
    · have G := hide (left_some (cz := zs) (rd := rd) g2 hd)
      have G1 := hide g1
      have HS := hide (sum_congr (f := Cp.p) zs (condF_eq (rd := rd) g2))
      have hkn : k < m := by rw [← HRZ.out]; exact hk
      obtain ⟨b, off, rfl, hb1, hat⟩ := rdRt HRR.out (by omega)
      obtain ⟨x', hx', hxc⟩ := hat k hk
      obtain rfl : x' = x := by rw [hx] at hx'; injection hx' with h; exact h.symm
      obtain ⟨hbr, c0, c1, c2, c3⟩ := hxc w (Below.refl _ _)
      clear g1 g2 hx hx' hp hat hxc hk hd
      have hki : (k : Int) < (m : Int) := by omega
      have hk0 : (0 : Int) ≤ (k : Int) := by omega
      go_enter Try.func75, Try.ntmps75
      go_wp2_with fail
      refine HF.out.mono ?_
      rintro e w1 ⟨rfl, rfl⟩
      rw [G.out.2]
      clear HF
      go_wp2_with fail
      go_region_held3 (fun w' => w'.cell? ⟨b, off + k * 4 + 2, none⟩ = some (.int .i64 x'.h) ∧ Below w.heap.size w w')
        (first | exact ⟨c2, (Below.refl _ _).drew⟩ | go_keep | (go_split_ands; have hq : Below w.heap.size w w' := Below.trans (by assumption) (Below.mono hb (Below.size (by assumption))); exact ⟨(hq.cell (p := ⟨b, off + k * 4 + 2, none⟩) hb1).trans c2, hq⟩))
        (first
          | (go_at_call 72; go_split_ands; refine (l14Find_any _ _ _ rz _ _ HRZ.out hm (rd_step HRR.out ?_)).mono ?_; assumption; rintro e w' ⟨rfl, rfl⟩; rw [G1.out])
          | (go_at_call 94; go_split_ands; refine (l14Used_any _ _ _ rz _ _ _ zs _ _ _ HRZ.out hm (rd_step HRR.out ?_) HZ.out hn (rd_step HR.out ?_)).mono ?_; assumption; assumption; rintro e w' ⟨rfl, hb⟩; rw [HS.out]))
      all_goals
        go_wp2
        go_ret
        go_split_ands
        exact ⟨ret_int (by rw [G.out.1, wrapEq]; rfl), by assumption⟩

end Go.Proofs.Ytpghdjehagamlaa
