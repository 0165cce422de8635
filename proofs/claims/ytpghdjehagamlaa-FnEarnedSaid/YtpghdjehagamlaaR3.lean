/- IsFree, FreeFrom and their references. -/
import Derived.Test.YtpghdjehagamlaaR2
namespace Go.Proofs.Ytpghdjehagamlaa
open Go.RowKit

theorem bl_eq {w w' : World} (h : w = w') : Below w.heap.size w w' := by subst h; exact Below.refl _ _
theorem ret_bb {a b c d : Bool} (h1 : a = b) (h2 : c = d) : Ending.returned (.tuple #[.bool a, .bool c]) = .returned (.tuple #[.bool b, .bool d]) := by rw [h1, h2]
theorem ret_ib {a b : Int} {c d : Bool} (h1 : a = b) (h2 : c = d) : Ending.returned (.tuple #[.int .i64 a, .bool c]) = .returned (.tuple #[.int .i64 b, .bool d]) := by rw [h1, h2]
def okSD (zs : List Rt) (s d : Int) : Bool := areR zs && inB s 1 999 && inB d 0 4000
def freeV (zs : List Rt) (s d : Int) : Bool := okSD zs s d && freeR zs s d

set_option maxRecDepth 100000 in
theorem IsFree_any (ao : Option Addr) (n c : Nat) (zs : List Rt) (s d : Int) (w : World) (hz : zs.length = n) (hn : n ≤ 1048576) (hr : Rd encRt 4 w.heap.size w ao zs) :
    Calls Try.prog 23 #[.slice ao n c, .int .i64 s, .int .i64 d] w fun e w' => e = .returned (.tuple #[.bool (freeV zs s d), .bool (okSD zs s d)]) ∧ Below w.heap.size w w' := by
  have HZ := hide hz
  have HR := hide hr
  clear hz hr
  rcases first3 (areR zs) (inB s 1 999) (inB d 0 4000) with h1 | ⟨h1, h2⟩ | ⟨h1, h2, h3⟩ | ⟨h1, h2, h3⟩
  iterate 3
    · have HO : Hid (okSD zs s d = false) := hide (by simp [okSD, *])
      go_enter Try.func23, Try.ntmps23
      go_wp2_with fail
      refine (AreRights_any _ _ _ zs _ HZ.out hn HR.out).mono ?_
      rintro e w1 ⟨rfl, hb⟩
      have HB := hide hb
      clear hb
      go_wp2_with (first | (go_at_call 64; refine (isId_any _ _).mono ?_; rintro e w' ⟨rfl, rfl⟩) | (go_at_call 65; refine (isDay_any _ _).mono ?_; rintro e w' ⟨rfl, rfl⟩))
      go_ret2
      exact ⟨ret_bb (by unfold freeV; rw [HO.out]; rfl) HO.out.symm, HB.out⟩
  · have HO : Hid (okSD zs s d = true) := hide (by simp [okSD, *])
    go_enter Try.func23, Try.ntmps23
    go_wp2_with fail
    refine (AreRights_any _ _ _ zs _ HZ.out hn HR.out).mono ?_
    rintro e w1 ⟨rfl, hb⟩
    have HR1 := hide (rd_step HR.out hb)
    have HB := hide hb
    clear hb
    go_wp2_with (first | (go_at_call 64; refine (isId_any _ _).mono ?_; rintro e w' ⟨rfl, rfl⟩) | (go_at_call 65; refine (isDay_any _ _).mono ?_; rintro e w' ⟨rfl, rfl⟩))
    refine (isFree_any _ _ _ zs _ _ _ HZ.out hn HR1.out).mono ?_
    rintro e w2 ⟨rfl, hb2⟩
    have HB2 := hide (bl_step HB.out hb2)
    clear hb2
    go_wp2
    go_ret2
    exact ⟨ret_bb (by unfold freeV; rw [HO.out]; rfl) HO.out.symm, HB2.out⟩

def okS (zs : List Rt) (s : Int) : Bool := areR zs && inB s 1 999
/-- the first day on which it is free -/
def fromV (zs : List Rt) (s : Int) : Int := if okS zs s then (match zs.find? (isS s) with | none => 0 | some x => if x.e = 4000 then 0 else x.e + 1) else 0
def fromOk (zs : List Rt) (s : Int) : Bool := okS zs s && (match zs.find? (isS s) with | none => true | some x => decide (x.e ≠ 4000))
theorem areR_at {zs : List Rt} {x : Rt} {k : Nat} (h : areR zs = true) (hx : zs[k]? = some x) : okRt x = true := by
  unfold areR at h
  simp only [Bool.and_eq_true] at h
  have hk : k < zs.length := (List.getElem?_eq_some_iff.1 hx).1
  have := allB_at h.1 k hk
  unfold stepR at this
  rw [getB hx] at this
  simp only [Bool.and_eq_true] at this
  exact this.1
theorem inB_iff {n a b : Int} : inB n a b = true ↔ a ≤ n ∧ n ≤ b := by unfold inB; simp

set_option maxRecDepth 100000 in
theorem FreeFrom_any (ao : Option Addr) (n c : Nat) (zs : List Rt) (s : Int) (w : World) (hz : zs.length = n) (hn : n ≤ 1048576) (hr : Rd encRt 4 w.heap.size w ao zs) :
    Calls Try.prog 25 #[.slice ao n c, .int .i64 s] w fun e w' => e = .returned (.tuple #[.int .i64 (fromV zs s), .bool (fromOk zs s)]) ∧ Below w.heap.size w w' := by
  have HZ := hide hz
  have HR := hide hr
  clear hr hz
  rcases first2 (areR zs) (inB s 1 999) with h1 | ⟨h1, h2⟩ | ⟨h1, h2⟩
  iterate 2
    · have HO : Hid (okS zs s = false) := hide (by simp [okS, *])
      go_enter Try.func25, Try.ntmps25
      go_wp2_with fail
      refine (AreRights_any _ _ _ zs _ HZ.out hn HR.out).mono ?_
      rintro e w1 ⟨rfl, hb⟩
      have HB := hide hb
      clear hb
      go_wp2_with (first | (go_at_call 64; refine (isId_any _ _).mono ?_; rintro e w' ⟨rfl, rfl⟩) | (go_at_call 65; refine (isDay_any _ _).mono ?_; rintro e w' ⟨rfl, rfl⟩))
      go_ret2
      exact ⟨ret_ib (by unfold fromV; rw [HO.out]; rfl) (by unfold fromOk; rw [HO.out]; rfl), HB.out⟩
  · have HO : Hid (okS zs s = true) := hide (by simp [okS, *])
    rcases idx_cases (isS s) zs with ⟨g1, g2, _⟩ | ⟨k, x, hk, hx, hp, g1, g2, _⟩
    · have G1 := hide g1
      have G2 := hide g2
      clear g1 g2
      go_enter Try.func25, Try.ntmps25
      go_wp2_with fail
      refine (AreRights_any _ _ _ zs _ HZ.out hn HR.out).mono ?_
      rintro e w1 ⟨rfl, hb⟩
      have HR1 := hide (rd_step HR.out hb)
      have HB := hide hb
      clear hb
      go_wp2_with (first | (go_at_call 64; refine (isId_any _ _).mono ?_; rintro e w' ⟨rfl, rfl⟩) | (go_at_call 65; refine (isDay_any _ _).mono ?_; rintro e w' ⟨rfl, rfl⟩))
      refine (rightOf_any _ _ _ zs _ _ HZ.out hn HR1.out).mono ?_
      rintro e w2 ⟨rfl, hb2⟩
      rw [G1.out]
      have HB2 := hide (bl_step HB.out hb2)
      clear hb2
      go_wp2
      go_ret2
      exact ⟨ret_ib (by unfold fromV; rw [HO.out, G2.out]; rfl) (by unfold fromOk; rw [HO.out, G2.out]; rfl), HB2.out⟩
    · have hkn : k < n := by rw [← HZ.out]; exact hk
      have hok := areR_at h1 hx
      unfold okRt at hok
      simp only [Bool.and_eq_true] at hok
      have he := inB_iff.1 hok.1.1.2
      have he0 : 0 ≤ x.e := he.1
      have he1 : x.e ≤ 4000 := he.2
      obtain ⟨b, off, rfl, hb1, hat⟩ := rdRt HR.out (by omega)
      obtain ⟨x', hx', hxc⟩ := hat k hk
      obtain rfl : x' = x := by rw [hx] at hx'; injection hx' with h; exact h.symm
      have HXC := hide hxc
      have G1 := hide g1
      have G2 := hide g2
      clear g1 g2 hx hx' hp hat hxc hk hok he
      have hki : (k : Int) < (n : Int) := by omega
      by_cases h4 : x'.e = 4000
      all_goals
        have H4 := hide h4
        have h5 : (x'.e == 4000) = decide (x'.e = 4000) := by rw [Bool.eq_iff_iff]; simp
        first | (have h6 : (x'.e == 4000) = true := by rw [h5]; simp [H4.out]) | (have h6 : (x'.e == 4000) = false := by rw [h5]; simp [H4.out])
        clear h5
        clear h4
        go_enter Try.func25, Try.ntmps25
        go_wp2_with fail
        refine (AreRights_any _ _ _ zs _ HZ.out hn HR.out).mono ?_
        rintro e w1 ⟨rfl, hb⟩
        have HR1 := hide (rd_step HR.out hb)
        have HB := hide hb
        clear hb
        go_wp2_with (first | (go_at_call 64; refine (isId_any _ _).mono ?_; rintro e w' ⟨rfl, rfl⟩) | (go_at_call 65; refine (isDay_any _ _).mono ?_; rintro e w' ⟨rfl, rfl⟩))
        refine (rightOf_any _ _ _ zs _ _ HZ.out hn HR1.out).mono ?_
        rintro e w2 ⟨rfl, hb2⟩
        rw [G1.out]
        have HB2 := hide (bl_step HB.out hb2)
        clear hb2
        obtain ⟨hbr, c0, c1, c2, c3⟩ := HXC.out w2 HB2.out
        go_wp2_with (first | (go_at_call 64; refine (isId_any _ _).mono ?_; rintro e w' ⟨rfl, rfl⟩) | (go_at_call 65; refine (isDay_any _ _).mono ?_; rintro e w' ⟨rfl, rfl⟩))
        go_ret2
        exact ⟨ret_ib (by unfold fromV; rw [HO.out, G2.out]; simp [H4.out]) (by unfold fromOk; rw [HO.out, G2.out]; simp [H4.out]), HB2.out⟩

set_option maxRecDepth 100000 in
theorem sFreeFrom_any (ao : Option Addr) (n c : Nat) (zs : List Rt) (s : Int) (w : World) (hz : zs.length = n) (hn : n ≤ 1048576) (hr : Rd encRt 4 w.heap.size w ao zs) :
    Calls Try.prog 26 #[.slice ao n c, .int .i64 s] w fun e w' => e = .returned (.tuple #[.int .i64 (fromV zs s), .bool (fromOk zs s)]) ∧ Below w.heap.size w w' := by
  have HZ := hide hz
  have HR := hide hr
  clear hr hz
  rcases first2 (areR zs) (inB s 1 999) with h1 | ⟨h1, h2⟩ | ⟨h1, h2⟩
  iterate 2
    · have HO : Hid (okS zs s = false) := hide (by simp [okS, *])
      go_enter Try.func26, Try.ntmps26
      go_wp2_with fail
      refine (l14Rights_any _ _ _ zs _ HZ.out hn HR.out).mono ?_
      rintro e w1 ⟨rfl, hb⟩
      have HB := hide hb
      clear hb
      go_wp2_with (first | (go_at_call 71; refine (l14Id_any _ _).mono ?_; rintro e w' ⟨rfl, rfl⟩) | (go_at_call 73; refine (l2Day_any _ _).mono ?_; rintro e w' ⟨rfl, rfl⟩))
      go_ret2
      exact ⟨ret_ib (by unfold fromV; rw [HO.out]; rfl) (by unfold fromOk; rw [HO.out]; rfl), HB.out⟩
  · have HO : Hid (okS zs s = true) := hide (by simp [okS, *])
    rcases idx_cases (isS s) zs with ⟨g1, g2, _⟩ | ⟨k, x, hk, hx, hp, g1, g2, _⟩
    · have G1 := hide g1
      have G2 := hide g2
      clear g1 g2
      go_enter Try.func26, Try.ntmps26
      go_wp2_with fail
      refine (l14Rights_any _ _ _ zs _ HZ.out hn HR.out).mono ?_
      rintro e w1 ⟨rfl, hb⟩
      have HR1 := hide (rd_step HR.out hb)
      have HB := hide hb
      clear hb
      go_wp2_with (first | (go_at_call 71; refine (l14Id_any _ _).mono ?_; rintro e w' ⟨rfl, rfl⟩) | (go_at_call 73; refine (l2Day_any _ _).mono ?_; rintro e w' ⟨rfl, rfl⟩))
      refine (l14Find_any _ _ _ zs _ _ HZ.out hn HR1.out).mono ?_
      rintro e w2 ⟨rfl, hb2⟩
      rw [G1.out]
      have HB2 := hide (bl_step HB.out (bl_eq hb2))
      clear hb2
      go_wp2
      go_ret2
      exact ⟨ret_ib (by unfold fromV; rw [HO.out, G2.out]; rfl) (by unfold fromOk; rw [HO.out, G2.out]; rfl), HB2.out⟩
    · have hkn : k < n := by rw [← HZ.out]; exact hk
      have hok := areR_at h1 hx
      unfold okRt at hok
      simp only [Bool.and_eq_true] at hok
      have he := inB_iff.1 hok.1.1.2
      have he0 : 0 ≤ x.e := he.1
      have he1 : x.e ≤ 4000 := he.2
      obtain ⟨b, off, rfl, hb1, hat⟩ := rdRt HR.out (by omega)
      obtain ⟨x', hx', hxc⟩ := hat k hk
      obtain rfl : x' = x := by rw [hx] at hx'; injection hx' with h; exact h.symm
      have HXC := hide hxc
      have G1 := hide g1
      have G2 := hide g2
      clear g1 g2 hx hx' hp hat hxc hk hok he
      have hki : (k : Int) < (n : Int) := by omega
      by_cases h4 : x'.e = 4000
      all_goals
        have H4 := hide h4
        first | (have h6 : inB (x'.e + 1) 0 4000 = true := inB_iff.2 (by have := H4.out; omega)) | (have h6 : inB (x'.e + 1) 0 4000 = false := by rw [Bool.eq_false_iff]; intro h; have := inB_iff.1 h; have := H4.out; omega)
        clear h4
        go_enter Try.func26, Try.ntmps26
        go_wp2_with fail
        refine (l14Rights_any _ _ _ zs _ HZ.out hn HR.out).mono ?_
        rintro e w1 ⟨rfl, hb⟩
        have HR1 := hide (rd_step HR.out hb)
        have HB := hide hb
        clear hb
        go_wp2_with (first | (go_at_call 71; refine (l14Id_any _ _).mono ?_; rintro e w' ⟨rfl, rfl⟩) | (go_at_call 73; refine (l2Day_any _ _).mono ?_; rintro e w' ⟨rfl, rfl⟩))
        refine (l14Find_any _ _ _ zs _ _ HZ.out hn HR1.out).mono ?_
        rintro e w2 ⟨rfl, hb2⟩
        rw [G1.out]
        have HB2 := hide (bl_step HB.out (bl_eq hb2))
        clear hb2
        obtain ⟨hbr, c0, c1, c2, c3⟩ := HXC.out w2 HB2.out
        go_wp2_with (first | (go_at_call 71; refine (l14Id_any _ _).mono ?_; rintro e w' ⟨rfl, rfl⟩) | (go_at_call 73; refine (l2Day_any _ _).mono ?_; rintro e w' ⟨rfl, rfl⟩))
        go_ret2
        exact ⟨ret_ib (by unfold fromV; rw [HO.out, G2.out]; simp [H4.out]) (by unfold fromOk; rw [HO.out, G2.out]; simp [H4.out]), HB2.out⟩

end Go.Proofs.Ytpghdjehagamlaa
