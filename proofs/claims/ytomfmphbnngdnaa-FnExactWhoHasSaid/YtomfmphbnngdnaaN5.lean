/- WhoHas and its reference. -/
import Derived.Test.YtomfmphbnngdnaaN4
import Derived.Test.YtomfmphbnngdnaaN2
import Derived.Test.YtomfmphbnngdnaaN3
namespace Go.Proofs.Ytomfmphbnngdnaa
open Go.RowKit
set_option linter.unusedVariables false
set_option linter.unusedSimpArgs false

set_option maxRecDepth 100000 in
set_option maxHeartbeats 1000000 in
theorem WhoHas_any (ao : Option Addr) (n : Nat) (zs : List Ln) (s d : Int) (w : World) (hz : zs.length = n) (hn : n ≤ 1048576) (hr : Rd encLn 5 w.heap.size w ao zs) :
    Calls Try.prog 13 #[.slice ao n n, .int .i64 s, .int .i64 d] w fun e w' => e = .returned (.tuple #[.int .i64 (whoV zs s d), .bool (okWho zs s d)]) ∧ Below w.heap.size w w' := by
  have HZ := hide hz
  have HR := hide hr
  have HA := hide (AreLoans_any ao n n zs (Nat.le_refl _) w hz hn hr)
  clear hz hr
  rcases first3 (loansB zs) (inB s 1 999) (inB d 0 4000) with h1 | ⟨h1, h2⟩ | ⟨h1, h2, h3⟩ | ⟨h1, h2, h3⟩
  iterate 3
    · have HO : Hid (okWho zs s d = false) := hide (by simp [okWho, *])
      go_enter Try.func13, Try.ntmps13
      go_wp2_with fail
      refine HA.out.mono ?_
      rintro e w1 ⟨rfl, hb⟩
      have HB := hide hb
      clear hb
      go_wp2_with (first | (go_at_call 38; refine (isId_any _ _).mono ?_; rintro e w' ⟨rfl, rfl⟩) | (go_at_call 39; refine (isDay_any _ _).mono ?_; rintro e w' ⟨rfl, rfl⟩) | (go_at_call 43; refine (within_any _ _ _ _).mono ?_; rintro e w' ⟨rfl, rfl⟩))
      go_ret2
      exact ⟨ret_ib (by unfold whoV; rw [HO.out]; rfl) HO.out.symm, HB.out⟩
  · have HO : Hid (okWho zs s d = true) := hide (by simp [okWho, *])
    have HH1 := hide h1
    go_enter Try.func13, Try.ntmps13
    go_wp2_with fail
    refine HA.out.mono ?_
    rintro e w1 ⟨rfl, hb⟩
    have HB := hide hb
    clear hb HA
    go_wp2_with (first | (go_at_call 38; refine (isId_any _ _).mono ?_; rintro e w' ⟨rfl, rfl⟩) | (go_at_call 39; refine (isDay_any _ _).mono ?_; rintro e w' ⟨rfl, rfl⟩) | (go_at_call 43; refine (within_any _ _ _ _).mono ?_; rintro e w' ⟨rfl, rfl⟩))
    go_loopg [25] n (fun gk i wr => ∃ k : Nat, k ≤ n ∧ n - k ≤ gk ∧ i = .int .i64 k ∧ Aside (Below w.heap.size w wr) ∧ Aside (∀ j, j < k → ∀ y, zs[j]? = some y → has s d y = false))
    case atStart => exact ⟨0, Nat.zero_le _, by omega, rfl, HB.out, fun j hj => absurd hj (Nat.not_lt_zero _)⟩
    case round =>
      obtain ⟨k, hk, hg, rfl, BW, A⟩ := hrel
      by_cases hlt : k < n
      · have hltz : (k : Int) < (n : Int) := by omega
        obtain ⟨b, off, rfl, hb1, hat⟩ := rdLn HR.out (by rw [HZ.out]; omega)
        obtain ⟨x, hx, hxc⟩ := hat k (by rw [HZ.out]; exact hlt)
        have HX := hide hx
        have HOKX := hide (loans_at HH1.out hx)
        obtain ⟨hbr, c0, c1, c2, c3, c4⟩ := hxc wr BW.out
        clear hx hxc hat
        cases hsb : (x.s == s) with
        | true =>
          have HS : Hid (x.s = s) := hide (by simpa using hsb)
          go_wp2_with fail
          obtain ⟨V, hV⟩ : ∃ V, V = wr.alloc (.cells #[.int .i64 x.s, .int .i64 x.r, .int .i64 x.o, .int .i64 x.d, .int .i64 x.b] 48) := ⟨_, rfl⟩
          have HBV : Hid (Below w.heap.size w V) := hide (by rw [hV]; exact BW.out.alloc BW.out.size _)
          have g0 : wr.heap.size < V.heap.size := by rw [hV]; simp
          have e0 : V.cell? ⟨wr.heap.size, 0, none⟩ = some (.int .i64 x.s) := by rw [hV]; simp
          have e1 : V.cell? ⟨wr.heap.size, 1, none⟩ = some (.int .i64 x.r) := by rw [hV]; simp
          have e2 : V.cell? ⟨wr.heap.size, 2, none⟩ = some (.int .i64 x.o) := by rw [hV]; simp
          have e3 : V.cell? ⟨wr.heap.size, 3, none⟩ = some (.int .i64 x.d) := by rw [hV]; simp
          have e4 : V.cell? ⟨wr.heap.size, 4, none⟩ = some (.int .i64 x.b) := by rw [hV]; simp
          rw [← hV]
          clear hV c0 c1 c2 c3 c4
          go_wp2_with fail
          refine (isOpen_any x d _).mono ?_
          rintro e w2 ⟨rfl, hb⟩
          have HB2 := hide (bl_step HBV.out hb)
          have f1 : w2.cell? ⟨wr.heap.size, 1, none⟩ = some (.int .i64 x.r) := (hb.cell (p := ⟨wr.heap.size, 1, none⟩) g0).trans e1
          clear hb
          cases hq : openB x d with
          | true =>
            have HQ : Hid (has s d x = true) := hide (by unfold has; rw [HS.out, hq]; simp)
            go_wp2
            go_ret2
            exact ⟨ret_ib (by unfold whoV; rw [HO.out]; exact (who_first HX.out HQ.out A.out).symm) HO.out.symm, HB2.out⟩
          | false =>
            have HQ : Hid (has s d x = false) := hide (by unfold has; rw [hq]; simp)
            go_wp2
            go_roundg (n - (k + 1))
            case measure => omega
            case rel => exact ⟨k + 1, by omega, by omega, by go_num, HB2.out, none_succ A.out HX.out HQ.out⟩
        | false =>
          have HQ : Hid (has s d x = false) := hide (by unfold has; rw [hsb]; rfl)
          go_wp2
          go_roundg (n - (k + 1))
          case measure => omega
          case rel => exact ⟨k + 1, by omega, by omega, by go_num, BW.out.alloc BW.out.size _, none_succ A.out HX.out HQ.out⟩
      · have hltz : ¬ (k : Int) < (n : Int) := by omega
        go_wp2
        go_ret2
        exact ⟨ret_ib (by unfold whoV; rw [HO.out]; exact (who_none fun j y hy => A.out j (by have := (List.getElem?_eq_some_iff.1 hy).1; rw [HZ.out] at this; omega) y hy).symm) HO.out.symm, BW.out⟩

set_option maxRecDepth 100000 in
set_option maxHeartbeats 1000000 in
theorem sWhoHas_any (ao : Option Addr) (n c : Nat) (zs : List Ln) (s d : Int) (w : World) (hz : zs.length = n) (hn : n ≤ 1048576) (hr : Rd encLn 5 w.heap.size w ao zs) :
    Calls Try.prog 11 #[.slice ao n c, .int .i64 s, .int .i64 d] w fun e w' => e = .returned (.tuple #[.int .i64 (whoV zs s d), .bool (okWho zs s d)]) ∧ Below w.heap.size w w' := by
  have HZ := hide hz
  have HR := hide hr
  have HA := hide (l11Good_any ao n c zs w hz hn hr)
  clear hz hr
  rcases first3 (loansB zs) (inB s 1 999) (inB d 0 4000) with h1 | ⟨h1, h2⟩ | ⟨h1, h2, h3⟩ | ⟨h1, h2, h3⟩
  iterate 3
    · have HO : Hid (okWho zs s d = false) := hide (by simp [okWho, *])
      go_enter Try.func11, Try.ntmps11
      go_wp2_with fail
      refine HA.out.mono ?_
      rintro e w1 ⟨rfl, hb⟩
      have HB := hide hb
      clear hb
      go_wp2_with (first | (go_at_call 33; refine (l11Id_any _ _).mono ?_; rintro e w' ⟨rfl, rfl⟩) | (go_at_call 34; refine (l2Day_any _ _).mono ?_; rintro e w' ⟨rfl, rfl⟩) | (go_at_call 55; refine (l1In_any _ _ _ _).mono ?_; rintro e w' ⟨rfl, rfl⟩))
      go_ret2
      exact ⟨ret_ib (by unfold whoV; rw [HO.out]; rfl) HO.out.symm, HB.out⟩
  · have HO : Hid (okWho zs s d = true) := hide (by simp [okWho, *])
    have HH1 := hide h1
    go_enter Try.func11, Try.ntmps11
    go_wp2_with fail
    refine HA.out.mono ?_
    rintro e w1 ⟨rfl, hb⟩
    have HB := hide hb
    clear hb HA
    go_wp2_with (first | (go_at_call 33; refine (l11Id_any _ _).mono ?_; rintro e w' ⟨rfl, rfl⟩) | (go_at_call 34; refine (l2Day_any _ _).mono ?_; rintro e w' ⟨rfl, rfl⟩) | (go_at_call 55; refine (l1In_any _ _ _ _).mono ?_; rintro e w' ⟨rfl, rfl⟩))
    go_loopg [8, 9] n (fun gk t i wr => ∃ k : Nat, k ≤ n ∧ n - k ≤ gk ∧ i = .int .i64 k ∧ t = .int .i64 (whoL (zs.take k) s d) ∧ Aside (Below w.heap.size w wr))
    case atStart => exact ⟨0, Nat.zero_le _, by omega, rfl, by rw [who_zero], HB.out⟩
    case round =>
      obtain ⟨k, hk, hg, rfl, rfl, BW⟩ := hrel
      by_cases hlt : k < n
      · have hltz : (k : Int) < (n : Int) := by omega
        obtain ⟨b, off, rfl, hb1, hat⟩ := rdLn HR.out (by rw [HZ.out]; omega)
        obtain ⟨x, hx, hxc⟩ := hat k (by rw [HZ.out]; exact hlt)
        have HX := hide hx
        have HOKX := hide (loans_at HH1.out hx)
        obtain ⟨hbr, c0, c1, c2, c3, c4⟩ := hxc wr BW.out
        have HXC := hide hxc
        clear hx hxc hat
        cases hsb : (x.s == s) with
        | true =>
          have HS : Hid (x.s = s) := hide (by simpa using hsb)
          go_wp2_with fail
          refine (l11IsOpen_any x d _).mono ?_
          rintro e w2 ⟨rfl, hb⟩
          rw [open_eq HOKX.out]
          have HB2 := hide (bl_step BW.out hb)
          clear hb
          obtain ⟨hbr2, d0, d1, d2, d3, d4⟩ := HXC.out w2 HB2.out
          cases hq : openB x d with
          | true =>
            have HQ : Hid (has s d x = true) := hide (by unfold has; rw [HS.out, hq]; simp)
            go_wp2
            go_roundg (n - (k + 1))
            case measure => omega
            case rel => exact ⟨k + 1, by omega, by omega, by go_num, by rw [who_hit HH1.out HX.out HQ.out], HB2.out⟩
          | false =>
            have HQ : Hid (has s d x = false) := hide (by unfold has; rw [hq]; simp)
            go_wp2
            go_roundg (n - (k + 1))
            case measure => omega
            case rel => exact ⟨k + 1, by omega, by omega, by go_num, by rw [who_miss HX.out HQ.out], HB2.out⟩
        | false =>
          have HQ : Hid (has s d x = false) := hide (by unfold has; rw [hsb]; rfl)
          go_wp2
          go_roundg (n - (k + 1))
          case measure => omega
          case rel => exact ⟨k + 1, by omega, by omega, by go_num, by rw [who_miss HX.out HQ.out], BW.out⟩
      · have hltz : ¬ (k : Int) < (n : Int) := by omega
        go_wp2
        go_ret2
        exact ⟨ret_ib (by unfold whoV; rw [HO.out, ← who_all (zs := zs) (s := s) (d := d) (k := k) (by rw [HZ.out]; omega)]; rfl) HO.out.symm, BW.out⟩

end Go.Proofs.Ytomfmphbnngdnaa
