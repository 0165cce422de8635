/- DaysLent and its reference. -/
import Derived.Test.YtomfmphbnngdnaaN4
import Derived.Test.YtomfmphbnngdnaaN2
import Derived.Test.YtomfmphbnngdnaaN3
namespace Go.Proofs.Ytomfmphbnngdnaa
open Go.RowKit
set_option linter.unusedVariables false
set_option linter.unusedSimpArgs false

def endV (d : Int) (x : Ln) : Int := if openB x d then d else x.b
def daysF (d : Int) (x : Ln) : Int := if x.o ≤ d then endV d x - x.o else 0
def daysC (s d : Int) (x : Ln) : Bool := x.s == s && decide (x.o ≤ d)
def daysV (zs : List Ln) (s d : Int) : Int := if okWho zs s d then sumI (daysF d) (daysC s d) zs else 0
theorem daysF_bd {x : Ln} (h : okLn x = true) {d : Int} (hd : 0 ≤ d ∧ d ≤ 4000) : 0 ≤ daysF d x ∧ daysF d x ≤ 4000 := by
  have b := okLn_bd h
  unfold daysF endV
  split
  · cases hq : openB x d with
    | true => simp; omega
    | false =>
      unfold openB at hq
      have h1 : decide (x.o ≤ d) = true := by simp; omega
      rw [h1] at hq; simp at hq
      simp; omega
  · omega
theorem days_bd {zs : List Ln} (hg : loansB zs = true) {s d : Int} (hd : 0 ≤ d ∧ d ≤ 4000) (k : Nat) : 0 ≤ sumI (daysF d) (daysC s d) (zs.take k) ∧ sumI (daysF d) (daysC s d) (zs.take k) ≤ 60000 := by
  have h15 := loans_15 hg
  have hl : (zs.take k).length ≤ 15 := Nat.le_trans (List.length_take_le' _ _) h15
  have := sum_bd (f := daysF d) (c := daysC s d) (m := 4000) (zs.take k) (by omega) (by omega) (fun x hx => by
    have hx := List.mem_of_mem_take hx
    obtain ⟨j, hj⟩ := List.getElem?_of_mem hx
    have := daysF_bd (loans_at hg hj) hd
    omega)
  omega

set_option maxRecDepth 100000 in
set_option maxHeartbeats 1000000 in
theorem DaysLent_any (ao : Option Addr) (n : Nat) (zs : List Ln) (s d : Int) (w : World) (hz : zs.length = n) (hn : n ≤ 1048576) (hr : Rd encLn 5 w.heap.size w ao zs) :
    Calls Try.prog 16 #[.slice ao n n, .int .i64 s, .int .i64 d] w fun e w' => e = .returned (.tuple #[.int .i64 (daysV zs s d), .bool (okWho zs s d)]) ∧ Below w.heap.size w w' := by
  have HZ := hide hz
  have HR := hide hr
  have HA := hide (AreLoans_any ao n n zs (Nat.le_refl _) w hz hn hr)
  clear hz hr
  rcases first3 (loansB zs) (inB s 1 999) (inB d 0 4000) with h1 | ⟨h1, h2⟩ | ⟨h1, h2, h3⟩ | ⟨h1, h2, h3⟩
  iterate 3
    · have HO : Hid (okWho zs s d = false) := hide (by simp [okWho, *])
      go_enter Try.func16, Try.ntmps16
      go_wp2_with fail
      refine HA.out.mono ?_
      rintro e w1 ⟨rfl, hb⟩
      have HB := hide hb
      clear hb
      go_wp2_with (first | (go_at_call 38; refine (isId_any _ _).mono ?_; rintro e w' ⟨rfl, rfl⟩) | (go_at_call 39; refine (isDay_any _ _).mono ?_; rintro e w' ⟨rfl, rfl⟩) | (go_at_call 43; refine (within_any _ _ _ _).mono ?_; rintro e w' ⟨rfl, rfl⟩))
      go_ret2
      exact ⟨ret_ib (by unfold daysV; rw [HO.out]; rfl) HO.out.symm, HB.out⟩
  · have HO : Hid (okWho zs s d = true) := hide (by simp [okWho, *])
    have HH1 := hide h1
    have hd := inB_iff.1 h3
    go_enter Try.func16, Try.ntmps16
    go_wp2_with fail
    refine HA.out.mono ?_
    rintro e w1 ⟨rfl, hb⟩
    have HB := hide hb
    clear hb HA
    go_wp2_with (first | (go_at_call 38; refine (isId_any _ _).mono ?_; rintro e w' ⟨rfl, rfl⟩) | (go_at_call 39; refine (isDay_any _ _).mono ?_; rintro e w' ⟨rfl, rfl⟩) | (go_at_call 43; refine (within_any _ _ _ _).mono ?_; rintro e w' ⟨rfl, rfl⟩))
    go_loopg [8, 27] n (fun gk t i wr => ∃ k : Nat, k ≤ n ∧ n - k ≤ gk ∧ i = .int .i64 k ∧ t = .int .i64 (sumI (daysF d) (daysC s d) (zs.take k)) ∧ Aside (Below w.heap.size w wr))
    case atStart => exact ⟨0, Nat.zero_le _, by omega, rfl, by rw [sum_zero], HB.out⟩
    case round =>
      obtain ⟨k, hk, hg, rfl, rfl, BW⟩ := hrel
      by_cases hlt : k < n
      · have hltz : (k : Int) < (n : Int) := by omega
        obtain ⟨b, off, rfl, hb1, hat⟩ := rdLn HR.out (by rw [HZ.out]; omega)
        obtain ⟨x, hx, hxc⟩ := hat k (by rw [HZ.out]; exact hlt)
        have HX := hide hx
        have HOKX := hide (loans_at HH1.out hx)
        obtain ⟨hbr, c0, c1, c2, c3, c4⟩ := hxc wr BW.out
        clear hx hxc hat
        have bd := days_bd HH1.out (s := s) (d := d) hd k
        have bf := daysF_bd HOKX.out hd
        have bx := okLn_bd HOKX.out
        by_cases hs : x.s = s ∧ x.o ≤ d
        · obtain ⟨hs1, hs2⟩ := hs
          have HC : Hid (daysC s d x = true) := hide (by unfold daysC; simp [hs1, hs2])
          have hs3 : ¬ d < x.o := by omega
          have HF : Hid (daysF d x = endV d x - x.o) := hide (by unfold daysF; rw [if_pos hs2])
          rw [HF.out] at bf
          have n1 : decide (x.s = s) = true := by simp [hs1]
          have n2 : (x.s == s) = true := by simp [hs1]
          have n3 : (x.s != s) = false := by simp [hs1]
          generalize hT : sumI (daysF d) (daysC s d) (zs.take k) = T at *
          have HT := hide hT
          clear hT hs1 hs2
          go_wp2_with fail
          obtain ⟨V, hV⟩ : ∃ V, V = wr.alloc (.cells #[.int .i64 x.s, .int .i64 x.r, .int .i64 x.o, .int .i64 x.d, .int .i64 x.b] 48) := ⟨_, rfl⟩
          have HBV : Hid (Below w.heap.size w V) := hide (by rw [hV]; exact BW.out.alloc BW.out.size _)
          have g0 : wr.heap.size < V.heap.size := by rw [hV]; simp
          have e0 : V.cell? ⟨wr.heap.size, 0, none⟩ = some (.int .i64 x.s) := by rw [hV]; simp
          have e1 : V.cell? ⟨wr.heap.size, 1, none⟩ = some (.int .i64 x.r) := by rw [hV]; simp
          have e2 : V.cell? ⟨wr.heap.size, 2, none⟩ = some (.int .i64 x.o) := by rw [hV]; simp
          have e3 : V.cell? ⟨wr.heap.size, 3, none⟩ = some (.int .i64 x.d) := by rw [hV]; simp
          have e4 : V.cell? ⟨wr.heap.size, 4, none⟩ = some (.int .i64 x.b) := by rw [hV]; simp
          rw [← hV]
          clear hV c0 c1 c2 c3 c4
          go_wp2_with fail
          refine (isOpen_any x d _).mono ?_
          rintro e w2 ⟨rfl, hb⟩
          have HB2 := hide (bl_step HBV.out hb)
          have f0 : w2.cell? ⟨wr.heap.size, 0, none⟩ = some (.int .i64 x.s) := (hb.cell (p := ⟨wr.heap.size, 0, none⟩) g0).trans e0
          have f1 : w2.cell? ⟨wr.heap.size, 1, none⟩ = some (.int .i64 x.r) := (hb.cell (p := ⟨wr.heap.size, 1, none⟩) g0).trans e1
          have f2 : w2.cell? ⟨wr.heap.size, 2, none⟩ = some (.int .i64 x.o) := (hb.cell (p := ⟨wr.heap.size, 2, none⟩) g0).trans e2
          have f3 : w2.cell? ⟨wr.heap.size, 3, none⟩ = some (.int .i64 x.d) := (hb.cell (p := ⟨wr.heap.size, 3, none⟩) g0).trans e3
          have f4 : w2.cell? ⟨wr.heap.size, 4, none⟩ = some (.int .i64 x.b) := (hb.cell (p := ⟨wr.heap.size, 4, none⟩) g0).trans e4
          clear hb
          cases hq : openB x d with
          | true =>
            have HE : Hid (endV d x = d) := hide (by unfold endV; rw [hq]; rfl)
            rw [HE.out] at bf
            have k1 : IntKind.i64.wrap (d - x.o) = d - x.o := IntWalk.i64_in _ (by omega)
            have k2 : IntKind.i64.wrap (T + (d - x.o)) = T + (d - x.o) := IntWalk.i64_in _ (by omega)
            go_wp2
            go_roundg (n - (k + 1))
            case measure => omega
            case rel => exact ⟨k + 1, by omega, by omega, by go_num, by rw [sum_yes HX.out HC.out, HT.out, HF.out, HE.out, wrap_in (by omega) (by omega)], HB2.out⟩
          | false =>
            have HE : Hid (endV d x = x.b) := hide (by unfold endV; rw [hq]; rfl)
            rw [HE.out] at bf
            have k1 : IntKind.i64.wrap (x.b - x.o) = x.b - x.o := IntWalk.i64_in _ (by omega)
            have k2 : IntKind.i64.wrap (T + (x.b - x.o)) = T + (x.b - x.o) := IntWalk.i64_in _ (by omega)
            go_wp2
            go_roundg (n - (k + 1))
            case measure => omega
            case rel => exact ⟨k + 1, by omega, by omega, by go_num, by rw [sum_yes HX.out HC.out, HT.out, HF.out, HE.out, wrap_in (by omega) (by omega)], HB2.out⟩
        · have HC : Hid (daysC s d x = false) := hide (by unfold daysC; rw [Bool.eq_false_iff]; simp; intro a; simp [a] at hs; omega)
          have H2 : (x.s ≠ s) ∨ (x.s = s ∧ d < x.o) := by omega
          rcases H2 with h4 | ⟨h4, h5⟩
          all_goals
            go_wp2
            go_roundg (n - (k + 1))
            case measure => omega
            case rel => exact ⟨k + 1, by omega, by omega, by go_num, by rw [sum_no HX.out HC.out], BW.out.alloc BW.out.size _⟩
      · have hltz : ¬ (k : Int) < (n : Int) := by omega
        go_wp2
        go_ret2
        exact ⟨ret_ib (by unfold daysV; rw [HO.out, ← sum_all (f := daysF d) (c := daysC s d) (zs := zs) (k := k) (by rw [HZ.out]; omega)]; rfl) HO.out.symm, BW.out⟩

set_option maxRecDepth 100000 in
set_option maxHeartbeats 1000000 in
theorem sDaysLent_any (ao : Option Addr) (n c : Nat) (zs : List Ln) (s d : Int) (w : World) (hz : zs.length = n) (hn : n ≤ 1048576) (hr : Rd encLn 5 w.heap.size w ao zs) :
    Calls Try.prog 15 #[.slice ao n c, .int .i64 s, .int .i64 d] w fun e w' => e = .returned (.tuple #[.int .i64 (daysV zs s d), .bool (okWho zs s d)]) ∧ Below w.heap.size w w' := by
  have HZ := hide hz
  have HR := hide hr
  have HA := hide (l11Good_any ao n c zs w hz hn hr)
  clear hz hr
  rcases first3 (loansB zs) (inB s 1 999) (inB d 0 4000) with h1 | ⟨h1, h2⟩ | ⟨h1, h2, h3⟩ | ⟨h1, h2, h3⟩
  iterate 3
    · have HO : Hid (okWho zs s d = false) := hide (by simp [okWho, *])
      go_enter Try.func15, Try.ntmps15
      go_wp2_with fail
      refine HA.out.mono ?_
      rintro e w1 ⟨rfl, hb⟩
      have HB := hide hb
      clear hb
      go_wp2_with (first | (go_at_call 33; refine (l11Id_any _ _).mono ?_; rintro e w' ⟨rfl, rfl⟩) | (go_at_call 34; refine (l2Day_any _ _).mono ?_; rintro e w' ⟨rfl, rfl⟩) | (go_at_call 55; refine (l1In_any _ _ _ _).mono ?_; rintro e w' ⟨rfl, rfl⟩))
      go_ret2
      exact ⟨ret_ib (by unfold daysV; rw [HO.out]; rfl) HO.out.symm, HB.out⟩
  · have HO : Hid (okWho zs s d = true) := hide (by simp [okWho, *])
    have HH1 := hide h1
    have hd := inB_iff.1 h3
    go_enter Try.func15, Try.ntmps15
    go_wp2_with fail
    refine HA.out.mono ?_
    rintro e w1 ⟨rfl, hb⟩
    have HB := hide hb
    clear hb HA
    go_wp2_with (first | (go_at_call 33; refine (l11Id_any _ _).mono ?_; rintro e w' ⟨rfl, rfl⟩) | (go_at_call 34; refine (l2Day_any _ _).mono ?_; rintro e w' ⟨rfl, rfl⟩) | (go_at_call 55; refine (l1In_any _ _ _ _).mono ?_; rintro e w' ⟨rfl, rfl⟩))
    go_loopg [8, 9] n (fun gk t i wr => ∃ k : Nat, k ≤ n ∧ n - k ≤ gk ∧ i = .int .i64 k ∧ t = .int .i64 (sumI (daysF d) (daysC s d) (zs.take k)) ∧ Aside (Below w.heap.size w wr))
    case atStart => exact ⟨0, Nat.zero_le _, by omega, rfl, by rw [sum_zero], HB.out⟩
    case round =>
      obtain ⟨k, hk, hg, rfl, rfl, BW⟩ := hrel
      by_cases hlt : k < n
      · have hltz : (k : Int) < (n : Int) := by omega
        obtain ⟨b, off, rfl, hb1, hat⟩ := rdLn HR.out (by rw [HZ.out]; omega)
        obtain ⟨x, hx, hxc⟩ := hat k (by rw [HZ.out]; exact hlt)
        have HX := hide hx
        have HOKX := hide (loans_at HH1.out hx)
        obtain ⟨hbr, c0, c1, c2, c3, c4⟩ := hxc wr BW.out
        clear hx hxc hat
        have bd := days_bd HH1.out (s := s) (d := d) hd k
        have bf := daysF_bd HOKX.out hd
        have bx := okLn_bd HOKX.out
        by_cases hs : x.s = s ∧ x.o ≤ d
        · obtain ⟨hs1, hs2⟩ := hs
          have HC : Hid (daysC s d x = true) := hide (by unfold daysC; simp [hs1, hs2])
          have hs3 : ¬ d < x.o := by omega
          have HF : Hid (daysF d x = endV d x - x.o) := hide (by unfold daysF; rw [if_pos hs2])
          rw [HF.out] at bf
          have n1 : decide (x.s = s) = true := by simp [hs1]
          have n2 : (x.s == s) = true := by simp [hs1]
          have n3 : (x.s != s) = false := by simp [hs1]
          generalize hT : sumI (daysF d) (daysC s d) (zs.take k) = T at *
          have HT := hide hT
          clear hT hs1 hs2
          go_wp2_with fail
          obtain ⟨V, hV⟩ : ∃ V, V = wr.alloc (.cells #[.int .i64 x.s, .int .i64 x.r, .int .i64 x.o, .int .i64 x.d, .int .i64 x.b] 48) := ⟨_, rfl⟩
          have HBV : Hid (Below w.heap.size w V) := hide (by rw [hV]; exact BW.out.alloc BW.out.size _)
          have g0 : wr.heap.size < V.heap.size := by rw [hV]; simp
          have e0 : V.cell? ⟨wr.heap.size, 0, none⟩ = some (.int .i64 x.s) := by rw [hV]; simp
          have e1 : V.cell? ⟨wr.heap.size, 1, none⟩ = some (.int .i64 x.r) := by rw [hV]; simp
          have e2 : V.cell? ⟨wr.heap.size, 2, none⟩ = some (.int .i64 x.o) := by rw [hV]; simp
          have e3 : V.cell? ⟨wr.heap.size, 3, none⟩ = some (.int .i64 x.d) := by rw [hV]; simp
          have e4 : V.cell? ⟨wr.heap.size, 4, none⟩ = some (.int .i64 x.b) := by rw [hV]; simp
          rw [← hV]
          clear hV c0 c1 c2 c3 c4
          go_wp2_with fail
          refine (l11IsOpen_any x d _).mono ?_
          rintro e w2 ⟨rfl, hb⟩
          rw [open_eq HOKX.out]
          have HB2 := hide (bl_step HBV.out hb)
          have f0 : w2.cell? ⟨wr.heap.size, 0, none⟩ = some (.int .i64 x.s) := (hb.cell (p := ⟨wr.heap.size, 0, none⟩) g0).trans e0
          have f1 : w2.cell? ⟨wr.heap.size, 1, none⟩ = some (.int .i64 x.r) := (hb.cell (p := ⟨wr.heap.size, 1, none⟩) g0).trans e1
          have f2 : w2.cell? ⟨wr.heap.size, 2, none⟩ = some (.int .i64 x.o) := (hb.cell (p := ⟨wr.heap.size, 2, none⟩) g0).trans e2
          have f3 : w2.cell? ⟨wr.heap.size, 3, none⟩ = some (.int .i64 x.d) := (hb.cell (p := ⟨wr.heap.size, 3, none⟩) g0).trans e3
          have f4 : w2.cell? ⟨wr.heap.size, 4, none⟩ = some (.int .i64 x.b) := (hb.cell (p := ⟨wr.heap.size, 4, none⟩) g0).trans e4
          clear hb
          cases hq : openB x d with
          | true =>
            have HE : Hid (endV d x = d) := hide (by unfold endV; rw [hq]; rfl)
            rw [HE.out] at bf
            have k1 : IntKind.i64.wrap (T + d) = T + d := IntWalk.i64_in _ (by omega)
            have k2 : IntKind.i64.wrap (T + d - x.o) = T + d - x.o := IntWalk.i64_in _ (by omega)
            go_wp2
            go_roundg (n - (k + 1))
            case measure => omega
            case rel => exact ⟨k + 1, by omega, by omega, by go_num, by rw [sum_yes HX.out HC.out, HT.out, HF.out, HE.out, wrap_in (by omega) (by omega)]; congr 1; omega, HB2.out⟩
          | false =>
            have HE : Hid (endV d x = x.b) := hide (by unfold endV; rw [hq]; rfl)
            rw [HE.out] at bf
            have k1 : IntKind.i64.wrap (T + x.b) = T + x.b := IntWalk.i64_in _ (by omega)
            have k2 : IntKind.i64.wrap (T + x.b - x.o) = T + x.b - x.o := IntWalk.i64_in _ (by omega)
            go_wp2
            go_roundg (n - (k + 1))
            case measure => omega
            case rel => exact ⟨k + 1, by omega, by omega, by go_num, by rw [sum_yes HX.out HC.out, HT.out, HF.out, HE.out, wrap_in (by omega) (by omega)]; congr 1; omega, HB2.out⟩
        · have HC : Hid (daysC s d x = false) := hide (by unfold daysC; rw [Bool.eq_false_iff]; simp; intro a; simp [a] at hs; omega)
          have H2 : (x.s ≠ s) ∨ (x.s = s ∧ d < x.o) := by omega
          rcases H2 with h4 | ⟨h4, h5⟩
          all_goals
            go_wp2
            go_roundg (n - (k + 1))
            case measure => omega
            case rel => exact ⟨k + 1, by omega, by omega, by go_num, by rw [sum_no HX.out HC.out], BW.out.alloc BW.out.size _⟩
      · have hltz : ¬ (k : Int) < (n : Int) := by omega
        go_wp2
        go_ret2
        exact ⟨ret_ib (by unfold daysV; rw [HO.out, ← sum_all (f := daysF d) (c := daysC s d) (zs := zs) (k := k) (by rw [HZ.out]; omega)]; rfl) HO.out.symm, BW.out⟩

end Go.Proofs.Ytomfmphbnngdnaa
