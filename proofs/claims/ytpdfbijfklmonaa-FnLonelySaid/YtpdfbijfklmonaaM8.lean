/- slices.Concat on covers. -/
import Derived.Test.YtpdfbijfklmonaaKit4
import Derived.Test.YtpdfbijfklmonaaM7
import Derived.Lib.AppendZeros
namespace Go.Proofs.Ytpdfbijfklmonaa
open Go.RowKit
set_option linter.unusedVariables false
set_option linter.unusedSimpArgs false

theorem encCv_one : ∀ x, ∀ u ∈ encCv x, u.oneCell' = true := by
  intro x u hu
  simp [encCv] at hu
  rcases hu with rfl | rfl | rfl | rfl | rfl | rfl <;> rfl

set_option maxRecDepth 100000 in
theorem GrowCover_any (n : Nat) (s : Int) (hs : s = (n : Int)) (w : World) (hn : n ≤ 2097152) :
    Calls Try.prog 90 #[.slice none 0 0, .int .i64 s] w fun e w' => ∃ v, e = .returned v ∧ w'.ownsRow w.heap.size 60 6 v 0 [] ∧ Below w.heap.size w w' := by
  subst hs
  obtain ⟨i0, hi, hz0, hz1, hz2⟩ := info_parts infoCv
  rcases Nat.eq_zero_or_pos n with h0 | h0
  · subst h0
    go_enter Try.func90, Try.ntmps90
    go_wp2
    go_ret
    exact ⟨_, rfl, World.ownsRow_nil _ _ _ _, Below.refl _ _⟩
  · have hrun := Lib.run_append_nil_zeros (P := Try.prog) w 26 3 26 60 i0 (.agg #[.int .i64 0, .int .i64 0, .int .i64 0, .int .i64 0, .int .i64 0, .int .i64 0]) .i64 .i64 Try.underlying26 Try.underlying3 hi hz0 n h0 (by rw [hz1]; decide) (by omega) (by rw [hz2]; omega)
    have hp : ¬ (n : Int) < 0 := by omega
    have hp2 : 0 < (n : Int) := by omega
    have hcap1 := grownCap_ge w n 0 60
    have hcap2 := grownCap_le_maxLen w n 0 60 (by unfold maxLen; omega)
    have HRUN := hide hrun
    have HCAP := hide (And.intro hcap1 hcap2)
    have HZZ := hide (And.intro hz0 (And.intro hz1 hz2))
    clear hrun hcap1 hcap2 hi hz0 hz1 hz2
    go_enter Try.func90, Try.ntmps90
    go_wp2_with (at_builtin; refine Lib.wpList_append_run _ rfl _ _ _ _ rfl _ _ rfl rfl _ _ HRUN.out ?_)
    go_wp2
    go_ret
    refine ⟨_, rfl, ?_, (Below.drew (Below.refl _ _)).alloc (Nat.le_refl _) _⟩
    refine World.ownsRow_made w.drew _ _ (Nat.le_refl _) HCAP.out.2 ?_
    have hc := HCAP.out.1
    simp only [Array.size_append, size_zeroCells, Value.cells]
    show n * 6 + _ * 6 = _ * 6
    omega
def szK (a b : Nat) : Nat → Int | 0 => 0 | 1 => a | _ => a + b
def lnK (a b : Nat) : Nat → Nat | 0 => 0 | 1 => a | _ => a + b
def catK {α : Type} (xs ys : List α) : Nat → List α | 0 => [] | 1 => xs | _ => xs ++ ys
set_option maxRecDepth 100000 in
set_option maxHeartbeats 1000000 in
theorem ConcatCover_any (g : Nat) (a1 a2 : Addr) (n1 n2 c1 c2 : Nat) (xs ys : List Cv) (w : World) (e0 : w.cell? ⟨g, 0, none⟩ = some (.slice (some a1) n1 c1)) (e1 : w.cell? ⟨g, 1, none⟩ = some (.slice (some a2) n2 c2)) (hg : g < w.heap.size)
    (hx : xs.length = n1) (hy : ys.length = n2) (hn1 : n1 ≤ 1048576) (hn2 : n2 ≤ 1048576) (rx : Rd encCv 6 w.heap.size w (some a1) xs) (ry : Rd encCv 6 w.heap.size w (some a2) ys) :
    Calls Try.prog 56 #[.slice (some ⟨g, 0, none⟩) 2 2] w fun e w' => ∃ v, e = .returned v ∧ w'.ownsRow w.heap.size 60 6 v (n1 + n2) ((xs ++ ys).flatMap encCv) ∧ Below w.heap.size w w' := by
  have HX := hide hx
  have HY := hide hy
  have RX := hide rx
  have RY := hide ry
  obtain ⟨i0, hi, hz0, hz1, hz2⟩ := info_parts infoCv
  have HI := hide (And.intro hi (And.intro hz0 (And.intro hz1 hz2)))
  clear hi hz0 hz1 hz2 hx hy rx ry
  go_enter Try.func56, Try.ntmps56
  go_wp2
  go_loopg [3, 5, 11] 2 (fun gk sz _ i wr => ∃ k : Nat, k ≤ 2 ∧ 2 - k ≤ gk ∧ i = .int .i64 k ∧ sz = .int .i64 (szK n1 n2 k) ∧ w = wr)
  case atStart => exact ⟨0, Nat.zero_le _, by omega, rfl, rfl, rfl⟩
  case round =>
    obtain ⟨k, hk, hgk, rfl, rfl, rfl⟩ := hrel
    have h3 : k = 0 ∨ k = 1 ∨ k = 2 := by omega
    rcases h3 with rfl | rfl | rfl
    · have z1 : ¬ (n1 : Int) < 0 := by omega
      have z2 : IntKind.i64.wrap (n1 : Int) = n1 := IntWalk.i64_in _ (by omega)
      simp only [szK]
      go_wp2
      go_roundg 1
      case measure => omega
      case rel => exact ⟨1, by omega, by omega, by go_num, by simp [szK], rfl⟩
    · have z1 : ¬ (n1 : Int) + (n2 : Int) < 0 := by omega
      have z2 : IntKind.i64.wrap ((n1 : Int) + (n2 : Int)) = (n1 : Int) + (n2 : Int) := IntWalk.i64_in _ (by omega)
      simp only [szK]
      go_wp2
      go_roundg 0
      case measure => omega
      case rel => exact ⟨2, by omega, by omega, by go_num, by simp [szK], rfl⟩
    · simp only [szK]
      go_wp2_with fail
      refine (GrowCover_any (n1 + n2) ((n1 : Int) + (n2 : Int)) (by omega) w (by omega)).mono ?_
      rintro e w1 ⟨v, rfl, ho, hb⟩
      have HB1 := hide hb
      have HO1 := hide ho
      have f0 := (hb.cell (p := ⟨g, 0, none⟩) hg).trans e0
      have f1 := (hb.cell (p := ⟨g, 1, none⟩) hg).trans e1
      have F0 := hide f0
      have F1 := hide f1
      have hg1 : g < w1.heap.size := Nat.lt_of_lt_of_le hg hb.size
      clear hb ho f0 f1
      go_wp2
      go_loopg [6, 8, 27] 2 (fun gk v _ i wr => ∃ k : Nat, k ≤ 2 ∧ 2 - k ≤ gk ∧ i = .int .i64 k ∧ Aside (wr.ownsRow w.heap.size 60 6 v (lnK n1 n2 k) ((catK xs ys k).flatMap encCv)) ∧ Aside (Below w.heap.size w wr))
      case atStart => exact ⟨0, Nat.zero_le _, by omega, rfl, HO1.out, HB1.out⟩
      case round =>
        obtain ⟨k, hk, hgk, rfl, OW, BW⟩ := hrel
        have hsz := BW.out.size
        have h3 : k = 0 ∨ k = 1 ∨ k = 2 := by omega
        rcases h3 with rfl | rfl | rfl
        · have f0 := (BW.out.cell (p := ⟨g, 0, none⟩) hg).trans e0
          have hgw : g < wr.heap.size := Nat.lt_of_lt_of_le hg hsz
          have HF := hide (rd_flat encCv_len (rd_step RX.out BW.out))
          simp only [lnK, catK] at OW
          obtain ⟨hi, hz0, hz1, hz2⟩ := HI.out
          go_wp2_with (at_builtin; refine wpList_append_own _ rfl _ _ 26 rfl w.heap.size 60 i0 (.agg #[.int .i64 0, .int .i64 0, .int .i64 0, .int .i64 0, .int .i64 0, .int .i64 0]) 6 48 Try.underlying26 hi hz0 hz1 hz2 rfl (by decide) _ 0 _ rfl OW.out a1 n1 c1 (xs.flatMap encCv) rfl ?c0 ?c1 ?c2 ?c3 ?c4 ?c5 ?_)
          case c0 => rw [flat_len encCv_len, HX.out]
          case c1 => exact HF.out
          case c2 => exact flat_one encCv_one xs
          case c3 => unfold maxLen; omega
          case c4 => omega
          case c5 => exact hsz
          intro v' w3 hown' hgrow _
          have HB3 := hide (bl_grown BW.out OW.out (Nat.le_refl _) hgrow)
          have HO3 : Hid (w3.ownsRow w.heap.size 60 6 v' (lnK n1 n2 1) ((catK xs ys 1).flatMap encCv)) := hide (by simp only [lnK, catK]; first | exact hown' | (rw [Nat.zero_add] at hown'; simpa using hown') | (rw [List.flatMap_append]; exact hown'))
          clear hown' hgrow hi hz0 hz1 hz2
          go_wp2
          go_roundg 1
          case measure => omega
          case rel => exact ⟨1, by omega, by omega, by go_num, HO3.out, HB3.out⟩
        · have f0 := (BW.out.cell (p := ⟨g, 1, none⟩) hg).trans e1
          have hgw : g < wr.heap.size := Nat.lt_of_lt_of_le hg hsz
          have HF := hide (rd_flat encCv_len (rd_step RY.out BW.out))
          simp only [lnK, catK] at OW
          obtain ⟨hi, hz0, hz1, hz2⟩ := HI.out
          go_wp2_with (at_builtin; refine wpList_append_own _ rfl _ _ 26 rfl w.heap.size 60 i0 (.agg #[.int .i64 0, .int .i64 0, .int .i64 0, .int .i64 0, .int .i64 0, .int .i64 0]) 6 48 Try.underlying26 hi hz0 hz1 hz2 rfl (by decide) _ n1 _ rfl OW.out a2 n2 c2 (ys.flatMap encCv) rfl ?c0 ?c1 ?c2 ?c3 ?c4 ?c5 ?_)
          case c0 => rw [flat_len encCv_len, HY.out]
          case c1 => exact HF.out
          case c2 => exact flat_one encCv_one ys
          case c3 => unfold maxLen; omega
          case c4 => omega
          case c5 => exact hsz
          intro v' w3 hown' hgrow _
          have HB3 := hide (bl_grown BW.out OW.out (Nat.le_refl _) hgrow)
          have HO3 : Hid (w3.ownsRow w.heap.size 60 6 v' (lnK n1 n2 2) ((catK xs ys 2).flatMap encCv)) := hide (by simp only [lnK, catK]; first | exact hown' | (rw [Nat.zero_add] at hown'; simpa using hown') | (rw [List.flatMap_append]; exact hown'))
          clear hown' hgrow hi hz0 hz1 hz2
          go_wp2
          go_roundg 0
          case measure => omega
          case rel => exact ⟨2, by omega, by omega, by go_num, HO3.out, HB3.out⟩
        · simp only [lnK, catK] at OW
          go_wp2
          go_ret
          exact ⟨_, rfl, OW.out, BW.out⟩

end Go.Proofs.Ytpdfbijfklmonaa
