/- OrderedAtlas: the program. -/
import Derived.Test.YtdgalehipgdhiaaH3
namespace Go.Proofs.Ytdgalehipgdhiaa
open Go.RowKit
set_option linter.unusedVariables false
set_option linter.unusedSimpArgs false

set_option maxRecDepth 100000 in
theorem ClonePage_any (a : Addr) (n c : Nat) (zs : List Pg) (w : World) (hz : zs.length = n) (hn : n ≤ 1048576) (hr : Rd encPg 4 w.heap.size w (some a) zs) :
    Calls Try.prog 55 #[.slice (some a) n c] w fun e w' => ∃ v, e = .returned v ∧ w'.ownsRow w.heap.size 48 4 v n (zs.flatMap encPg) ∧ Below w.heap.size w w' := by
  obtain ⟨i0, hi, hz0, hz1, hz2⟩ := info_parts infoPg
  have HZ := hide hz
  obtain ⟨W, hW⟩ : ∃ W, W = w.alloc (.cells #[] 48) := ⟨_, rfl⟩
  have HBW : Hid (Below w.heap.size w W) := hide (by rw [hW]; exact (Below.refl _ _).alloc (Nat.le_refl _) _)
  have HE : Hid (W.ownsRow w.heap.size 48 4 (.slice (some ⟨w.heap.size, 0, none⟩) 0 0) 0 []) := hide (by rw [hW]; exact World.ownsRow_made w #[] 0 (Nat.le_refl _) (by simp [maxLen]) rfl)
  have HF := hide (rd_flat encPg_len (rd_step hr HBW.out))
  have hWs : w.heap.size ≤ W.heap.size := HBW.out.size
  have HW := hide hW
  have hnil := @Lib.run_eql_slice_nil Try.prog
  clear hz hr hW
  go_enter Try.func55, Try.ntmps55
  go_wp2_with (at_builtin; rw [← HW.out]; refine wpList_append_own _ rfl _ _ 26 rfl w.heap.size 48 i0 (.agg #[.int .i64 0, .int .i64 0, .int .i64 0, .int .i64 0]) 4 32 Try.underlying26 hi hz0 hz1 hz2 rfl (by decide) _ 0 [] rfl HE.out a n c (zs.flatMap encPg) rfl ?c0 ?c1 ?c2 ?c3 ?c4 ?c5 ?_)
  case c0 => rw [flat_len encPg_len, HZ.out]
  case c1 => exact HF.out
  case c2 => exact flat_one encPg_one zs
  case c3 => unfold maxLen; omega
  case c4 => omega
  case c5 => exact hWs
  intro v' w3 hown' hgrow _
  have HB3 := hide (bl_grown HBW.out HE.out (Nat.le_refl _) hgrow)
  have HO3 : Hid (w3.ownsRow w.heap.size 48 4 v' n (zs.flatMap encPg)) := hide (by first | exact hown' | (rw [Nat.zero_add, List.nil_append] at hown'; exact hown'))
  clear hown' hgrow
  go_wp2
  go_ret
  exact ⟨_, rfl, HO3.out, HB3.out⟩

theorem CloneO_any (ao : Option Addr) (n c : Nat) (zs : List Pg) (w : World) (hz : zs.length = n) (hn : n ≤ 1048576) (hr : Rd encPg 4 w.heap.size w ao zs) (hnil : ao = none → n = 0 ∧ c = 0) :
    Calls Try.prog 55 #[.slice ao n c] w fun e w' => ∃ v, e = .returned v ∧ w'.ownsRow w.heap.size 48 4 v n (zs.flatMap encPg) ∧ Below w.heap.size w w' := by
  cases ao with
  | some a => exact ClonePage_any a n c zs w hz hn hr
  | none =>
    obtain ⟨rfl, rfl⟩ := hnil rfl
    obtain rfl := List.eq_nil_of_length_eq_zero hz
    clear hr hz hn hnil
    have hnil := @Lib.run_eql_slice_nil Try.prog
    go_enter Try.func55, Try.ntmps55
    go_wp2
    go_ret
    exact ⟨_, rfl, World.ownsRow_nil _ _ _ _, Below.refl _ _⟩
set_option maxRecDepth 100000 in
theorem OrderedAtlasO_any (ao : Option Addr) (n c : Nat) (zs : List Pg) (w : World) (hz : zs.length = n) (hn : n ≤ 1048576) (hr : Rd encPg 4 w.heap.size w ao zs) (hnil : ao = none → n = 0 ∧ c = 0) :
    Calls Try.prog 23 #[.slice ao n c] w fun e w' => ∃ v, e = .returned (.tuple #[v, .bool (atlasB zs)]) ∧ w'.ownsRow w.heap.size 48 4 v (oaV zs).length ((oaV zs).flatMap encPg) ∧ Below w.heap.size w w' := by
  have HZ := hide hz
  have HR := hide hr
  have HA := hide (IsAtlas_any ao n c zs w hz hn hr)
  have HNIL := hide hnil
  clear hz hr hnil
  cases h1 : atlasB zs with
  | false =>
    have HC : Hid (oaV zs = []) := hide (by unfold oaV; rw [h1]; rfl)
    have H1 := hide h1
    clear h1
    go_enter Try.func23, Try.ntmps23
    go_wp2_with fail
    refine HA.out.mono ?_
    rintro e w1 ⟨rfl, hb⟩
    rw [H1.out]
    have HB := hide hb
    clear hb HA
    go_wp2
    go_ret2
    exact ⟨_, rfl, by rw [HC.out]; exact World.ownsRow_nil _ _ _ _, HB.out⟩
  | true =>
    have HC : Hid (oaV zs = numL (sortE kyP zs)) := hide (by unfold oaV; rw [h1]; rfl)
    have h12 := atlas_12 h1
    rw [HZ.out] at h12
    have H1 := hide h1
    clear h1
    go_enter Try.func23, Try.ntmps23
    go_wp2_with fail
    refine HA.out.mono ?_
    rintro e w1 ⟨rfl, hb⟩
    rw [H1.out]
    have HB := hide hb
    have HR1 := hide (rd_step HR.out hb)
    clear hb HA
    go_wp2_with fail
    refine (CloneO_any ao n c zs _ HZ.out (by omega) HR1.out HNIL.out).mono ?_
    rintro e w2 ⟨v, rfl, ho, hb⟩
    have HB2 := hide (bl_step HB.out hb)
    have HO2 := hide (own_baseH ho HB.out.size)
    clear ho hb
    go_wp2_with fail
    refine (SortP_own v n zs w2 HO2.out HZ.out H1.out).mono ?_
    rintro e w3 ⟨rfl, hgr, ho⟩
    have HB3 := hide (bl_grown HB2.out HO2.out (Nat.le_refl _) hgr)
    have HLS : Hid ((sortE kyP zs).length = n) := hide (by rw [sortE_len, HZ.out])
    obtain ⟨ao2, c2, rfl, hc2, hm2, hrd⟩ := own_rd encPg_len ho HLS.out
    have HRD := hide hrd
    clear hgr ho hrd
    go_wp2_with fail
    refine (renumbered_any ao2 n c2 (sortE kyP zs) _ HLS.out (by omega) HRD.out).mono ?_
    rintro e w4 ⟨v4, rfl, ho, hb⟩
    have HO4 := hide (own_baseH ho HB3.out.size)
    have HB4 := hide (bl_step HB3.out hb)
    have HL4 : Hid ((numL (sortE kyP zs)).length = n) := hide (by rw [num_len, HLS.out])
    clear ho hb
    go_wp2
    go_ret2
    exact ⟨_, rfl, by rw [HC.out, HL4.out]; exact HO4.out, HB4.out⟩
theorem OrderedAtlas_any (a : Addr) (n c : Nat) (zs : List Pg) (w : World) (hz : zs.length = n) (hn : n ≤ 1048576) (hr : Rd encPg 4 w.heap.size w (some a) zs) :
    Calls Try.prog 23 #[.slice (some a) n c] w fun e w' => ∃ v, e = .returned (.tuple #[v, .bool (atlasB zs)]) ∧ w'.ownsRow w.heap.size 48 4 v (oaV zs).length ((oaV zs).flatMap encPg) ∧ Below w.heap.size w w' := OrderedAtlasO_any (some a) n c zs w hz hn hr (fun h => by cases h)

end Go.Proofs.Ytdgalehipgdhiaa
