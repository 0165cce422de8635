/- ClosedFor and its reference. -/
import Derived.Test.YtpghdjehagamlaaR9
import Derived.Test.YtpghdjehagamlaaFInt
namespace Go.Proofs.Ytpghdjehagamlaa
open Go.RowKit

theorem ret_vb {u : Value} {c d : Bool} (h2 : c = d) : Ending.returned (.tuple #[u, .bool c]) = .returned (.tuple #[u, .bool d]) := by rw [h2]
def okTwo (rz : List Rt) (zs : List Cp) (rd dy : Int) : Bool := lawful rz zs && inB rd 1 999 && inB dy 0 4000
def shut (rz : List Rt) (zs : List Cp) (rd dy : Int) (r : Rt) : Bool := leftV rz zs r.s rd dy == 0
def closedV (rz : List Rt) (zs : List Cp) (rd dy : Int) : List Int := if okTwo rz zs rd dy then gather Rt.s (shut rz zs rd dy) rz else []
theorem closed_len {rz : List Rt} {zs : List Cp} {rd dy : Int} : (closedV rz zs rd dy).length ≤ rz.length := by unfold closedV; split <;> first | exact gather_len | exact Nat.zero_le _

set_option maxRecDepth 100000 in
theorem ClosedFor_any (ro : Option Addr) (m d : Nat) (rz : List Rt) (ao : Option Addr) (n c : Nat) (zs : List Cp) (rd dy : Int) (w : World) (hrz : rz.length = m) (hm : m ≤ 1048576) (hrr : Rd encRt 4 w.heap.size w ro rz) (hz : zs.length = n) (hn : n ≤ 1048576) (hr : Rd encCp 4 w.heap.size w ao zs) :
    Calls Try.prog 41 #[.slice ro m d, .slice ao n c, .int .i64 rd, .int .i64 dy] w fun e w' => ∃ v, e = .returned (.tuple #[v, .bool (okTwo rz zs rd dy)]) ∧ w'.ownsRow w.heap.size 3 1 v (closedV rz zs rd dy).length ((closedV rz zs rd dy).flatMap encI) ∧ Below w.heap.size w w' := by
  have HZ := hide hz
  have HR := hide hr
  have HRZ := hide hrz
  have HRR := hide hrr
  clear hz hr hrz hrr
  have HA := hide (AreLawful_any ro m d rz ao n c zs w HRZ.out hm HRR.out HZ.out hn HR.out)
  rcases first3 (lawful rz zs) (inB rd 1 999) (inB dy 0 4000) with h1 | ⟨h1, h2⟩ | ⟨h1, h2, h3⟩ | ⟨h1, h2, h3⟩
  iterate 3
    · have HO : Hid (okTwo rz zs rd dy = false) := hide (by simp [okTwo, *])
      have HC : Hid (closedV rz zs rd dy = []) := hide (by unfold closedV; rw [HO.out]; rfl)
      go_enter Try.func41, Try.ntmps41
      go_wp2_with fail
      refine HA.out.mono ?_
      rintro e w1 ⟨rfl, hb⟩
      have HB := hide (id hb)
      have HOW := hide (id hb)
      clear hb
      go_wp2_with (first | (go_at_call 64; refine (isId_any _ _).mono ?_; rintro e w' ⟨rfl, rfl⟩) | (go_at_call 65; refine (isDay_any _ _).mono ?_; rintro e w' ⟨rfl, rfl⟩))
      go_ret2
      exact ⟨_, ret_vb HO.out.symm, by rw [HC.out]; exact World.ownsRow_nil _ _ _ _, HB.out⟩
  · have HO : Hid (okTwo rz zs rd dy = true) := hide (by simp [okTwo, *])
    have HC : Hid (closedV rz zs rd dy = gather Rt.s (shut rz zs rd dy) rz) := hide (by unfold closedV; rw [HO.out]; rfl)
    have hinf := infoI
    obtain ⟨i0, hi, hz0, hz1, hz2⟩ := info_parts hinf
    clear hinf
    have HI := hide (And.intro hi (And.intro hz0 (And.intro hz1 hz2)))
    clear hi hz0 hz1 hz2
    go_enter Try.func41, Try.ntmps41
    go_wp2_with fail
    refine HA.out.mono ?_
    rintro e w1 ⟨rfl, hb⟩
    have HB := hide (id hb)
    have HOW := hide (id hb)
    clear hb HA
    go_wp2_with (first | (go_at_call 64; refine (isId_any _ _).mono ?_; rintro e w' ⟨rfl, rfl⟩) | (go_at_call 65; refine (isDay_any _ _).mono ?_; rintro e w' ⟨rfl, rfl⟩))
    go_loopg [10, 29] m (fun gk v i wr => ∃ k : Nat, k ≤ m ∧ m - k ≤ gk ∧ i = .int .i64 k ∧ Aside (wr.ownsRow w.heap.size 3 1 v (gather Rt.s (shut rz zs rd dy) (rz.take k)).length ((gather Rt.s (shut rz zs rd dy) (rz.take k)).flatMap encI)) ∧ Aside (Below w.heap.size w wr))
    case atStart => exact ⟨0, Nat.zero_le _, by omega, rfl, by rw [gather_zero]; exact World.ownsRow_nil _ _ _ _, HB.out⟩
    case round =>
      obtain ⟨k, hk, hg, rfl, OW, BW⟩ := hrel
      by_cases hlt : k < m
      · have hltz : (k : Int) < (m : Int) := by omega
        obtain ⟨b, off, rfl, hb1, hat⟩ := rdRt HRR.out (by rw [HRZ.out]; omega)
        obtain ⟨r, hr, hrc⟩ := hat k (by rw [HRZ.out]; exact hlt)
        have HX := hide hr
        have HXC := hide hrc
        obtain ⟨hbr, c0, c1, c2, c3⟩ := hrc wr BW.out
        have HWN := hide (BW.out.alloc BW.out.size (.cells #[.int .i64 r.s, .int .i64 r.e, .int .i64 r.h, .int .i64 r.f] 72))
        have OWN := hide (OW.out.alloc (.cells #[.int .i64 r.s, .int .i64 r.e, .int .i64 r.h, .int .i64 r.f] 72))
        clear hr hrc hat
        go_wp2_with fail
        refine (partLeft_any _ _ _ rz _ _ _ zs _ _ _ _ HRZ.out hm (rd_step HRR.out HWN.out) HZ.out hn (rd_step HR.out HWN.out)).mono ?_
        rintro e w2 ⟨rfl, hb⟩
        have HB2 := hide (bl_step HWN.out hb)
        have HO2 := hide (own_step OWN.out hb)
        have f0 : w2.cell? ⟨wr.heap.size, 0, none⟩ = some (.int .i64 r.s) := (hb.cell (p := ⟨wr.heap.size, 0, none⟩) (by simp)).trans (by simp)
        clear hb
        generalize hv : leftV rz zs r.s rd dy = vv
        have HV := hide hv
        clear hv
        cases hq : (vv == 0) with
        | true =>
          have HQ : Hid (shut rz zs rd dy r = true) := hide (by unfold shut; rw [HV.out]; exact hq)
          have hsz := HB2.out.size
          have hgl := gather_len (f := Rt.s) (c := shut rz zs rd dy) (zs := rz.take k)
          have htl : (rz.take k).length ≤ k := List.length_take_le _ _
          generalize hl : (gather Rt.s (shut rz zs rd dy) (rz.take k)).length = L at hgl
          have HL := hide hl
          rw [hl] at HO2
          clear hl
          obtain ⟨hi, hz0, hz1, hz2⟩ := HI.out
          go_wp2_with (at_builtin; refine wpList_append_own _ rfl _ _ 56 rfl w.heap.size 3 i0 (.int .i64 0) 1 8 Try.underlying56 hi hz0 hz1 hz2 rfl (by decide) _ L _ rfl (HO2.out.alloc _) ⟨w2.heap.size, 0, none⟩ 1 1 [.int .i64 r.s] rfl rfl ?c1 ?c2 ?c3 ?c4 ?c5 ?_)
          case c1 => exact news_at #[.int .i64 r.s]
          case c2 => intro u hu; simp at hu; subst hu; rfl
          case c3 => unfold maxLen; omega
          case c4 => omega
          case c5 => simp; omega
          intro v' w3 hown' hgrow _
          have HB3 := hide (bl_grown (HB2.out.alloc hsz _) (HO2.out.alloc _) (Nat.le_refl _) hgrow)
          have HO3 := hide hown'
          clear hown' hgrow hi hz0 hz1 hz2
          go_wp2
          go_roundg (m - (k + 1))
          case measure => omega
          case rel => exact ⟨k + 1, by omega, by omega, by go_num, by rw [gather_yes HX.out HQ.out, flat_snoc, List.length_append, HL.out]; exact HO3.out, HB3.out⟩
        | false =>
          have HQ : Hid (shut rz zs rd dy r = false) := hide (by unfold shut; rw [HV.out]; exact hq)
          go_wp2
          go_roundg (m - (k + 1))
          case measure => omega
          case rel => exact ⟨k + 1, by omega, by omega, by go_num, by rw [gather_no HX.out HQ.out]; exact HO2.out, HB2.out⟩
      · have hltz : ¬ (k : Int) < (m : Int) := by omega
        go_wp2
        go_ret2
        exact ⟨_, ret_vb HO.out.symm, by rw [HC.out, ← gather_all (k := k) (by rw [HRZ.out]; omega)]; exact OW.out, BW.out⟩

set_option maxRecDepth 100000 in
theorem sClosedFor_any (ro : Option Addr) (m d : Nat) (rz : List Rt) (ao : Option Addr) (n c : Nat) (zs : List Cp) (rd dy : Int) (w : World) (hrz : rz.length = m) (hm : m ≤ 1048576) (hrr : Rd encRt 4 w.heap.size w ro rz) (hz : zs.length = n) (hn : n ≤ 1048576) (hr : Rd encCp 4 w.heap.size w ao zs) :
    Calls Try.prog 42 #[.slice ro m d, .slice ao n c, .int .i64 rd, .int .i64 dy] w fun e w' => ∃ v, e = .returned (.tuple #[v, .bool (okTwo rz zs rd dy)]) ∧ w'.ownsRow w.heap.size 3 1 v (closedV rz zs rd dy).length ((closedV rz zs rd dy).flatMap encI) ∧ Below w.heap.size w w' := by
  have HZ := hide hz
  have HR := hide hr
  have HRZ := hide hrz
  have HRR := hide hrr
  clear hz hr hrz hrr
  obtain ⟨W, hW⟩ : ∃ W, W = w.alloc (.cells #[] 3) := ⟨_, rfl⟩
  have HBW : Hid (Below w.heap.size w W) := hide (by rw [hW]; exact (Below.refl _ _).alloc (Nat.le_refl _) _)
  have HE : Hid (W.ownsRow w.heap.size 3 1 (.slice (some ⟨w.heap.size, 0, none⟩) 0 0) 0 []) := hide (by rw [hW]; exact World.ownsRow_made w #[] 0 (Nat.le_refl _) (by simp [maxLen]) rfl)
  have HW := hide hW
  clear hW
  have HA := hide (l14Good0_any ro m d rz ao n c zs W HRZ.out hm (rd_step HRR.out HBW.out) HZ.out hn (rd_step HR.out HBW.out))
  rcases first3 (lawful rz zs) (inB rd 1 999) (inB dy 0 4000) with h1 | ⟨h1, h2⟩ | ⟨h1, h2, h3⟩ | ⟨h1, h2, h3⟩
  iterate 3
    · have HO : Hid (okTwo rz zs rd dy = false) := hide (by simp [okTwo, *])
      have HC : Hid (closedV rz zs rd dy = []) := hide (by unfold closedV; rw [HO.out]; rfl)
      go_enter Try.func42, Try.ntmps42
      go_wp2_with fail
      rw [← HW.out]
      refine HA.out.mono ?_
      rintro e w1 ⟨rfl, hb⟩
      have HB := hide (bl_step HBW.out hb)
      have HOW := hide (own_step HE.out hb)
      clear hb
      go_wp2_with (first | (go_at_call 71; refine (l14Id_any _ _).mono ?_; rintro e w' ⟨rfl, rfl⟩) | (go_at_call 73; refine (l2Day_any _ _).mono ?_; rintro e w' ⟨rfl, rfl⟩))
      go_ret2
      exact ⟨_, ret_vb HO.out.symm, by rw [HC.out]; exact HOW.out, HB.out⟩
  · have HO : Hid (okTwo rz zs rd dy = true) := hide (by simp [okTwo, *])
    have HC : Hid (closedV rz zs rd dy = gather Rt.s (shut rz zs rd dy) rz) := hide (by unfold closedV; rw [HO.out]; rfl)
    have hinf := infoI
    obtain ⟨i0, hi, hz0, hz1, hz2⟩ := info_parts hinf
    clear hinf
    have HI := hide (And.intro hi (And.intro hz0 (And.intro hz1 hz2)))
    clear hi hz0 hz1 hz2
    go_enter Try.func42, Try.ntmps42
    go_wp2_with fail
    rw [← HW.out]
    refine HA.out.mono ?_
    rintro e w1 ⟨rfl, hb⟩
    have HB := hide (bl_step HBW.out hb)
    have HOW := hide (own_step HE.out hb)
    clear hb HA
    go_wp2_with (first | (go_at_call 71; refine (l14Id_any _ _).mono ?_; rintro e w' ⟨rfl, rfl⟩) | (go_at_call 73; refine (l2Day_any _ _).mono ?_; rintro e w' ⟨rfl, rfl⟩))
    go_loopg [10, 11] m (fun gk v i wr => ∃ k : Nat, k ≤ m ∧ m - k ≤ gk ∧ i = .int .i64 k ∧ Aside (wr.ownsRow w.heap.size 3 1 v (gather Rt.s (shut rz zs rd dy) (rz.take k)).length ((gather Rt.s (shut rz zs rd dy) (rz.take k)).flatMap encI)) ∧ Aside (Below w.heap.size w wr))
    case atStart => exact ⟨0, Nat.zero_le _, by omega, rfl, by rw [gather_zero]; exact HOW.out, HB.out⟩
    case round =>
      obtain ⟨k, hk, hg, rfl, OW, BW⟩ := hrel
      by_cases hlt : k < m
      · have hltz : (k : Int) < (m : Int) := by omega
        obtain ⟨b, off, rfl, hb1, hat⟩ := rdRt HRR.out (by rw [HRZ.out]; omega)
        obtain ⟨r, hr, hrc⟩ := hat k (by rw [HRZ.out]; exact hlt)
        have HX := hide hr
        have HXC := hide hrc
        obtain ⟨hbr, c0, c1, c2, c3⟩ := hrc wr BW.out
        have HWN := hide BW.out
        have OWN := hide OW.out
        clear hr hrc hat
        go_wp2_with fail
        refine (l14Left_any _ _ _ rz _ _ _ zs _ _ _ _ HRZ.out hm (rd_step HRR.out HWN.out) HZ.out hn (rd_step HR.out HWN.out)).mono ?_
        rintro e w2 ⟨rfl, hb⟩
        have HB2 := hide (bl_step HWN.out hb)
        have HO2 := hide (own_step OWN.out hb)
        obtain ⟨hbr2, d0, d1, d2, d3⟩ := HXC.out w2 HB2.out
        clear hb
        generalize hv : leftV rz zs r.s rd dy = vv
        have HV := hide hv
        clear hv
        cases hq : (vv == 0) with
        | true =>
          have HQ : Hid (shut rz zs rd dy r = true) := hide (by unfold shut; rw [HV.out]; exact hq)
          have hsz := HB2.out.size
          have hgl := gather_len (f := Rt.s) (c := shut rz zs rd dy) (zs := rz.take k)
          have htl : (rz.take k).length ≤ k := List.length_take_le _ _
          generalize hl : (gather Rt.s (shut rz zs rd dy) (rz.take k)).length = L at hgl
          have HL := hide hl
          rw [hl] at HO2
          clear hl
          obtain ⟨hi, hz0, hz1, hz2⟩ := HI.out
          go_wp2_with (at_builtin; refine wpList_append_own _ rfl _ _ 56 rfl w.heap.size 3 i0 (.int .i64 0) 1 8 Try.underlying56 hi hz0 hz1 hz2 rfl (by decide) _ L _ rfl (HO2.out.alloc _) ⟨w2.heap.size, 0, none⟩ 1 1 [.int .i64 r.s] rfl rfl ?c1 ?c2 ?c3 ?c4 ?c5 ?_)
          case c1 => exact news_at #[.int .i64 r.s]
          case c2 => intro u hu; simp at hu; subst hu; rfl
          case c3 => unfold maxLen; omega
          case c4 => omega
          case c5 => simp; omega
          intro v' w3 hown' hgrow _
          have HB3 := hide (bl_grown (HB2.out.alloc hsz _) (HO2.out.alloc _) (Nat.le_refl _) hgrow)
          have HO3 := hide hown'
          clear hown' hgrow hi hz0 hz1 hz2
          go_wp2
          go_roundg (m - (k + 1))
          case measure => omega
          case rel => exact ⟨k + 1, by omega, by omega, by go_num, by rw [gather_yes HX.out HQ.out, flat_snoc, List.length_append, HL.out]; exact HO3.out, HB3.out⟩
        | false =>
          have HQ : Hid (shut rz zs rd dy r = false) := hide (by unfold shut; rw [HV.out]; exact hq)
          go_wp2
          go_roundg (m - (k + 1))
          case measure => omega
          case rel => exact ⟨k + 1, by omega, by omega, by go_num, by rw [gather_no HX.out HQ.out]; exact HO2.out, HB2.out⟩
      · have hltz : ¬ (k : Int) < (m : Int) := by omega
        go_wp2
        go_ret2
        exact ⟨_, ret_vb HO.out.symm, by rw [HC.out, ← gather_all (k := k) (by rw [HRZ.out]; omega)]; exact OW.out, BW.out⟩

end Go.Proofs.Ytpghdjehagamlaa
