/- lonely. -/
import Derived.Test.YtpdfbijfklmonaaM13
namespace Go.Proofs.Ytpdfbijfklmonaa
open Go.RowKit
set_option linter.unusedVariables false
set_option linter.unusedSimpArgs false

set_option maxRecDepth 100000 in
set_option maxHeartbeats 1000000 in
theorem lonely1_any (B : Nat) (qo : Option Addr) (m d : Nat) (zq : List Ar2) (x : Cv) (w : World) (hc : w.cell? ⟨B, 0, none⟩ = some (.slice qo m d)) (hB : B < w.heap.size) (hzq : zq.length = m) (hm : m ≤ 1048576) (hrq : Rd encAr2 2 w.heap.size w qo zq) :
    Calls Try.prog 92 #[.agg #[.int .i64 x.i, .int .i64 x.w, .int .i64 x.s, .int .i64 x.e, .int .i64 x.n, .int .i64 x.p], .pointer (some ⟨B, 0, none⟩)] w fun e w' => e = .returned (.bool (loneI zq x)) ∧ Below w.heap.size w w' := by
  have HZQ := hide hzq
  have HRQ := hide hrq
  clear hzq hrq
  obtain ⟨V, hV⟩ : ∃ V, V = w.alloc (.cells #[.int .i64 x.i, .int .i64 x.w, .int .i64 x.s, .int .i64 x.e, .int .i64 x.n, .int .i64 x.p] 60) := ⟨_, rfl⟩
  have HBV : Hid (Below w.heap.size w V) := hide (by rw [hV]; exact (Below.refl _ _).alloc (Nat.le_refl _) _)
  have g0 : w.heap.size < V.heap.size := by rw [hV]; simp
  have bx : Blk V w.heap.size 60 #[.int .i64 x.i, .int .i64 x.w, .int .i64 x.s, .int .i64 x.e, .int .i64 x.n, .int .i64 x.p] := by rw [hV]; exact Blk.new _ _ _
  have E0 := hide (show V.cell? ⟨w.heap.size, 0, none⟩ = some (.int .i64 x.i) from bx.cell 0)
  have E1 := hide (show V.cell? ⟨w.heap.size, 1, none⟩ = some (.int .i64 x.w) from bx.cell 1)
  have E2 := hide (show V.cell? ⟨w.heap.size, 2, none⟩ = some (.int .i64 x.s) from bx.cell 2)
  have E3 := hide (show V.cell? ⟨w.heap.size, 3, none⟩ = some (.int .i64 x.e) from bx.cell 3)
  have E4 := hide (show V.cell? ⟨w.heap.size, 4, none⟩ = some (.int .i64 x.n) from bx.cell 4)
  have E5 := hide (show V.cell? ⟨w.heap.size, 5, none⟩ = some (.int .i64 x.p) from bx.cell 5)
  have HW := hide hV
  have HO : Hid (loneI zq x = decide (1 < cntS (fun q => showsI q.a q.b x) zq m)) := hide (by unfold loneI; rw [HZQ.out])
  obtain ⟨F, hF⟩ : ∃ F, F = fun q : Ar2 => showsI q.a q.b x := ⟨_, rfl⟩
  rw [← hF] at HO
  have HFF := hide hF
  clear hV bx hF
  go_enter Try.func92, Try.ntmps92
  go_wp2
  rw [← HW.out]
  go_loopg [4, 9] m (fun gk cv i wr => ∃ k : Nat, k ≤ m ∧ m - k ≤ gk ∧ i = .int .i64 k ∧ cv = .int .i64 (cntS F zq k) ∧ Aside (Below V.heap.size V wr))
  case atStart => exact ⟨0, Nat.zero_le _, by omega, rfl, rfl, Below.refl _ _⟩
  case round =>
    obtain ⟨k, hk, hgk, rfl, rfl, BW⟩ := hrel
    have bd := cntS_bd F zq k
    by_cases hlt : k < m
    · have hlti : (k : Int) < (m : Int) := by omega
      obtain ⟨b, off, rfl, hb1, hat⟩ := rdAr2 HRQ.out (by rw [HZQ.out]; omega)
      obtain ⟨q, hq, hqc⟩ := hat k (by rw [HZQ.out]; exact hlt)
      have HX := hide (getQ! hq)
      obtain ⟨hbr, c0, c1⟩ := hqc wr (HBV.out.trans (BW.out.mono HBV.out.size))
      have k0 := (BW.out.cell (p := ⟨w.heap.size, 0, none⟩) g0).trans E0.out
      have k1 := (BW.out.cell (p := ⟨w.heap.size, 1, none⟩) g0).trans E1.out
      have k2 := (BW.out.cell (p := ⟨w.heap.size, 2, none⟩) g0).trans E2.out
      have k3 := (BW.out.cell (p := ⟨w.heap.size, 3, none⟩) g0).trans E3.out
      have k4 := (BW.out.cell (p := ⟨w.heap.size, 4, none⟩) g0).trans E4.out
      have k5 := (BW.out.cell (p := ⟨w.heap.size, 5, none⟩) g0).trans E5.out
      have gw : w.heap.size < wr.heap.size := Nat.lt_of_lt_of_le g0 BW.out.size
      clear hq hqc hat
      go_wp2_with fail
      refine (shows_any x _ _ _).mono ?_
      rintro e w1 ⟨rfl, hb⟩
      have HB1 := hide (bl_step (BW.out.alloc BW.out.size _) hb)
      clear hb k0 k1 k2 k3 k4 k5
      cases hs : showsI q.a q.b x with
      | true =>
        have HN := hide (cntS_hit (f := F) HX.out (by rw [HFF.out]; exact hs))
        have k5 : IntKind.i64.wrap (cntS F zq k + 1) = cntS F zq k + 1 := IntWalk.i64_in _ (by omega)
        clear hs
        go_wp2
        go_roundg (m - (k + 1))
        case measure => omega
        case rel => exact ⟨k + 1, by omega, by omega, by go_num, by rw [HN.out], HB1.out⟩
      | false =>
        have HN := hide (cntS_miss (f := F) HX.out (by rw [HFF.out]; exact hs))
        clear hs
        go_wp2
        go_roundg (m - (k + 1))
        case measure => omega
        case rel => exact ⟨k + 1, by omega, by omega, by go_num, by rw [HN.out], HB1.out⟩
    · have hge : ¬ (k : Int) < (m : Int) := by omega
      obtain rfl : k = m := by omega
      go_wp2
      go_ret
      exact ⟨ret_bool HO.out.symm, HBV.out.trans (BW.out.mono HBV.out.size)⟩
set_option maxRecDepth 100000 in
theorem lonely_any (ao : Option Addr) (n c : Nat) (zs : List Cv) (qo : Option Addr) (m d : Nat) (zq : List Ar2) (w : World) (hz : zs.length = n) (hn : n ≤ 1048576) (hr : Rd encCv 6 w.heap.size w ao zs) (hzq : zq.length = m) (hm : m ≤ 1048576) (hrq : Rd encAr2 2 w.heap.size w qo zq) (ok : goodAll zs) :
    Calls Try.prog 65 #[.slice ao n c, .slice qo m d] w fun e w' => e = .returned (.bool (loneB zs zq)) ∧ Below w.heap.size w w' := by
  have eg : ∀ args w, (callFunc 92 args).run Try.prog w = .ok (.enter 92 args) w := enters_at Try.func92 (by kernel_rfl) rfl
  have hb0 : Below w.heap.size w (w.alloc (.cells #[.slice qo m d] 36)) := (Below.refl _ _).alloc (Nat.le_refl _) _
  have H := hide (ContainsFuncCover_any 92 #[.pointer (some ⟨w.heap.size, 0, none⟩)] (loneI zq) eg ao n c zs (w.alloc (.cells #[.slice qo m d] 36)) hz hn (rd_step hr hb0) (fun W x hb => by
    have hB : w.heap.size < W.heap.size := by have := hb.size; simp at this; omega
    exact lonely1_any w.heap.size qo m d zq x W ((hb.cell (p := ⟨w.heap.size, 0, none⟩) (by simp)).trans (by simp)) hB hzq hm (rd_step (rd_step hrq hb0) hb)))
  have HL := hide (lone_eq (zq := zq) ok)
  have HB0 := hide hb0
  clear hz hr eg hzq hrq hb0 ok
  go_enter Try.func65, Try.ntmps65
  go_wp2_with fail
  refine H.out.mono ?_
  rintro e w' ⟨rfl, hb⟩
  go_wp2
  go_ret
  exact ⟨ret_bool (by first | exact HL.out.symm | rw [← HL.out]), bl_step HB0.out hb⟩

end Go.Proofs.Ytpdfbijfklmonaa
