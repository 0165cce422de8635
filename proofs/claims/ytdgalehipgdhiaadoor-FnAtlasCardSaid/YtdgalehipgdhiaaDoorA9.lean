/- BesidePages: the program. -/
import Derived.Test.YtdgalehipgdhiaaDoorA7
import Derived.Test.YtdgalehipgdhiaaDoorK1
namespace Go.Proofs.YtdgalehipgdhiaaDoor
open Go.RowKit
set_option linter.unusedVariables false
set_option linter.unusedSimpArgs false

def okBes (zs : List Pg) (m : Int) : Bool := atlasB zs && inB m 1 zs.length
def nextTo (zs : List Pg) (m : Int) (x : Pg) : Bool := besB x zs[(m - 1).toNat]!
def besV (zs : List Pg) (m : Int) : List Int := if okBes zs m then gather Pg.n (nextTo zs m) zs else []
theorem bes_len {zs : List Pg} {m : Int} : (besV zs m).length ≤ zs.length := by unfold besV; split <;> first | exact gather_len | exact Nat.zero_le _
theorem atlas_12 {zs : List Pg} (h : atlasB zs = true) : zs.length ≤ 12 := by unfold atlasB at h; simp only [Bool.and_eq_true, decide_eq_true_eq] at h; exact h.2
theorem isPage_any (ao : Option Addr) (n c : Nat) (zs : List Pg) (m : Int) (w : World) (hz : zs.length = n) (hn : n ≤ 1048576) (hr : Rd encPg 4 w.heap.size w ao zs) :
    Calls Tryd.prog 39 #[.slice ao n c, .int .i64 m] w fun e w' => e = .returned (.bool (okBes zs m)) ∧ Below w.heap.size w w' := by
  have HA := hide (IsAtlas_any ao n c zs w hz hn hr)
  rcases first2 (atlasB zs) (inB m 1 n) with h1 | ⟨h1, h2⟩ | ⟨h1, h2⟩
  all_goals
    have HO : Hid (okBes zs m = (atlasB zs && inB m 1 n)) := hide (by unfold okBes; rw [hz])
    go_enter Tryd.func39, Tryd.ntmps39
    go_wp2_with fail
    refine HA.out.mono ?_
    rintro e w1 ⟨rfl, hb⟩
    go_wp2_with (go_at_call 30; refine (within_any _ _ _ _).mono ?_; rintro e w' ⟨rfl, rfl⟩)
    go_ret
    exact ⟨ret_bool (by rw [HO.out]; simp [*]), hb⟩

set_option maxRecDepth 100000 in
set_option maxHeartbeats 1000000 in
theorem beside1_any (p q : Nat) (ao : Option Addr) (n c : Nat) (zs : List Pg) (m : Int) (x : Pg) (w : World) (hz : zs.length = n) (hn : n ≤ 1048576) (hr : Rd encPg 4 w.heap.size w ao zs) (hm : 1 ≤ m ∧ m ≤ n) (HA : Hid (atlasB zs = true)) (hx : 0 ≤ x.r ∧ x.r ≤ 99 ∧ 0 ≤ x.c ∧ x.c ≤ 99)
    (e1 : w.cell? ⟨p, 0, none⟩ = some (.slice ao n c)) (e2 : w.cell? ⟨q, 0, none⟩ = some (.int .i64 m)) (l1 : p < w.heap.size) (l2 : q < w.heap.size) :
    Calls Tryd.prog 43 #[.agg #[.int .i64 x.n, .int .i64 x.r, .int .i64 x.c, .int .i64 x.l], .pointer (some ⟨p, 0, none⟩), .pointer (some ⟨q, 0, none⟩)] w fun e w' => e = .returned (.bool (nextTo zs m x)) ∧ Below w.heap.size w w' := by
  have hn0 : (m - 1).toNat < zs.length := by omega
  obtain ⟨b, off, rfl, hb1, hat⟩ := rdPg hr (by omega)
  obtain ⟨y, hy, hyc⟩ := hat (m - 1).toNat hn0
  have HY := hide (getB hy)
  have hby := hide (atlas_at HA.out hy)
  obtain ⟨V, hV⟩ : ∃ V, V = w.alloc (.cells #[.int .i64 x.n, .int .i64 x.r, .int .i64 x.c, .int .i64 x.l] 58) := ⟨_, rfl⟩
  have HBV : Hid (Below w.heap.size w V) := hide (by rw [hV]; exact (Below.refl _ _).alloc (Nat.le_refl _) _)
  have f0 : V.cell? ⟨w.heap.size, 0, none⟩ = some (.int .i64 x.n) := by rw [hV]; simp
  have f1 : V.cell? ⟨w.heap.size, 1, none⟩ = some (.int .i64 x.r) := by rw [hV]; simp
  have f2 : V.cell? ⟨w.heap.size, 2, none⟩ = some (.int .i64 x.c) := by rw [hV]; simp
  have f3 : V.cell? ⟨w.heap.size, 3, none⟩ = some (.int .i64 x.l) := by rw [hV]; simp
  have g1 : V.cell? ⟨p, 0, none⟩ = some (.slice (some ⟨b, off, none⟩) n c) := (HBV.out.cell (p := ⟨p, 0, none⟩) l1).trans e1
  have g2 : V.cell? ⟨q, 0, none⟩ = some (.int .i64 m) := (HBV.out.cell (p := ⟨q, 0, none⟩) l2).trans e2
  obtain ⟨hbr, c0, c1, c2, c3⟩ := hyc V HBV.out
  generalize hj : (m - 1).toNat = j at *
  have k1 : IntKind.i64.wrap (m - 1) = m - 1 := IntWalk.i64_in _ (by omega)
  have k2 : (0 : Int) ≤ m - 1 := by omega
  have k3 : m - 1 < (n : Int) := by omega
  have HX := hide hx
  have HV := hide hV
  clear hy hyc hat hV hr hz hx hn0
  go_enter Tryd.func43, Tryd.ntmps43
  go_wp2_with fail
  rw [← HV.out]
  go_still_tail 6, (by kernel_rfl)
  change wpList _ _ _ _ _ V.drew
  go_wp2_with fail
  refine (areBeside_any x y HX.out hby.out _).mono ?_
  rintro e w2 ⟨rfl, hb⟩
  go_wp2
  go_ret
  exact ⟨ret_bool (by unfold nextTo; rw [hj, HY.out]), bl_step (Below.drew HBV.out) hb⟩

set_option maxRecDepth 100000 in
set_option maxHeartbeats 1000000 in
theorem BesidePages_any (ao : Option Addr) (n c : Nat) (zs : List Pg) (m : Int) (w : World) (hz : zs.length = n) (hn : n ≤ 1048576) (hr : Rd encPg 4 w.heap.size w ao zs) :
    Calls Tryd.prog 15 #[.slice ao n c, .int .i64 m] w fun e w' => ∃ v, e = .returned (.tuple #[v, .bool (okBes zs m)]) ∧ w'.ownsRow w.heap.size 3 1 v (besV zs m).length ((besV zs m).flatMap encI) ∧ Below w.heap.size w w' := by
  obtain ⟨V1, hV1⟩ : ∃ V1, V1 = w.alloc (.cells #[.slice ao n c] 26) := ⟨_, rfl⟩
  have s1 : V1.heap.size = w.heap.size + 1 := by rw [hV1]; simp
  have c1 : V1.cell? ⟨w.heap.size, 0, none⟩ = some (.slice ao n c) := by rw [hV1]; simp
  have b1 : Below w.heap.size w V1 := by rw [hV1]; exact (Below.refl _ _).alloc (Nat.le_refl _) _
  obtain ⟨V, hV⟩ : ∃ V, V = V1.alloc (.cells #[.int .i64 m] 3) := ⟨_, rfl⟩
  have b2 : Below V1.heap.size V1 V := by rw [hV]; exact (Below.refl _ _).alloc (Nat.le_refl _) _
  have s2 : V.heap.size = w.heap.size + 2 := by rw [hV]; simp [s1]
  have c2 : V.cell? ⟨w.heap.size + 1, 0, none⟩ = some (.int .i64 m) := by rw [hV, ← s1]; simp
  have c1' : V.cell? ⟨w.heap.size, 0, none⟩ = some (.slice ao n c) := (b2.cell (p := ⟨w.heap.size, 0, none⟩) (by show w.heap.size < V1.heap.size; omega)).trans c1
  have bV : Below w.heap.size w V := b1.trans (b2.mono (by omega))
  have HZ := hide hz
  have HR := hide (rd_step hr bV)
  have BV := hide bV
  have HA := hide (isPage_any ao n c zs m V hz hn (rd_step hr bV))
  have C1 := hide c1'
  have C2 := hide c2
  have HV1 := hide hV1
  have HV := hide hV
  clear hz hr bV b1 b2 c1 c1' c2 hV1 hV
  have g1 : w.heap.size < V.heap.size := by omega
  have g2 : w.heap.size + 1 < V.heap.size := by omega
  cases ho : okBes zs m with
  | false =>
    have HO := hide ho
    have HC : Hid (besV zs m = []) := hide (by unfold besV; rw [HO.out]; rfl)
    clear ho
    go_enter Tryd.func15, Tryd.ntmps15
    go_wp2_with fail
    try simp only [World.size_alloc]
    first | rw [← HV1.out] | skip
    first | rw [← HV.out] | skip
    first | rw [s1] | skip
    have d1 := C1.out
    have d2 := C2.out
    go_wp2_with fail
    refine HA.out.mono ?_
    rintro e w1 ⟨rfl, hb⟩
    rw [HO.out]
    have HB := hide (bl_step BV.out hb)
    clear hb
    go_wp2
    go_ret2
    exact ⟨_, rfl, by rw [HC.out]; exact World.ownsRow_nil _ _ _ _, HB.out⟩
  | true =>
    have HO := hide ho
    have HC : Hid (besV zs m = gather Pg.n (nextTo zs m) zs) := hide (by unfold besV; rw [HO.out]; rfl)
    have ho2 := ho
    unfold okBes at ho2; simp only [Bool.and_eq_true] at ho2
    have hm := inB_iff.1 ho2.2
    rw [HZ.out] at hm
    have HH1 := hide ho2.1
    have eg : ∀ args w, (callFunc 43 args).run Tryd.prog w = .ok (.enter 43 args) w := enters_at Tryd.func43 (by kernel_rfl) rfl
    have EG := hide eg
    clear eg ho ho2
    go_enter Tryd.func15, Tryd.ntmps15
    go_wp2_with fail
    try simp only [World.size_alloc]
    first | rw [← HV1.out] | skip
    first | rw [← HV.out] | skip
    first | rw [s1] | skip
    have d1 := C1.out
    have d2 := C2.out
    go_wp2_with fail
    refine HA.out.mono ?_
    rintro e w1 ⟨rfl, hb⟩
    rw [HO.out]
    have f1 : w1.cell? ⟨w.heap.size, 0, none⟩ = some (.slice ao n c) := (hb.cell (p := ⟨w.heap.size, 0, none⟩) g1).trans C1.out
    have f2 : w1.cell? ⟨w.heap.size + 1, 0, none⟩ = some (.int .i64 m) := (hb.cell (p := ⟨w.heap.size + 1, 0, none⟩) g2).trans C2.out
    have HB := hide (bl_step BV.out hb)
    have g3 : w.heap.size + 1 < w1.heap.size := Nat.lt_of_lt_of_le g2 hb.size
    have HR1 := hide (rd_step HR.out hb)
    clear hb d1 d2
    go_wp2_with fail
    refine (pageNumbers_any 43 #[.pointer (some ⟨w.heap.size, 0, none⟩), .pointer (some ⟨w.heap.size + 1, 0, none⟩)] (nextTo zs m) EG.out ao n c zs w1 HZ.out hn HR1.out (fun W k x hx hb => by
      have := hb.size
      exact beside1_any w.heap.size (w.heap.size + 1) ao n c zs m x W HZ.out hn (rd_step HR1.out hb) hm HH1 (atlas_at HH1.out hx) ((hb.cell (p := ⟨w.heap.size, 0, none⟩) (by show w.heap.size < w1.heap.size; omega)).trans f1) ((hb.cell (p := ⟨w.heap.size + 1, 0, none⟩) g3).trans f2) (by omega) (by omega))).mono ?_
    rintro e w2 ⟨v, rfl, ho, hb⟩
    go_wp2
    go_ret2
    exact ⟨_, rfl, by rw [HC.out]; exact ⟨ho.1, ho.2.imp id (fun ⟨g, cap, cur, h1, h2, r⟩ => ⟨g, cap, cur, h1, Nat.le_trans HB.out.size h2, r⟩)⟩, bl_step HB.out hb⟩

end Go.Proofs.YtdgalehipgdhiaaDoor
