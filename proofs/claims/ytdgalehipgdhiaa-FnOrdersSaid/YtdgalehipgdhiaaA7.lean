/- SeenOn: the program. -/
import Derived.Test.YtdgalehipgdhiaaA6
namespace Go.Proofs.Ytdgalehipgdhiaa
open Go.RowKit
set_option linter.unusedVariables false
set_option linter.unusedSimpArgs false

theorem atlas_l {zs : List Pg} (h : atlasB zs = true) {k : Nat} {x : Pg} (hx : zs[k]? = some x) : 0 ≤ x.l ∧ x.l ≤ 40 := by
  unfold atlasB at h; simp only [Bool.and_eq_true] at h
  have := allB_at h.1 k (List.getElem?_eq_some_iff.1 hx).1
  unfold stepPg okPg at this; rw [getB hx] at this; simp only [Bool.and_eq_true] at this
  exact inB_iff.1 this.1.2
def seenB (a b : Int) (x : Pg) : Bool := inB a (100 * x.c - x.l) (100 * x.c + 100 + x.l) && inB b (100 * x.r - x.l) (100 * x.r + 100 + x.l)
theorem seen_c (a c l : Int) : inB (a - 100 * c) (-l) (100 + l) = inB a (100 * c - l) (100 * c + 100 + l) := by
  rw [Bool.eq_iff_iff, inB_iff, inB_iff]; omega
def okSeen (zs : List Pg) (a b : Int) : Bool := atlasB zs && inB a 0 10000 && inB b 0 10000
def seenV (zs : List Pg) (a b : Int) : List Int := if okSeen zs a b then gather Pg.n (seenB a b) zs else []
theorem seen_len {zs : List Pg} {a b : Int} : (seenV zs a b).length ≤ zs.length := by unfold seenV; split <;> first | exact gather_len | exact Nat.zero_le _
theorem ret_vb {u : Value} {c d : Bool} (h2 : c = d) : Ending.returned (.tuple #[u, .bool c]) = .returned (.tuple #[u, .bool d]) := by rw [h2]

theorem seen1_any (p q : Nat) (a b : Int) (x : Pg) (W : World) (ha : 0 ≤ a ∧ a ≤ 10000) (hb : 0 ≤ b ∧ b ≤ 10000) (hx : 0 ≤ x.r ∧ x.r ≤ 99 ∧ 0 ≤ x.c ∧ x.c ≤ 99) (hl : 0 ≤ x.l ∧ x.l ≤ 40)
    (e1 : W.cell? ⟨p, 0, none⟩ = some (.int .i64 a)) (e2 : W.cell? ⟨q, 0, none⟩ = some (.int .i64 b)) (l1 : p < W.heap.size) (l2 : q < W.heap.size) :
    Calls Try.prog 65 #[.agg #[.int .i64 x.n, .int .i64 x.r, .int .i64 x.c, .int .i64 x.l], .pointer (some ⟨p, 0, none⟩), .pointer (some ⟨q, 0, none⟩)] W fun e w' => e = .returned (.bool (seenB a b x)) ∧ Below W.heap.size W w' := by
  have k1 : IntKind.i64.wrap (100 * x.c) = 100 * x.c := IntWalk.i64_in _ (by omega)
  have k2 : IntKind.i64.wrap (a - 100 * x.c) = a - 100 * x.c := IntWalk.i64_in _ (by omega)
  have k3 : IntKind.i64.wrap (-x.l) = -x.l := IntWalk.i64_in _ (by omega)
  have k4 : IntKind.i64.wrap (100 + x.l) = 100 + x.l := IntWalk.i64_in _ (by omega)
  have k5 : IntKind.i64.wrap (100 * x.r) = 100 * x.r := IntWalk.i64_in _ (by omega)
  have k6 : IntKind.i64.wrap (b - 100 * x.r) = b - 100 * x.r := IntWalk.i64_in _ (by omega)
  clear ha hb hx hl
  rcases first2 (inB (a - 100 * x.c) (-x.l) (100 + x.l)) (inB (b - 100 * x.r) (-x.l) (100 + x.l)) with h1 | ⟨h1, h2⟩ | ⟨h1, h2⟩
  all_goals
    have he : seenB a b x = (inB (a - 100 * x.c) (-x.l) (100 + x.l) && inB (b - 100 * x.r) (-x.l) (100 + x.l)) := by unfold seenB; rw [seen_c, seen_c]
    first | rw [h1, h2] at he | rw [h1] at he
    have HO := hide he
    clear he
    go_enter Try.func65, Try.ntmps65
    go_wp2_with (go_at_call 64; refine (within_any _ _ _ _).mono ?_; rintro e w' ⟨rfl, rfl⟩)
    go_ret
    exact ⟨ret_bool HO.out.symm, (Below.refl _ _).alloc (Nat.le_refl _) _⟩
set_option maxRecDepth 100000 in
set_option maxHeartbeats 1000000 in
theorem SeenOn_any (ao : Option Addr) (n c : Nat) (zs : List Pg) (a b : Int) (w : World) (hz : zs.length = n) (hn : n ≤ 1048576) (hr : Rd encPg 4 w.heap.size w ao zs) :
    Calls Try.prog 32 #[.slice ao n c, .int .i64 a, .int .i64 b] w fun e w' => ∃ v, e = .returned (.tuple #[v, .bool (okSeen zs a b)]) ∧ w'.ownsRow w.heap.size 3 1 v (seenV zs a b).length ((seenV zs a b).flatMap encI) ∧ Below w.heap.size w w' := by
  obtain ⟨V1, hV1⟩ : ∃ V1, V1 = w.alloc (.cells #[.int .i64 a] 3) := ⟨_, rfl⟩
  have s1 : V1.heap.size = w.heap.size + 1 := by rw [hV1]; simp
  have c1 : V1.cell? ⟨w.heap.size, 0, none⟩ = some (.int .i64 a) := by rw [hV1]; simp
  have b1 : Below w.heap.size w V1 := by rw [hV1]; exact (Below.refl _ _).alloc (Nat.le_refl _) _
  obtain ⟨V, hV⟩ : ∃ V, V = V1.alloc (.cells #[.int .i64 b] 3) := ⟨_, rfl⟩
  have b2 : Below V1.heap.size V1 V := by rw [hV]; exact (Below.refl _ _).alloc (Nat.le_refl _) _
  have s2 : V.heap.size = w.heap.size + 2 := by rw [hV]; simp [s1]
  have c2 : V.cell? ⟨w.heap.size + 1, 0, none⟩ = some (.int .i64 b) := by rw [hV, ← s1]; simp
  have c1' : V.cell? ⟨w.heap.size, 0, none⟩ = some (.int .i64 a) := (b2.cell (p := ⟨w.heap.size, 0, none⟩) (by show w.heap.size < V1.heap.size; omega)).trans c1
  have bV : Below w.heap.size w V := b1.trans (b2.mono (by omega))
  have HZ := hide hz
  have HR := hide (rd_step hr bV)
  have BV := hide bV
  have HA := hide (IsAtlas_any ao n c zs V hz hn (rd_step hr bV))
  have C1 := hide c1'
  have C2 := hide c2
  have HV1 := hide hV1
  have HV := hide hV
  clear hz hr bV b1 b2 c1 c1' c2 hV1 hV
  have g1 : w.heap.size < V.heap.size := by omega
  have g2 : w.heap.size + 1 < V.heap.size := by omega
  rcases first3 (atlasB zs) (inB a 0 10000) (inB b 0 10000) with h1 | ⟨h1, h2⟩ | ⟨h1, h2, h3⟩ | ⟨h1, h2, h3⟩
  iterate 3
    · have HO : Hid (okSeen zs a b = false) := hide (by simp [okSeen, *])
      have HC : Hid (seenV zs a b = []) := hide (by unfold seenV; rw [HO.out]; rfl)
      go_enter Try.func32, Try.ntmps32
      go_wp2_with fail
      try simp only [World.size_alloc]
      first | rw [← HV1.out] | skip
      first | rw [← HV.out] | skip
      first | rw [s1] | skip
      refine HA.out.mono ?_
      rintro e w1 ⟨rfl, hb⟩
      have d1 : w1.cell? ⟨w.heap.size, 0, none⟩ = some (.int .i64 a) := (hb.cell (p := ⟨w.heap.size, 0, none⟩) g1).trans C1.out
      have d2 : w1.cell? ⟨w.heap.size + 1, 0, none⟩ = some (.int .i64 b) := (hb.cell (p := ⟨w.heap.size + 1, 0, none⟩) g2).trans C2.out
      have HB := hide (bl_step BV.out hb)
      clear hb
      go_wp2_with (go_at_call 64; refine (within_any _ _ _ _).mono ?_; rintro e w' ⟨rfl, rfl⟩)
      go_ret2
      exact ⟨_, ret_vb HO.out.symm, by rw [HC.out]; exact World.ownsRow_nil _ _ _ _, HB.out⟩
  · have HO : Hid (okSeen zs a b = true) := hide (by simp [okSeen, *])
    have HC : Hid (seenV zs a b = gather Pg.n (seenB a b) zs) := hide (by unfold seenV; rw [HO.out]; rfl)
    have eg : ∀ args w, (callFunc 65 args).run Try.prog w = .ok (.enter 65 args) w := enters_at Try.func65 (by kernel_rfl) rfl
    have EG := hide eg
    have HH1 := hide h1
    have ha := inB_iff.1 h2
    have hb_ := inB_iff.1 h3
    clear eg
    go_enter Try.func32, Try.ntmps32
    go_wp2_with fail
    try simp only [World.size_alloc]
    first | rw [← HV1.out] | skip
    first | rw [← HV.out] | skip
    first | rw [s1] | skip
    refine HA.out.mono ?_
    rintro e w1 ⟨rfl, hb⟩
    have d1 : w1.cell? ⟨w.heap.size, 0, none⟩ = some (.int .i64 a) := (hb.cell (p := ⟨w.heap.size, 0, none⟩) g1).trans C1.out
    have d2 : w1.cell? ⟨w.heap.size + 1, 0, none⟩ = some (.int .i64 b) := (hb.cell (p := ⟨w.heap.size + 1, 0, none⟩) g2).trans C2.out
    have HB := hide (bl_step BV.out hb)
    have g3 : w.heap.size + 1 < w1.heap.size := Nat.lt_of_lt_of_le g2 hb.size
    have HR1 := hide (rd_step HR.out hb)
    clear hb
    go_wp2_with (go_at_call 64; refine (within_any _ _ _ _).mono ?_; rintro e w' ⟨rfl, rfl⟩)
    refine (pageNumbers_any 65 #[.pointer (some ⟨w.heap.size, 0, none⟩), .pointer (some ⟨w.heap.size + 1, 0, none⟩)] (seenB a b) EG.out ao n c zs w1 HZ.out hn HR1.out (fun W k x hx hb => by
      have := hb.size
      exact seen1_any w.heap.size (w.heap.size + 1) a b x W ha hb_ (atlas_at HH1.out hx) (atlas_l HH1.out hx) ((hb.cell (p := ⟨w.heap.size, 0, none⟩) (by show w.heap.size < w1.heap.size; omega)).trans d1) ((hb.cell (p := ⟨w.heap.size + 1, 0, none⟩) g3).trans d2) (by omega) (by omega))).mono ?_
    rintro e w2 ⟨v, rfl, ho, hb⟩
    go_wp2
    go_ret2
    exact ⟨_, ret_vb HO.out.symm, by rw [HC.out]; exact ⟨ho.1, ho.2.imp id (fun ⟨g, cap, cur, h1, h2, r⟩ => ⟨g, cap, cur, h1, Nat.le_trans HB.out.size h2, r⟩)⟩, bl_step HB.out hb⟩

end Go.Proofs.Ytdgalehipgdhiaa
