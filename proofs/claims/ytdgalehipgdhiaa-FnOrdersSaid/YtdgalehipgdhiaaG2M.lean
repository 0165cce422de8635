/- BestOrder: the program. -/
import Derived.Test.YtdgalehipgdhiaaG2
namespace Go.Proofs.Ytdgalehipgdhiaa
open Go.RowKit
set_option linter.unusedVariables false
set_option linter.unusedSimpArgs false
set_option maxRecDepth 100000 in
set_option maxHeartbeats 1000000 in
theorem roughG_any (ao : Option Addr) (n c : Nat) (zs : List Pg) (w : World) (hz : zs.length = n) (hn : n ≤ 1048576) (hr : Rd encPg 4 w.heap.size w ao zs) (ha : ∀ x ∈ zs, 0 ≤ x.r ∧ x.r ≤ 99 ∧ 0 ≤ x.c ∧ x.c ≤ 99) :
    Calls Try.prog 52 #[.slice ao n c] w fun e w' => e = .returned (.int .i64 (ruf zs (n - 1))) ∧ Below w.heap.size w w' := by
  have HZ := hide hz
  have HR := hide hr
  have HA := hide ha
  clear hz hr ha
  go_enter Try.func52, Try.ntmps52
  go_wp2
  go_loopg [3, 4] n (fun gk cv i wr => ∃ k : Nat, 1 ≤ k ∧ (k ≤ n ∨ k = 1) ∧ n - k ≤ gk ∧ i = .int .i64 k ∧ cv = .int .i64 (ruf zs (k - 1)) ∧ Aside (Below w.heap.size w wr))
  case atStart => exact ⟨1, by omega, by omega, by omega, rfl, rfl, Below.refl _ _⟩
  case round =>
    obtain ⟨k, hk1, hk, hgk, rfl, rfl, BW⟩ := hrel
    have bx := ruf_bd zs (k - 1)
    by_cases hlt : k < n
    · have hlti : (k : Int) < (n : Int) := by omega
      obtain ⟨b, off, rfl, hb1, hat⟩ := rdPg HR.out (by rw [HZ.out]; omega)
      obtain ⟨x, hx, hxc⟩ := hat (k - 1) (by rw [HZ.out]; omega)
      obtain ⟨y, hy, hyc⟩ := hat k (by rw [HZ.out]; exact hlt)
      have HX := hide (getB hx)
      have HY := hide (getB hy)
      have HAX := hide (HA.out _ (List.mem_of_getElem? hx))
      have HAY := hide (HA.out _ (List.mem_of_getElem? hy))
      obtain ⟨hbr, c0, c1, c2, c3⟩ := hxc wr BW.out
      obtain ⟨hbs, d0, d1, d2, d3⟩ := hyc wr BW.out
      clear hx hxc hy hyc hat
      have k0 : 0 < k := by omega
      have k2 : (1 : Int) ≤ (k : Int) := by omega
      have k3 : (0 : Int) ≤ (k : Int) - 1 := by omega
      have k4 : (k : Int) - 1 < (n : Int) := by omega
      have k5 : IntKind.i64.wrap ((k : Int) - 1) = (k : Int) - 1 := IntWalk.i64_in _ (by omega)
      have k6 : ((k : Int) - 1).toNat = k - 1 := by omega
      have k7 : IntKind.i64.wrap (ruf zs (k - 1) + 1) = ruf zs (k - 1) + 1 := IntWalk.i64_in _ (by omega)
      go_wp2_with fail
      go_still_tail 9, (by kernel_rfl)
      change wpList _ _ _ _ _ wr.drew
      go_wp2_with fail
      refine (areBeside_any x y HAX.out HAY.out _).mono ?_
      rintro e w2 ⟨rfl, hb⟩
      have HB := hide (bl_step (Below.drew BW.out) hb)
      clear hb
      cases hq : besB x y with
      | true =>
        have HQ := hide (ruf_y hk1 HX.out HY.out hq)
        clear hq
        go_wp2
        go_roundg (n - (k + 1))
        case measure => omega
        case rel => exact ⟨k + 1, by omega, by omega, by omega, by go_num, by simp [HQ.out], HB.out⟩
      | false =>
        have HQ := hide (ruf_n hk1 HX.out HY.out hq)
        clear hq
        go_wp2
        go_roundg (n - (k + 1))
        case measure => omega
        case rel => exact ⟨k + 1, by omega, by omega, by omega, by go_num, by simp [HQ.out], HB.out⟩
    · have hge : ¬ (k : Int) < (n : Int) := by omega
      have HE : Hid (ruf zs (k - 1) = ruf zs (n - 1)) := hide (by
        rcases hk with h | h
        · rw [show k = n by omega]
        · rw [show n - 1 = k - 1 by omega])
      go_wp2
      go_ret
      exact ⟨ret_int HE.out, BW.out⟩


theorem pg_in {zs : List Pg} (h : atlasB zs = true) {o : List Nat} (ho : okS zs.length o) : ∀ x ∈ pgN zs o, 0 ≤ x.r ∧ x.r ≤ 99 ∧ 0 ≤ x.c ∧ x.c ≤ 99 := by
  intro x hx
  obtain ⟨j, hj, rfl⟩ := List.mem_map.1 hx
  have h1 := List.getElem?_eq_getElem (ho.2 j hj)
  rw [getB h1]
  exact atlas_at h h1
theorem gather_num {zs : List Pg} (h : atlasB zs = true) {o : List Nat} (ho : okS zs.length o) : gather Pg.n (fun _ => true) (pgN zs o) = numO o := by
  have : ∀ l : List Nat, (∀ j ∈ l, j < zs.length) → gather Pg.n (fun _ => true) (pgN zs l) = numO l := by
    intro l
    induction l with
    | nil => intro _; simp [gather, pgN, numO]
    | cons j l ih =>
      intro hl
      have h1 := List.getElem?_eq_getElem (hl j (by simp))
      have h2 := atlas_n h h1
      have h3 := ih (fun i hi => hl i (List.mem_cons_of_mem _ hi))
      unfold gather at h3 ⊢
      simp only [pgN, numO, List.map_cons, List.filter_cons, if_true] at h3 ⊢
      rw [getB h1, h2, h3]
  exact this o ho.2
theorem sl_cell {w : World} {g N : Nat} {t : TypeId} {cs : Array Value} {ps : List Sl} {j : Nat} {p : Sl} (hB : Blk w g t cs) (ht : cs.toList.take (N * 1) = ps.flatMap encSl) (h : ps[j]? = some p) : w.cell? ⟨g, j, none⟩ = some (.slice p.a p.n p.c) := by
  have h1 := flat_at encSl_len ps j p h 0 _ rfl
  rw [Nat.mul_one, Nat.add_zero, ← ht, List.getElem?_take] at h1
  split at h1
  · rw [hB.cell_list]; exact h1
  · cases h1
def bestK (zs : List Pg) (e : List Nat) (l : List (List Nat)) (k : Nat) : List Nat × Int := scanO (rufO zs) (e, rufO zs e) (l.take k)
theorem bestK_succ {zs : List Pg} {e x : List Nat} {l : List (List Nat)} {k : Nat} (h : l[k]? = some x) : bestK zs e l (k + 1) = betO (rufO zs) (bestK zs e l k) x := by
  unfold bestK; rw [List.take_add_one, h, scan_app]; rfl
theorem bestK_val {zs : List Pg} {e : List Nat} {l : List (List Nat)} (k : Nat) : (bestK zs e l k).2 = rufO zs (bestK zs e l k).1 := (scan_mem _ _ _ rfl).1
theorem bestK_ok {zs : List Pg} {e : List Nat} {l : List (List Nat)} (he : okS zs.length e ∧ e.length = zs.length) (hl : ∀ x ∈ l, okS zs.length x ∧ x.length = zs.length) (k : Nat) : okS zs.length (bestK zs e l k).1 ∧ (bestK zs e l k).1.length = zs.length := by
  rcases (scan_mem (rufO zs) (l.take k) (e, rufO zs e) rfl).2 with h | h
  · unfold bestK; rw [h]; exact he
  · exact hl _ (List.mem_of_mem_take h)
theorem ret_vib {u : Value} {a b : Int} {c d : Bool} (h1 : a = b) (h2 : c = d) : Ending.returned (.tuple #[u, .int .i64 a, .bool c]) = .returned (.tuple #[u, .int .i64 b, .bool d]) := by rw [h1, h2]
theorem bo1_any (x : Pg) (W : World) : Calls Try.prog 54 #[.agg #[.int .i64 x.n, .int .i64 x.r, .int .i64 x.c, .int .i64 x.l]] W fun e w' => e = .returned (.bool true) ∧ Below W.heap.size W w' := by
  go_enter Try.func54, Try.ntmps54
  go_wp2
  go_ret
  first | exact ⟨rfl, Below.refl _ _⟩ | exact ⟨rfl, (Below.refl _ _).alloc (Nat.le_refl _) _⟩

set_option maxRecDepth 100000 in
set_option maxHeartbeats 4000000 in
theorem BestOrder_any (ao : Option Addr) (n c : Nat) (zs : List Pg) (w : World) (hz : zs.length = n) (hn : n ≤ 1048576) (hr : Rd encPg 4 w.heap.size w ao zs) :
    Calls Try.prog 18 #[.slice ao n c] w fun e w' => ∃ v, e = .returned (.tuple #[v, .int .i64 (lstV zs), .bool (okBO zs)]) ∧ w'.ownsRow w.heap.size 3 1 v (ordV zs).length ((ordV zs).flatMap encI) ∧ Below w.heap.size w w' := by
  have HZ := hide hz
  have HR := hide hr
  have HA := hide (IsAtlas_any ao n c zs w hz hn hr)
  clear hz hr
  rcases first2 (atlasB zs) (decide (n ≤ 6)) with h1 | ⟨h1, h2⟩ | ⟨h1, h2⟩
  · have HO : Hid (okBO zs = false) := hide (by unfold okBO; rw [h1]; rfl)
    have HC : Hid (ordV zs = []) := hide (by unfold ordV; rw [HO.out]; rfl)
    have HL : Hid (lstV zs = 0) := hide (by unfold lstV; rw [HO.out]; rfl)
    have H1 := hide h1
    clear h1
    go_enter Try.func18, Try.ntmps18
    go_wp2_with fail
    refine HA.out.mono ?_
    rintro e w1 ⟨rfl, hb⟩
    rw [H1.out]
    have HB := hide hb
    clear hb HA
    go_wp2
    go_ret3
    exact ⟨_, ret_vib HL.out.symm HO.out.symm, by rw [HC.out]; exact World.ownsRow_nil _ _ _ _, HB.out⟩
  · have HO : Hid (okBO zs = false) := hide (by unfold okBO; rw [HZ.out, h2]; simp)
    have HC : Hid (ordV zs = []) := hide (by unfold ordV; rw [HO.out]; rfl)
    have HL : Hid (lstV zs = 0) := hide (by unfold lstV; rw [HO.out]; rfl)
    have h6 : (6 : Int) < (n : Int) := by have := of_decide_eq_false h2; omega
    have H1 := hide h1
    clear h1 h2
    go_enter Try.func18, Try.ntmps18
    go_wp2_with fail
    refine HA.out.mono ?_
    rintro e w1 ⟨rfl, hb⟩
    rw [H1.out]
    have HB := hide hb
    clear hb HA
    go_wp2
    go_ret3
    exact ⟨_, ret_vib HL.out.symm HO.out.symm, by rw [HC.out]; exact World.ownsRow_nil _ _ _ _, HB.out⟩
  · have h6n : n ≤ 6 := of_decide_eq_true h2
    have HO : Hid (okBO zs = true) := hide (by unfold okBO; rw [HZ.out, h1, h2]; rfl)
    have HC : Hid (ordV zs = numO (seekV zs).1) := hide (by unfold ordV; rw [HO.out]; rfl)
    have HL : Hid (lstV zs = (seekV zs).2) := hide (by unfold lstV; rw [HO.out]; rfl)
    have h6 : ¬ (6 : Int) < (n : Int) := by omega
    obtain ⟨e0, l0, hE⟩ := ext_cons zs.length
    have HE : Hid (extO zs.length n [] = e0 :: l0) := hide (by rw [← hE, HZ.out])
    have HSV : Hid (seekV zs = scanO (rufO zs) (e0, rufO zs e0) (e0 :: l0)) := hide (seekV_scan (by rw [HZ.out]; exact h6n) hE)
    have HEL : Hid (∀ x ∈ e0 :: l0, okS zs.length x ∧ x.length = zs.length) := hide (fun x hx => by
      have := ext_ok zs.length zs.length [] ⟨by simp, by simp⟩ x (by rw [hE]; exact hx)
      exact ⟨this.1, by simpa using this.2⟩)
    have H1 := hide h1
    have HNB := hide (pow_le6 (n := zs.length) (f := n) (by rw [HZ.out]; exact h6n) h6n)
    have HNE := hide (ext_len zs.length n [])
    have eg : Hid (∀ args w, (callFunc 54 args).run Try.prog w = .ok (.enter 54 args) w) := hide (enters_at Try.func54 (by kernel_rfl) rfl)
    clear h1 h2 hE
    go_enter Try.func18, Try.ntmps18
    go_wp2_with fail
    refine HA.out.mono ?_
    rintro e w1 ⟨rfl, hb⟩
    rw [H1.out]
    have HB := hide hb
    have HR1 := hide (rd_step HR.out hb)
    clear hb HA
    go_wp2_with fail
    refine (orders_any ao n c zs HZ.out h6n H1.out n [] none 0 0 w1 HR1.out ⟨by simp, by simp⟩ (by simp) ⟨by simp [pgN], .inl (by simp [pgN])⟩ (fun _ => ⟨rfl, rfl⟩)).mono ?_
    rintro e w2 ⟨v, ps, rfl, ho, hs, hb⟩
    rw [HE.out] at hs
    have hlen := Sls.len hs
    have HSL := hide hs
    have hN : ps.length = l0.length + 1 := by rw [hlen]; simp
    have hNm : ps.length ≤ 46656 := by
      have h1 := HNB.out
      have h2 := HNE.out
      rw [HE.out] at h2
      simp at h2
      omega
    have HB2 := hide (bl_step HB.out hb)
    rcases own_form encSl_len ho rfl with ⟨_, h0, _⟩ | ⟨g, cap, cs, rfl, hg, hBk, hcs, hnc, hcm, ht⟩
    · omega
    have HBK := hide hBk
    have HTK := hide ht
    obtain ⟨p0, hp0, hq0⟩ := Sls.at_ (i := 0) HSL.out (by rfl)
    have cz : w2.cell? ⟨g, 0, none⟩ = some (.slice p0.a p0.n p0.c) := sl_cell hBk ht hp0
    have HQ0 := hide hq0
    have hgw := hBk.lt
    clear ho hs hb hBk ht hg hcs hp0 hq0 hlen
    obtain ⟨N, hNN⟩ : ∃ N, N = ps.length := ⟨_, rfl⟩
    rw [← hNN] at hN hNm hnc ⊢
    have HNN := hide hNN
    clear hNN
    have hN0 : (0 : Int) < (N : Int) := by omega
    go_wp2
    clear cz
    go_loopg [6, 24] N (fun gk v i wr => ∃ k : Nat, ∃ pb : Sl, k ≤ N ∧ N - k ≤ gk ∧ v = .slice pb.a pb.n pb.c ∧ i = .int .i64 k ∧ Aside (slOk wr pb.a pb.n (pgN zs (bestK zs e0 (e0 :: l0) k).1)) ∧ Aside (Below w2.heap.size w2 wr))
    case atStart => exact ⟨0, p0, Nat.zero_le _, by omega, rfl, rfl, HQ0.out, Below.refl _ _⟩
    case round =>
      obtain ⟨k, pb, hk, hgk, rfl, rfl, QB, BW⟩ := hrel
      have HBO := hide (bestK_ok (zs := zs) (e := e0) (l := e0 :: l0) (HEL.out e0 (by simp)) HEL.out k)
      have HVL := hide (bestK_val (zs := zs) (e := e0) (l := e0 :: l0) k)
      by_cases hlt : k < N
      · have hltz : (k : Int) < (N : Int) := by omega
        obtain ⟨x, hx⟩ : ∃ x, (e0 :: l0)[k]? = some x := ⟨_, List.getElem?_eq_getElem (by simp; omega)⟩
        have HST := hide (bestK_succ (zs := zs) (e := e0) hx)
        have HXO := hide (HEL.out x (List.mem_of_getElem? hx))
        obtain ⟨p, hp, hq⟩ := Sls.at_ (i := k) (z := pgN zs x) HSL.out (by rw [List.getElem?_map, hx]; rfl)
        have c0 : wr.cell? ⟨g, k, none⟩ = some (.slice p.a p.n p.c) := (BW.out.cell (p := ⟨g, k, none⟩) hgw).trans (sl_cell HBK.out HTK.out hp)
        have HQ := hide (hq.step BW.out)
        have hpn : p.n = x.length := by have := hq.1; rw [pgN_len] at this; omega
        have hbn : pb.n = (bestK zs e0 (e0 :: l0) k).1.length := by have := QB.out.1; rw [pgN_len] at this; omega
        have h1 := HXO.out.2
        have h2 := HBO.out.2
        rw [HZ.out] at h1 h2
        have HV1 : Hid (ruf (pgN zs x) (p.n - 1) = rufO zs x) := hide (by rw [hpn]; rfl)
        have HV2 : Hid (ruf (pgN zs (bestK zs e0 (e0 :: l0) k).1) (pb.n - 1) = (bestK zs e0 (e0 :: l0) k).2) := hide (by rw [hbn, HVL.out]; rfl)
        have HR8 := hide (roughG_any p.a p.n p.c (pgN zs x) wr HQ.out.1 (by omega) HQ.out.rd (pg_in H1.out HXO.out.1))
        clear hx hp hq hpn hbn
        go_wp2_with fail
        refine HR8.out.mono ?_
        rintro e w3 ⟨rfl, hb⟩
        rw [HV1.out]
        have HB3 := hide (bl_step BW.out hb)
        have HQ3 := hide (HQ.out.step hb)
        have HQB3 := hide (QB.out.step hb)
        clear hb QB BW HR8
        go_wp2_with fail
        refine (roughG_any pb.a pb.n pb.c (pgN zs (bestK zs e0 (e0 :: l0) k).1) w3 HQB3.out.1 (by have := HQB3.out.1; rw [pgN_len] at this; omega) HQB3.out.rd (pg_in H1.out HBO.out.1)).mono ?_
        rintro e w4 ⟨rfl, hb⟩
        rw [HV2.out]
        have HB4 := hide (bl_step HB3.out hb)
        have HQ4 := hide (HQ3.out.step hb)
        have HQB4 := hide (HQB3.out.step hb)
        clear hb
        by_cases hlq : rufO zs x < (bestK zs e0 (e0 :: l0) k).2
        · have HN : Hid (bestK zs e0 (e0 :: l0) (k + 1) = (x, rufO zs x)) := hide (by rw [HST.out]; unfold betO; rw [if_pos hlq])
          generalize rufO zs x = A at hlq
          generalize (bestK zs e0 (e0 :: l0) k).2 = Bv at hlq
          go_wp2
          go_roundg (N - (k + 1))
          case measure => omega
          case rel => exact ⟨k + 1, p, by omega, by omega, rfl, by go_num, by rw [HN.out]; exact HQ4.out, HB4.out⟩
        · have HN : Hid (bestK zs e0 (e0 :: l0) (k + 1) = bestK zs e0 (e0 :: l0) k) := hide (by rw [HST.out]; unfold betO; rw [if_neg hlq])
          generalize rufO zs x = A at hlq
          generalize (bestK zs e0 (e0 :: l0) k).2 = Bv at hlq
          go_wp2
          go_roundg (N - (k + 1))
          case measure => omega
          case rel => exact ⟨k + 1, pb, by omega, by omega, rfl, by go_num, by rw [HN.out]; exact HQB4.out, HB4.out⟩
      · have hltz : ¬ (k : Int) < (N : Int) := by omega
        have HBE : Hid (bestK zs e0 (e0 :: l0) k = seekV zs) := hide (by
          rw [HSV.out]; unfold bestK
          rw [List.take_of_length_le (by simp; omega)])
        rw [HBE.out] at QB HBO HVL
        have HQB := hide QB.out
        have hbn : pb.n = (seekV zs).1.length := by have := QB.out.1; rw [pgN_len] at this; omega
        have h2 := HBO.out.2
        rw [HZ.out] at h2
        have HLL : Hid (lstV zs = rufO zs (seekV zs).1) := hide (by rw [HL.out, HVL.out])
        generalize (seekV zs).1 = bb at HQB HBO h2 hbn HLL HC
        have HV2 : Hid (ruf (pgN zs bb) (pb.n - 1) = lstV zs) := hide (by rw [hbn, HLL.out]; rfl)
        have HGN := hide (gather_num H1.out HBO.out.1)
        have hp : ∀ (W : World) (k : Nat) (x : Pg), (pgN zs bb)[k]? = some x → Below wr.heap.size wr W → Calls Try.prog 54 (#[.agg #[.int .i64 x.n, .int .i64 x.r, .int .i64 x.c, .int .i64 x.l]] ++ #[]) W fun e w' => e = .returned (.bool ((fun _ => true : Pg → Bool) x)) ∧ Below W.heap.size W w' := fun W i y _ _ => bo1_any y W
        have HPN := hide (pageNumbers_any 54 #[] (fun _ => true) eg.out pb.a pb.n pb.c (pgN zs bb) wr HQB.out.1 (by omega) HQB.out.rd hp)
        have hpbn : pb.n ≤ 1048576 := by omega
        clear QB hp hbn h2
        go_wp2_with fail
        refine HPN.out.mono ?_
        rintro e w3 ⟨v, rfl, ho, hb⟩
        rw [HGN.out, ← HC.out] at ho
        have HB3 := hide (bl_step BW.out hb)
        have HQ3 := hide (HQB.out.step hb)
        have HO3 := hide (own_baseG ho BW.out.size)
        clear ho hb BW
        go_wp2_with fail
        refine (roughG_any pb.a pb.n pb.c (pgN zs bb) w3 HQ3.out.1 hpbn HQ3.out.rd (pg_in H1.out HBO.out.1)).mono ?_
        rintro e w4 ⟨rfl, hb⟩
        rw [HV2.out]
        have HB4 := hide (bl_step HB3.out hb)
        have HO4 := hide (own_step HO3.out hb)
        clear hb
        go_wp2
        go_ret3
        exact ⟨_, ret_vib rfl HO.out.symm, own_baseG HO4.out HB2.out.size, bl_step HB2.out HB4.out⟩

end Go.Proofs.Ytdgalehipgdhiaa
