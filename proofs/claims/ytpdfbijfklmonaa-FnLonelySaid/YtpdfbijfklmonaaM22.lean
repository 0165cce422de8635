/- Ids, prices and the order: the program. -/
import Derived.Test.YtpdfbijfklmonaaM21
import Derived.Test.YtpdfbijfklmonaaFInt
namespace Go.Proofs.Ytpdfbijfklmonaa
open Go.RowKit
set_option linter.unusedVariables false
set_option linter.unusedSimpArgs false

theorem map_take {zs : List Cv} {n k : Nat} {x : Cv} (hz : zs.length = n) (hk : k < n) (hx : zs[k]? = some x) : (zs.take (k + 1)).map Cv.i = (zs.take k).map Cv.i ++ [x.i] := by rw [List.take_add_one, hx]; simp
theorem sumP_take {zs : List Cv} {k : Nat} {x : Cv} (hx : zs[k]? = some x) : sumP (zs.take (k + 1)) = sumP (zs.take k) + x.p := by rw [List.take_add_one, hx]; exact sumP_snoc _ _
theorem sumP_tb {zs : List Cv} (k : Nat) (h : ∀ x ∈ zs, 1 ≤ x.p ∧ x.p ≤ 1000) (h10 : zs.length ≤ 10) : 0 ≤ sumP (zs.take k) ∧ sumP (zs.take k) ≤ 10000 := by
  have := sumP_bd (zs.take k) (fun x hx => h x (List.mem_of_mem_take hx))
  have hl : (zs.take k).length ≤ 10 := Nat.le_trans (List.length_take_le' _ _) h10
  omega
theorem ltK_f {x y : Int × List Int} : ltK false x y = befB x.2 y.2 := rfl
theorem keyOf2 (cs : List Cv) : (keyOf cs).2 = cs.map Cv.i := rfl
theorem bef_len {a b : List Int} {n m : Nat} (ha : a.length = n) (hb : b.length = m) (h : ¬ n = m) : befB a b = decide (n < m) := by unfold befB; rw [ha, hb]; simp [h]
theorem bef_lex {a b : List Int} {n : Nat} (ha : a.length = n) (hb : b.length = n) : befB a b = decide (lexC a b < 0) := by unfold befB; rw [ha, hb]; simp
theorem ltT_lt {x y : Int × List Int} (h : x.1 < y.1) : ltK true x y = true := by unfold ltK; simp [h]
theorem ltT_gt {x y : Int × List Int} (h : y.1 < x.1) : ltK true x y = false := by unfold ltK; have h1 : ¬ x.1 < y.1 := by omega
                                                                                   have h2 : ¬ x.1 = y.1 := by omega
                                                                                   simp [h1, h2]
theorem ltT_eq {x y : Int × List Int} (h : x.1 = y.1) : ltK true x y = befB x.2 y.2 := by unfold ltK; simp [h]

set_option maxRecDepth 100000 in
set_option maxHeartbeats 1000000 in
theorem coverIds_any (ao : Option Addr) (n c : Nat) (zs : List Cv) (w : World) (hz : zs.length = n) (hn : n ≤ 1048576) (hr : Rd encCv 6 w.heap.size w ao zs) :
    Calls Try.prog 70 #[.slice ao n c] w fun e w' => ∃ v, e = .returned v ∧ w'.ownsRow w.heap.size 3 1 v n ((zs.map Cv.i).flatMap encI) ∧ Below w.heap.size w w' := by
  have HZ := hide hz
  have HR := hide hr
  obtain ⟨i0, hi, hz0, hz1, hz2⟩ := info_parts infoI
  have HI := hide (And.intro hi (And.intro hz0 (And.intro hz1 hz2)))
  clear hi hz0 hz1 hz2
  clear hz hr
  go_enter Try.func70, Try.ntmps70
  go_wp2
  go_loopg [3, 8] n (fun gk v i wr => ∃ k : Nat, k ≤ n ∧ n - k ≤ gk ∧ i = .int .i64 k ∧ Aside (wr.ownsRow w.heap.size 3 1 v k (((zs.take k).map Cv.i).flatMap encI)) ∧ Aside (Below w.heap.size w wr))
  case atStart => exact ⟨0, Nat.zero_le _, by omega, rfl, World.ownsRow_nil _ _ _ _, Below.refl _ _⟩
  case round =>
    obtain ⟨k, hk, hg, rfl, OW, BW⟩ := hrel
    by_cases hlt : k < n
    · have hltz : (k : Int) < (n : Int) := by omega
      obtain ⟨b', off, rfl, hb1, hat⟩ := rdCv HR.out (by rw [HZ.out]; omega)
      obtain ⟨x, hx, hxc⟩ := hat k (by rw [HZ.out]; exact hlt)
      have HNT := hide (map_take HZ.out hlt hx)
      obtain ⟨hbr, c0, c1, c2, c3, c4, c5⟩ := hxc wr BW.out
      clear hx hxc hat
      have HB2 := hide (BW.out.alloc BW.out.size (.cells #[.int .i64 x.i, .int .i64 x.w, .int .i64 x.s, .int .i64 x.e, .int .i64 x.n, .int .i64 x.p] 60))
      have HO2 := hide (OW.out.alloc (.cells #[.int .i64 x.i, .int .i64 x.w, .int .i64 x.s, .int .i64 x.e, .int .i64 x.n, .int .i64 x.p] 60))
      have hsz : (wr.alloc (.cells #[.int .i64 x.i, .int .i64 x.w, .int .i64 x.s, .int .i64 x.e, .int .i64 x.n, .int .i64 x.p] 60)).heap.size = wr.heap.size + 1 := by simp
      have HSZ := hide hsz
      have hsw := BW.out.size
      clear hsz
      obtain ⟨hi, hz0, hz1, hz2⟩ := HI.out
      go_wp2_with (at_builtin; refine wpList_append_own _ rfl _ _ 30 rfl w.heap.size 3 i0 (.int .i64 0) 1 8 Try.underlying30 hi hz0 hz1 hz2 rfl (by decide) _ k _ rfl (HO2.out.alloc _) ⟨wr.heap.size + 1, 0, none⟩ 1 1 [.int .i64 x.i] rfl rfl ?c1 ?c2 ?c3 ?c4 ?c5 ?_)
      case c1 => have := news_at (w := wr.alloc (.cells #[.int .i64 x.i, .int .i64 x.w, .int .i64 x.s, .int .i64 x.e, .int .i64 x.n, .int .i64 x.p] 60)) (t := 3) #[.int .i64 x.i]; rw [HSZ.out] at this; exact this
      case c2 => intro u hu; simp at hu; subst hu; rfl
      case c3 => unfold maxLen; omega
      case c4 => omega
      case c5 => simp; omega
      intro v' w3 hown' hgrow _
      have HB3 := hide (bl_grown (HB2.out.alloc HB2.out.size _) (HO2.out.alloc _) (Nat.le_refl _) hgrow)
      have HO3 : Hid (w3.ownsRow w.heap.size 3 1 v' (k + 1) (((zs.take (k + 1)).map Cv.i).flatMap encI)) := hide (by rw [HNT.out, flat_snoc]; first | exact hown' | (rw [List.map_take]; exact hown'))
      clear hown' hgrow hi hz0 hz1 hz2
      go_wp2
      go_roundg (n - (k + 1))
      case measure => omega
      case rel => exact ⟨k + 1, by omega, by omega, by go_num, HO3.out, HB3.out⟩
    · have hltz : ¬ (k : Int) < (n : Int) := by omega
      obtain rfl : k = n := by omega
      have HT : Hid (zs.take k = zs) := hide (by rw [List.take_of_length_le (by rw [HZ.out]; exact Nat.le_refl _)])
      rw [HT.out] at OW
      go_wp2
      go_ret
      exact ⟨_, rfl, OW.out, BW.out⟩
set_option maxRecDepth 100000 in
theorem price_any (ao : Option Addr) (n c : Nat) (zs : List Cv) (w : World) (hz : zs.length = n) (h10 : n ≤ 10) (hr : Rd encCv 6 w.heap.size w ao zs) (hp : ∀ x ∈ zs, 1 ≤ x.p ∧ x.p ≤ 1000) :
    Calls Try.prog 72 #[.slice ao n c] w fun e w' => e = .returned (.int .i64 (sumP zs)) ∧ Below w.heap.size w w' := by
  have HZ := hide hz
  have HR := hide hr
  have HP := hide hp
  clear hz hr hp
  go_enter Try.func72, Try.ntmps72
  go_wp2
  go_loopg [3, 8] n (fun gk v i wr => ∃ k : Nat, k ≤ n ∧ n - k ≤ gk ∧ i = .int .i64 k ∧ v = .int .i64 (sumP (zs.take k)) ∧ Aside (Below w.heap.size w wr))
  case atStart => exact ⟨0, Nat.zero_le _, by omega, rfl, rfl, Below.refl _ _⟩
  case round =>
    obtain ⟨k, hk, hg, rfl, rfl, BW⟩ := hrel
    by_cases hlt : k < n
    · have hltz : (k : Int) < (n : Int) := by omega
      obtain ⟨b', off, rfl, hb1, hat⟩ := rdCv HR.out (by rw [HZ.out]; omega)
      obtain ⟨x, hx, hxc⟩ := hat k (by rw [HZ.out]; exact hlt)
      have HNT := hide (sumP_take hx)
      have bd := sumP_tb k HP.out (by rw [HZ.out]; exact h10)
      have bx := HP.out x (List.mem_of_getElem? hx)
      obtain ⟨hbr, c0, c1, c2, c3, c4, c5⟩ := hxc wr BW.out
      clear hx hxc hat
      have k5 : IntKind.i64.wrap (sumP (zs.take k) + x.p) = sumP (zs.take k) + x.p := IntWalk.i64_in _ (by omega)
      have HB2 := hide (BW.out.alloc BW.out.size (.cells #[.int .i64 x.i, .int .i64 x.w, .int .i64 x.s, .int .i64 x.e, .int .i64 x.n, .int .i64 x.p] 60))
      go_wp2
      go_roundg (n - (k + 1))
      case measure => omega
      case rel => exact ⟨k + 1, by omega, by omega, by go_num, by rw [HNT.out], HB2.out⟩
    · have hltz : ¬ (k : Int) < (n : Int) := by omega
      obtain rfl : k = n := by omega
      have HT : Hid (zs.take k = zs) := hide (by rw [List.take_of_length_le (by rw [HZ.out]; exact Nat.le_refl _)])
      rw [HT.out]
      go_wp2
      go_ret
      exact ⟨rfl, BW.out⟩
set_option maxRecDepth 100000 in
set_option maxHeartbeats 1000000 in
theorem CompareL_any (p1 p2 : Option Addr) (n c1 c2 : Nat) (xs ys : List Int) (w : World) (hx : xs.length = n) (hy : ys.length = n) (hn : n ≤ 1048576) (rx : Rd encI 1 w.heap.size w p1 xs) (ry : Rd encI 1 w.heap.size w p2 ys) :
    Calls Try.prog 91 #[.slice p1 n c1, .slice p2 n c2] w fun e w' => e = .returned (.int .i64 (lexC xs ys)) ∧ w = w' := by
  have HX := hide hx
  have HY := hide hy
  have RX := hide rx
  have RY := hide ry
  clear hx hy rx ry
  go_enter Try.func91, Try.ntmps91
  go_wp2
  go_loopg [5, 6, 7, 8, 11] n (fun gk _ _ _ _ i wr => ∃ k : Nat, k ≤ n ∧ n - k ≤ gk ∧ i = .int .i64 k ∧ w = wr ∧ Aside (∀ j, j < k → xs[j]! = ys[j]!))
  case atStart => exact ⟨0, Nat.zero_le _, by omega, rfl, rfl, fun j hj => absurd hj (Nat.not_lt_zero _)⟩
  case round =>
    obtain ⟨k, hk, hgk, rfl, rfl, A⟩ := hrel
    by_cases hlt : k < n
    · have hltz : (k : Int) < (n : Int) := by omega
      have hge : ¬ (n : Int) ≤ (k : Int) := by omega
      have hk0 : (0 : Int) ≤ (k : Int) := by omega
      obtain ⟨b1, off1, rfl, _, hat1⟩ := rdI RX.out (by rw [HX.out]; omega)
      obtain ⟨b2, off2, rfl, _, hat2⟩ := rdI RY.out (by rw [HY.out]; omega)
      obtain ⟨x, hx, hxc⟩ := hat1 k (by rw [HX.out]; exact hlt)
      obtain ⟨y, hy, hyc⟩ := hat2 k (by rw [HY.out]; exact hlt)
      obtain ⟨hbr1, c0⟩ := hxc w (Below.refl _ _)
      obtain ⟨hbr2, d0⟩ := hyc w (Below.refl _ _)
      have HXX := hide (getI! hx)
      have HYY := hide (getI! hy)
      clear hat1 hat2 hx hxc hy hyc
      go_wp2_with fail
      refine (cmpInt_any _ _ _).mono ?_
      rintro e w' ⟨rfl, rfl⟩
      by_cases hc : x = y
      · have HC : Hid (xs[k]! = ys[k]!) := hide (by rw [HXX.out, HYY.out, hc])
        rw [show cmpI x y = 0 from by rw [hc]; unfold cmpI; simp]
        clear hc
        go_wp2
        go_roundg (n - (k + 1))
        case measure => omega
        case rel => exact ⟨k + 1, by omega, by omega, by go_num, rfl, fun j hj => by
          rcases Nat.lt_succ_iff_lt_or_eq.1 hj with h1 | h1
          · exact A.out j h1
          · subst h1; exact HC.out⟩
      · have HO := hide (show lexC xs ys = cmpI x y from by rw [lexC_diff (k := k) (by rw [HX.out]; exact hlt) (by rw [HY.out]; exact hlt) A.out (by rw [HXX.out, HYY.out]; exact hc), HXX.out, HYY.out])
        have hcn := cmpI_ne hc
        generalize cmpI x y = cv at hcn HO
        have hd : (cv == 0) = false := by simp [hcn]
        have hd2 : decide (cv = 0) = false := by simp [hcn]
        clear hc
        go_wp2
        go_ret
        exact ⟨ret_int HO.out.symm, rfl⟩
    · have hltz : ¬ (k : Int) < (n : Int) := by omega
      obtain rfl : k = n := by omega
      have HO := hide (show lexC xs ys = 0 from lexC_same (by rw [HX.out, HY.out]) (fun j hj => A.out j (by rw [HX.out] at hj; exact hj)))
      go_wp2
      go_ret
      exact ⟨ret_int HO.out.symm, rfl⟩

set_option maxRecDepth 100000 in
set_option maxHeartbeats 1000000 in
theorem isFewer_any (ao : Option Addr) (n c : Nat) (zs : List Cv) (bo : Option Addr) (m d : Nat) (cs : List Cv) (w : World) (hz : zs.length = n) (hn : n ≤ 10) (hr : Rd encCv 6 w.heap.size w ao zs) (hcs : cs.length = m) (hm : m ≤ 10) (hrc : Rd encCv 6 w.heap.size w bo cs) :
    Calls Try.prog 69 #[.slice ao n c, .slice bo m d] w fun e w' => e = .returned (.bool (befB (zs.map Cv.i) (cs.map Cv.i))) ∧ Below w.heap.size w w' := by
  have HZ := hide hz
  have HR := hide hr
  have HZC := hide hcs
  have HRC := hide hrc
  clear hz hr hcs hrc
  have L1 : Hid ((zs.map Cv.i).length = n) := hide (by rw [List.length_map, HZ.out])
  have L2 : Hid ((cs.map Cv.i).length = m) := hide (by rw [List.length_map, HZC.out])
  rcases Nat.lt_trichotomy n m with h | h | h
  · have HO : Hid (befB (zs.map Cv.i) (cs.map Cv.i) = true) := hide (by rw [bef_len L1.out L2.out (by omega)]; simp [h])
    have h1 : (n : Int) < (m : Int) := by omega
    go_enter Try.func69, Try.ntmps69
    go_wp2
    go_ret
    exact ⟨ret_bool HO.out.symm, Below.refl _ _⟩
  · subst h
    have HO : Hid (befB (zs.map Cv.i) (cs.map Cv.i) = decide (lexC (zs.map Cv.i) (cs.map Cv.i) < 0)) := hide (bef_lex L1.out L2.out)
    have h1 : ¬ (n : Int) < (n : Int) := by omega
    go_enter Try.func69, Try.ntmps69
    go_wp2_with fail
    refine (coverIds_any ao n c zs _ HZ.out (by omega) HR.out).mono ?_
    rintro e w1 ⟨v1, rfl, ho1, hb⟩
    have HB1 := hide hb
    have HO1 := hide ho1
    have HRC1 := hide (rd_step HRC.out hb)
    clear hb ho1
    go_wp2_with fail
    refine (coverIds_any bo n d cs _ HZC.out (by omega) HRC1.out).mono ?_
    rintro e w2 ⟨v2, rfl, ho2, hb⟩
    have HB2 := hide (bl_step HB1.out hb)
    have HO1 := hide (own_step HO1.out hb)
    obtain ⟨p1, c1, rfl, _, _, r1⟩ := own_rd encI_len HO1.out L1.out
    obtain ⟨p2, c2, rfl, _, _, r2⟩ := own_rd encI_len ho2 L2.out
    have R1 := hide r1
    have R2 := hide r2
    clear hb ho2 r1 r2
    go_wp2_with fail
    refine (CompareL_any p1 p2 n c1 c2 _ _ _ L1.out L2.out (by omega) R1.out R2.out).mono ?_
    rintro e w3 ⟨rfl, rfl⟩
    generalize lexC (zs.map Cv.i) (cs.map Cv.i) = cv at HO
    go_wp2
    go_ret
    exact ⟨ret_bool (by rw [HO.out]), HB2.out⟩
  · have HO : Hid (befB (zs.map Cv.i) (cs.map Cv.i) = false) := hide (by rw [bef_len L1.out L2.out (by omega)]; simp; omega)
    have h1 : ¬ (n : Int) < (m : Int) := by omega
    have h2 : ¬ (n : Int) = (m : Int) := by omega
    have h3 : decide ((n : Int) = (m : Int)) = false := by simp; omega
    have h4 : ((n : Int) == (m : Int)) = false := by simp; omega
    go_enter Try.func69, Try.ntmps69
    go_wp2
    go_ret
    exact ⟨ret_bool HO.out.symm, Below.refl _ _⟩
set_option maxRecDepth 100000 in
set_option maxHeartbeats 1000000 in
theorem cheaper_any (ao : Option Addr) (n c : Nat) (zs : List Cv) (bo : Option Addr) (m d : Nat) (cs : List Cv) (w : World) (hz : zs.length = n) (hn : n ≤ 10) (hr : Rd encCv 6 w.heap.size w ao zs) (hcs : cs.length = m) (hm : m ≤ 10) (hrc : Rd encCv 6 w.heap.size w bo cs) (g1 : goodAll zs) (g2 : goodAll cs) :
    Calls Try.prog 71 #[.slice ao n c, .slice bo m d] w fun e w' => e = .returned (.bool (ltK true (keyOf zs) (keyOf cs))) ∧ Below w.heap.size w w' := by
  have HZ := hide hz
  have HR := hide hr
  have HZC := hide hcs
  have HRC := hide hrc
  clear hz hr hcs hrc
  have G1 := hide (good_p g1)
  have G2 := hide (good_p g2)
  have hp1 : ∃ p, p = sumP zs := ⟨_, rfl⟩
  have hp2 : ∃ p, p = sumP cs := ⟨_, rfl⟩
  obtain ⟨P1, hP1⟩ := hp1
  obtain ⟨P2, hP2⟩ := hp2
  have K1 : (keyOf zs).1 = P1 := hP1.symm
  have K2 : (keyOf cs).1 = P2 := hP2.symm
  have HP1 := hide hP1
  have HP2 := hide hP2
  clear hP1 hP2 g1 g2
  rcases Int.lt_trichotomy P1 P2 with h | h | h
  · have HO := hide (ltT_lt (x := keyOf zs) (y := keyOf cs) (by rw [K1, K2]; exact h))
    clear K1 K2
    go_enter Try.func71, Try.ntmps71
    go_wp2_with fail
    refine (price_any ao n c zs _ HZ.out hn HR.out G1.out).mono ?_
    rintro e w1 ⟨rfl, hb⟩
    have HB := hide (hb)
    have HR := hide (rd_step HR.out hb)
    have HRC := hide (rd_step HRC.out hb)
    clear hb
    rw [← HP1.out]
    go_wp2_with fail
    refine (price_any bo m d cs _ HZC.out hm HRC.out G2.out).mono ?_
    rintro e w1 ⟨rfl, hb⟩
    have HB := hide (bl_step HB.out hb)
    have HR := hide (rd_step HR.out hb)
    have HRC := hide (rd_step HRC.out hb)
    clear hb
    rw [← HP2.out]
    go_wp2
    go_ret
    exact ⟨ret_bool HO.out.symm, HB.out⟩
  · subst h
    have HO : Hid (ltK true (keyOf zs) (keyOf cs) = befB (zs.map Cv.i) (cs.map Cv.i)) := hide (ltT_eq (by rw [K1, K2]))
    clear K1 K2
    have h1 : ¬ P1 < P1 := by omega
    go_enter Try.func71, Try.ntmps71
    go_wp2_with fail
    refine (price_any ao n c zs _ HZ.out hn HR.out G1.out).mono ?_
    rintro e w1 ⟨rfl, hb⟩
    have HB := hide (hb)
    have HR := hide (rd_step HR.out hb)
    have HRC := hide (rd_step HRC.out hb)
    clear hb
    rw [← HP1.out]
    go_wp2_with fail
    refine (price_any bo m d cs _ HZC.out hm HRC.out G2.out).mono ?_
    rintro e w1 ⟨rfl, hb⟩
    have HB := hide (bl_step HB.out hb)
    have HR := hide (rd_step HR.out hb)
    have HRC := hide (rd_step HRC.out hb)
    clear hb
    rw [← HP2.out]
    go_wp2_with fail
    refine (price_any ao n c zs _ HZ.out hn HR.out G1.out).mono ?_
    rintro e w1 ⟨rfl, hb⟩
    have HB := hide (bl_step HB.out hb)
    have HR := hide (rd_step HR.out hb)
    have HRC := hide (rd_step HRC.out hb)
    clear hb
    rw [← HP1.out]
    go_wp2_with fail
    refine (price_any bo m d cs _ HZC.out hm HRC.out G2.out).mono ?_
    rintro e w1 ⟨rfl, hb⟩
    have HB := hide (bl_step HB.out hb)
    have HR := hide (rd_step HR.out hb)
    have HRC := hide (rd_step HRC.out hb)
    clear hb
    rw [← HP2.out]
    go_wp2_with fail
    refine (isFewer_any ao n c zs bo m d cs _ HZ.out hn HR.out HZC.out hm HRC.out).mono ?_
    rintro e w9 ⟨rfl, hb⟩
    have HB := hide (bl_step HB.out hb)
    clear hb
    go_wp2
    go_ret
    exact ⟨ret_bool HO.out.symm, HB.out⟩
  · have HO := hide (ltT_gt (x := keyOf zs) (y := keyOf cs) (by rw [K1, K2]; exact h))
    clear K1 K2
    have h1 : ¬ P1 < P2 := by omega
    have h2 : decide (P1 = P2) = false := by simp; omega
    have h3 : (P1 == P2) = false := by simp; omega
    go_enter Try.func71, Try.ntmps71
    go_wp2_with fail
    refine (price_any ao n c zs _ HZ.out hn HR.out G1.out).mono ?_
    rintro e w1 ⟨rfl, hb⟩
    have HB := hide (hb)
    have HR := hide (rd_step HR.out hb)
    have HRC := hide (rd_step HRC.out hb)
    clear hb
    rw [← HP1.out]
    go_wp2_with fail
    refine (price_any bo m d cs _ HZC.out hm HRC.out G2.out).mono ?_
    rintro e w1 ⟨rfl, hb⟩
    have HB := hide (bl_step HB.out hb)
    have HR := hide (rd_step HR.out hb)
    have HRC := hide (rd_step HRC.out hb)
    clear hb
    rw [← HP2.out]
    go_wp2_with fail
    refine (price_any ao n c zs _ HZ.out hn HR.out G1.out).mono ?_
    rintro e w1 ⟨rfl, hb⟩
    have HB := hide (bl_step HB.out hb)
    have HR := hide (rd_step HR.out hb)
    have HRC := hide (rd_step HRC.out hb)
    clear hb
    rw [← HP1.out]
    go_wp2_with fail
    refine (price_any bo m d cs _ HZC.out hm HRC.out G2.out).mono ?_
    rintro e w1 ⟨rfl, hb⟩
    have HB := hide (bl_step HB.out hb)
    have HR := hide (rd_step HR.out hb)
    have HRC := hide (rd_step HRC.out hb)
    clear hb
    rw [← HP2.out]
    go_wp2
    go_ret
    exact ⟨ret_bool (by rw [HO.out]; first | rfl | (simp; omega)), HB.out⟩

end Go.Proofs.Ytpdfbijfklmonaa
