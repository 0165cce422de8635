/- The draws of FnMosaics. -/
import Derived.Test.YtpdfbijfklmonaaC8
import Derived.Test.YtpdfbijfklmonaaC9
import Derived.Test.YtpdfbijfklmonaaE1
namespace Go.Proofs.Ytpdfbijfklmonaa
open Go.RowKit
set_option linter.unusedVariables false
set_option linter.unusedSimpArgs false

theorem own_base0 {w : World} {b b2 n k : Nat} {e : TypeId} {v : Value} {xs : List Value} (ho : w.ownsRow b e k v n xs) (h : b2 ≤ b) : w.ownsRow b2 e k v n xs := ⟨ho.1, ho.2.imp id (fun ⟨g, cap, cur, h1, h2, r⟩ => ⟨g, cap, cur, h1, Nat.le_trans h h2, r⟩)⟩

theorem results_tmp4 {fn : Func} {t u v x : Tmp} (h : fn.results = #[.tmp t, .tmp u, .tmp v, .tmp x]) (tmps : Array Value) (P : Program) (w : World) :
    (results fn tmps).run P w = .ok (.tuple #[tmps.getD t undef, tmps.getD u undef, tmps.getD v undef, tmps.getD x undef]) w := by
  simp [results, h]

theorem Bytes.later {w w' : World} {ao : Option Addr} {n : Nat} (h : Bytes w.heap.size w ao n) (hb : Below w.heap.size w w') : Bytes w'.heap.size w' ao n := by
  rcases h with h | ⟨b, off, rfl, h1, h2, h3⟩
  · exact .inl h
  · refine .inr ⟨b, off, rfl, Nat.lt_of_lt_of_le h2 hb.size, Nat.lt_of_lt_of_le h2 hb.size, fun i hi => ?_⟩
    obtain ⟨x, x0, x1, hx⟩ := h3 i hi
    exact ⟨x, x0, x1, (hb.cell (p := ⟨b, _, none⟩) h1).trans hx⟩

def hasQ (is : List Int) (q : Int) : Bool := is.contains q
theorem notin_succ {is : List Int} {k : Nat} {q y : Int} (h : ∀ j, j < k → ∀ z, is[j]? = some z → z ≠ q) (hy : is[k]? = some y) (hn : y ≠ q) : ∀ j, j < k + 1 → ∀ z, is[j]? = some z → z ≠ q := fun j hj z hz => by
  rcases Nat.lt_succ_iff_lt_or_eq.1 hj with h1 | h1
  · exact h j h1 z hz
  · subst h1; rw [hy] at hz; injection hz with hz; subst hz; exact hn
set_option maxRecDepth 100000 in
theorem vHas_any (ao : Option Addr) (n c : Nat) (is : List Int) (q : Int) (w : World) (hz : is.length = n) (hn : n ≤ 1048576) (hr : Rd encI 1 w.heap.size w ao is) :
    Calls Try.prog 44 #[.slice ao n c, .int .i64 q] w fun e w' => e = .returned (.bool (hasQ is q)) ∧ Below w.heap.size w w' := by
  have HZ := hide hz
  have HR := hide hr
  clear hz hr
  go_enter Try.func44, Try.ntmps44
  go_wp2
  go_loopg [5] n (fun gk i wr => ∃ k : Nat, k ≤ n ∧ n - k ≤ gk ∧ i = .int .i64 k ∧ Aside (Below w.heap.size w wr) ∧ Aside (∀ j, j < k → ∀ z, is[j]? = some z → z ≠ q))
  case atStart => exact ⟨0, Nat.zero_le _, by omega, rfl, Below.refl _ _, fun j hj => absurd hj (Nat.not_lt_zero _)⟩
  case round =>
    obtain ⟨k, hk, hgk, rfl, BW, A⟩ := hrel
    by_cases hlt : k < n
    · have hlti : (k : Int) < (n : Int) := by omega
      have hk0 : (0 : Int) ≤ (k : Int) := by omega
      obtain ⟨b, off, rfl, hb1, hat⟩ := rdI HR.out (by rw [HZ.out]; omega)
      obtain ⟨x, hx, hxc⟩ := hat k (by rw [HZ.out]; exact hlt)
      have HX := hide hx
      obtain ⟨hbr, c0⟩ := hxc wr BW.out
      clear hx hxc hat
      by_cases hq : x = q
      · subst hq
        have HC : Hid (hasQ is x = true) := hide (by unfold hasQ; simpa using List.mem_of_getElem? HX.out)
        go_wp2
        go_ret
        exact ⟨ret_bool HC.out.symm, BW.out⟩
      · have HQ := hide hq
        have h1 : decide (x = q) = false := by simpa using hq
        have h2 : (x == q) = false := by simpa using hq
        clear hq
        go_wp2
        go_roundg (n - (k + 1))
        case measure => omega
        case rel => exact ⟨k + 1, by omega, by omega, by go_num, BW.out, notin_succ A.out HX.out HQ.out⟩
    · have hge : ¬ (k : Int) < (n : Int) := by omega
      have HC : Hid (hasQ is q = false) := hide (by
        unfold hasQ; rw [Bool.eq_false_iff]; intro h
        have h : q ∈ is := by simpa using h
        obtain ⟨j, hj⟩ := List.getElem?_of_mem h
        exact A.out j (by have := (List.getElem?_eq_some_iff.1 hj).1; rw [HZ.out] at this; omega) q hj rfl)
      go_wp2
      go_ret
      exact ⟨ret_bool HC.out.symm, BW.out⟩

set_option maxRecDepth 100000 in
theorem DrawBareSquares_any (ao : Option Addr) (n c : Nat) (w : World) (hn : n ≤ 65536) (hnc : n ≤ c) (hby : Bytes w.heap.size w ao n) :
    Calls Try.prog 73 #[.slice ao n c] w fun e w' => ∃ (a b : Int) (v : Value) (zs : List Cv), e = .returned (.tuple #[.int .i64 a, .int .i64 b, v]) ∧ zs.length ≤ 12 ∧ w'.ownsRow w.heap.size 60 6 v zs.length (zs.flatMap encCv) ∧ a ≤ 60 ∧ (0 ≤ b ∧ b ≤ 60) ∧ Below w.heap.size w w' := by
  have HCUR : Hid (Cur w.heap.size (w.alloc (.cells #[.slice ao n c, .int .i64 ((0 : Nat) : Int), .int .u64 0] 92)) w.heap.size 0) := hide ⟨ao, n, c, 0, 0, Blk.new w _ _, Nat.le_refl _, Nat.le_refl _, hn, hnc, hby.keep (by simp) (fun j hj _ => Below.heap_alloc w _ j hj)⟩
  clear hby
  go_enter Try.func73, Try.ntmps73
  go_wp2_with fail
  refine (draw_wall_any w.heap.size w.heap.size 0 _ HCUR.out (by omega)).mono ?_
  rintro e w1 ⟨a, b, v, zs, rfl, hl, ho, ha, hb, hc, hg⟩
  have HO := hide (own_base0 (b2 := w.heap.size) ho (by simp))
  have HB := hide (bl_gr ((Below.refl _ w).alloc (Nat.le_refl _) _) hg (Nat.le_refl _) (by simp))
  clear ho hg hc
  go_wp2
  go_ret3
  exact ⟨a, b, _, zs, rfl, hl, HO.out, ha, hb, HB.out⟩
theorem DrawFewestCovers_any (ao : Option Addr) (n c : Nat) (w : World) (hn : n ≤ 65536) (hnc : n ≤ c) (hby : Bytes w.heap.size w ao n) :
    Calls Try.prog 38 #[.slice ao n c] w fun e w' => ∃ (a b : Int) (v : Value) (zs : List Cv), e = .returned (.tuple #[.int .i64 a, .int .i64 b, v]) ∧ zs.length ≤ 12 ∧ w'.ownsRow w.heap.size 60 6 v zs.length (zs.flatMap encCv) ∧ a ≤ 60 ∧ (0 ≤ b ∧ b ≤ 60) ∧ Below w.heap.size w w' := by
  have H := hide (DrawBareSquares_any ao n c w hn hnc hby)
  clear hby
  go_enter Try.func38, Try.ntmps38
  go_wp2_with fail
  refine H.out.mono ?_
  rintro e w1 ⟨a, b, v, zs, rfl, hl, ho, ha, hb, hbl⟩
  have HO := hide ho
  have HB := hide hbl
  clear ho hbl
  go_wp2
  go_ret3
  exact ⟨a, b, _, zs, rfl, hl, HO.out, ha, hb, HB.out⟩
set_option maxRecDepth 100000 in
theorem DrawIsMosaic_any (ao : Option Addr) (n c : Nat) (w : World) (hn : n ≤ 65536) (hnc : n ≤ c) (hby : Bytes w.heap.size w ao n) :
    Calls Try.prog 45 #[.slice ao n c] w fun e w' => ∃ (a b : Int) (v : Value) (zs : List Cv) (u : Value) (is : List Int), e = .returned (.tuple #[.int .i64 a, .int .i64 b, v, u]) ∧ zs.length ≤ 12 ∧ is.length ≤ 13 ∧ w'.ownsRow w.heap.size 60 6 v zs.length (zs.flatMap encCv) ∧
      w'.ownsRow w.heap.size 3 1 u is.length (is.flatMap encI) ∧ Below w.heap.size w w' := by
  have HCUR : Hid (Cur w.heap.size (w.alloc (.cells #[.slice ao n c, .int .i64 ((0 : Nat) : Int), .int .u64 0] 92)) w.heap.size 0) := hide ⟨ao, n, c, 0, 0, Blk.new w _ _, Nat.le_refl _, Nat.le_refl _, hn, hnc, hby.keep (by simp) (fun j hj _ => Below.heap_alloc w _ j hj)⟩
  clear hby
  go_enter Try.func45, Try.ntmps45
  go_wp2_with fail
  refine (draw_wall_any w.heap.size w.heap.size 0 _ HCUR.out (by omega)).mono ?_
  rintro e w1 ⟨a, b, v, zs, rfl, hl, ho, ha, hb, hc, hg⟩
  obtain ⟨N, hN⟩ : ∃ N, N = zs.length := ⟨_, rfl⟩
  rw [← hN] at ho hl
  obtain ⟨so, sc, rfl, _, _, _⟩ := own_rd encCv_len ho hN.symm
  have HZ := hide hN.symm
  have HO := hide ho
  have HC := hide hc
  have HB := hide (bl_gr ((Below.refl _ w).alloc (Nat.le_refl _) _) hg (Nat.le_refl _) (by simp))
  have hsz := hg.size
  simp only [World.size_alloc] at hsz
  clear ho hg hc hN
  go_wp2_with fail
  refine (draw_mosaic_any w.heap.size w.heap.size _ a b so N sc _ zs _ HC.out (by omega) HZ.out hl HO.out (by simp)).mono ?_
  rintro e w2 ⟨u, is, rfl, hil, hoi, _, hg⟩
  have HO := hide (own_base0 (b2 := w.heap.size) (own_gr HO.out hg (by simp)) (by simp))
  have HI := hide (own_base0 (b2 := w.heap.size) hoi (by omega))
  have HB := hide (bl_gr HB.out hg (Nat.le_refl _) (by omega))
  clear hoi hg
  go_wp2
  refine bodyPost_ret (results_tmp4 rfl _ _ _) rfl ?_
  exact ⟨a, b, _, zs, _, is, rfl, by rw [HZ.out]; exact hl, hil, by rw [HZ.out]; exact HO.out, HI.out, HB.out⟩

end Go.Proofs.Ytpdfbijfklmonaa
