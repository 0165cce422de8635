/- slices.Contains on pages; l1Has. -/
import Derived.Test.YtdgalehipgdhiaaDoorK1
namespace Go.Proofs.YtdgalehipgdhiaaDoor
open Go.RowKit
set_option linter.unusedVariables false
set_option linter.unusedSimpArgs false

set_option maxRecDepth 100000 in
theorem IndexPage_any (ao : Option Addr) (n c : Nat) (zs : List Pg) (y : Pg) (w : World) (hz : zs.length = n) (hn : n ≤ 1048576) (hr : Rd encPg 4 w.heap.size w ao zs) :
    Calls Tryd.prog 55 #[.slice ao n c, .agg #[.int .i64 y.n, .int .i64 y.r, .int .i64 y.c, .int .i64 y.l]] w fun e w' => e = .returned (.int .i64 (idxB (sameP y) zs)) ∧ Below w.heap.size w w' := by
  have HZ := hide hz
  have HR := hide hr
  obtain ⟨V, hV⟩ : ∃ V, V = w.alloc (.cells #[.int .i64 y.n, .int .i64 y.r, .int .i64 y.c, .int .i64 y.l] 58) := ⟨_, rfl⟩
  have HBV : Hid (Below w.heap.size w V) := hide (by rw [hV]; exact (Below.refl _ _).alloc (Nat.le_refl _) _)
  have g0 : w.heap.size < V.heap.size := by rw [hV]; simp
  have e0 := hide (show V.cell? ⟨w.heap.size, 0, none⟩ = some (.int .i64 y.n) from by rw [hV]; simp)
  have e1 := hide (show V.cell? ⟨w.heap.size, 1, none⟩ = some (.int .i64 y.r) from by rw [hV]; simp)
  have e2 := hide (show V.cell? ⟨w.heap.size, 2, none⟩ = some (.int .i64 y.c) from by rw [hV]; simp)
  have e3 := hide (show V.cell? ⟨w.heap.size, 3, none⟩ = some (.int .i64 y.l) from by rw [hV]; simp)
  have HW := hide hV
  clear hz hr hV
  go_enter Tryd.func55, Tryd.ntmps55
  go_wp2
  rw [← HW.out]
  go_loopg [8] n (fun gk i wr => ∃ k : Nat, k ≤ n ∧ n - k ≤ gk ∧ i = .int .i64 k ∧ Aside (Below V.heap.size V wr) ∧ Aside (∀ j, j < k → ∀ z, zs[j]? = some z → sameP y z = false))
  case atStart => exact ⟨0, Nat.zero_le _, by omega, rfl, Below.refl _ _, fun j hj => absurd hj (Nat.not_lt_zero _)⟩
  case round =>
    obtain ⟨k, hk, hgk, rfl, BW, A⟩ := hrel
    have l0 := (BW.out.cell (p := ⟨w.heap.size, 0, none⟩) g0).trans e0.out
    have l1 := (BW.out.cell (p := ⟨w.heap.size, 1, none⟩) g0).trans e1.out
    have l2 := (BW.out.cell (p := ⟨w.heap.size, 2, none⟩) g0).trans e2.out
    have l3 := (BW.out.cell (p := ⟨w.heap.size, 3, none⟩) g0).trans e3.out
    by_cases hlt : k < n
    · have hlti : (k : Int) < (n : Int) := by omega
      have hk0 : (0 : Int) ≤ (k : Int) := by omega
      obtain ⟨b, off, rfl, hb1, hat⟩ := rdPg HR.out (by rw [HZ.out]; omega)
      obtain ⟨x, hx, hxc⟩ := hat k (by rw [HZ.out]; exact hlt)
      have HX := hide hx
      obtain ⟨hbr, c0, c1, c2, c3⟩ := hxc wr (HBV.out.trans (BW.out.mono HBV.out.size))
      clear hx hxc hat
      cases hq : sameP y x with
      | true =>
        obtain rfl := sameP_iff.1 hq
        have HI := hide (idx_hit HX.out hq A.out).1
        clear hq
        go_wp2_with fail
        go_quiet (fail)
        go_wp2
        go_ret
        exact ⟨ret_int HI.out.symm, HBV.out.trans ((below_drewN BW.out _).mono HBV.out.size)⟩
      | false =>
        have HQ := hide hq
        have hq2 : (y.n == x.n && (y.r == x.r && (y.c == x.c && y.l == x.l))) = false := by unfold sameP at hq; simpa [Bool.and_assoc] using hq
        have HQ2 := hide hq2
        clear hq hq2
        go_wp2_with fail
        have f4 : y.n = x.n → y.r = x.r → y.c = x.c → y.l = x.l → False := fun a1 a2 a3 a4 => by have := HQ2.out; simp [a1, a2, a3, a4] at this
        rcases first4 (y.n == x.n) (y.r == x.r) (y.c == x.c) (y.l == x.l) with h1 | ⟨h1, h2⟩ | ⟨h1, h2, h3⟩ | ⟨h1, h2, h3, h4⟩ | ⟨h1, h2, h3, h4⟩
        iterate 4
          · have HF4 := hide f4
            clear f4
            go_quiet (fail)
            go_wp2
            go_roundg (n - (k + 1))
            case measure => omega
            case rel => exact ⟨k + 1, by omega, by omega, by go_num, below_drewN BW.out _, none_succ A.out HX.out HQ.out⟩
        · exact absurd (f4 (by simpa using h1) (by simpa using h2) (by simpa using h3) (by simpa using h4)) id
    · have hge : ¬ (k : Int) < (n : Int) := by omega
      have HI := hide (idx_miss fun j z hz => A.out j (by have := (List.getElem?_eq_some_iff.1 hz).1; rw [HZ.out] at this; omega) z hz).1
      go_wp2
      go_ret
      exact ⟨ret_int HI.out.symm, HBV.out.trans (BW.out.mono HBV.out.size)⟩
set_option maxRecDepth 100000 in
theorem ContainsPage_any (ao : Option Addr) (n c : Nat) (zs : List Pg) (y : Pg) (w : World) (hz : zs.length = n) (hn : n ≤ 1048576) (hr : Rd encPg 4 w.heap.size w ao zs) :
    Calls Tryd.prog 37 #[.slice ao n c, .agg #[.int .i64 y.n, .int .i64 y.r, .int .i64 y.c, .int .i64 y.l]] w fun e w' => e = .returned (.bool (hasP zs y)) ∧ Below w.heap.size w w' := by
  have hb0 : Below w.heap.size w (w.alloc (.cells #[.int .i64 y.n, .int .i64 y.r, .int .i64 y.c, .int .i64 y.l] 58)) := (Below.refl _ _).alloc (Nat.le_refl _) _
  have H := hide (IndexPage_any ao n c zs y _ hz hn (rd_step hr hb0))
  have HB0 := hide hb0
  clear hz hr hb0
  go_enter Tryd.func37, Tryd.ntmps37
  go_wp2_with fail
  refine H.out.mono ?_
  rintro e w1 ⟨rfl, hb⟩
  have HB := hide (bl_step HB0.out hb)
  clear hb
  obtain ⟨q, hq⟩ : ∃ q, idxB (sameP y) zs = q := ⟨_, rfl⟩
  have HD : Hid (hasP zs y = decide (0 ≤ q)) := hide (by unfold hasP; rw [hq])
  rw [hq]
  clear hq
  by_cases h0 : 0 ≤ q
  · go_wp2
    go_ret
    exact ⟨ret_bool (by rw [HD.out]; first | done | (simp; done) | (simp; omega)), HB.out⟩
  · go_wp2
    go_ret
    exact ⟨ret_bool (by rw [HD.out]; first | done | (simp; done) | (simp; omega)), HB.out⟩

theorem noneq_succ {is : List Int} {k : Nat} {q y : Int} (h : ∀ j, j < k → ∀ z, is[j]? = some z → z ≠ q) (hy : is[k]? = some y) (hn : y ≠ q) : ∀ j, j < k + 1 → ∀ z, is[j]? = some z → z ≠ q := fun j hj z hz => by
  rcases Nat.lt_succ_iff_lt_or_eq.1 hj with h1 | h1
  · exact h j h1 z hz
  · subst h1; rw [hy] at hz; injection hz with hz; subst hz; exact hn
set_option maxRecDepth 100000 in
theorem l1Has_any (ao : Option Addr) (n c : Nat) (is : List Int) (q : Int) (w : World) (hz : is.length = n) (hn : n ≤ 1048576) (hr : Rd encI 1 w.heap.size w ao is) :
    Calls Tryd.prog 45 #[.slice ao n c, .int .i64 q] w fun e w' => e = .returned (.bool (hasN is q)) ∧ w = w' := by
  have HZ := hide hz
  have HR := hide hr
  clear hz hr
  go_enter Tryd.func45, Tryd.ntmps45
  go_wp2
  go_loopg [5] n (fun gk i wr => ∃ k : Nat, k ≤ n ∧ n - k ≤ gk ∧ i = .int .i64 k ∧ w = wr ∧ Aside (∀ j, j < k → ∀ z, is[j]? = some z → z ≠ q))
  case atStart => exact ⟨0, Nat.zero_le _, by omega, rfl, rfl, fun j hj => absurd hj (Nat.not_lt_zero _)⟩
  case round =>
    obtain ⟨k, hk, hgk, rfl, rfl, A⟩ := hrel
    by_cases hlt : k < n
    · have hlti : (k : Int) < (n : Int) := by omega
      have hk0 : (0 : Int) ≤ (k : Int) := by omega
      obtain ⟨b, off, rfl, hb1, hat⟩ := rdI HR.out (by rw [HZ.out]; omega)
      obtain ⟨x, hx, hxc⟩ := hat k (by rw [HZ.out]; exact hlt)
      have HX := hide hx
      obtain ⟨hbr, c0⟩ := hxc w (Below.refl _ _)
      clear hx hxc hat
      by_cases hq : x = q
      · subst hq
        have HC : Hid (hasN is x = true) := hide (by unfold hasN; simpa using List.mem_of_getElem? HX.out)
        go_wp2
        go_ret
        exact ⟨ret_bool HC.out.symm, rfl⟩
      · have HQ := hide hq
        have h1 : decide (x = q) = false := by simpa using hq
        have h2 : (x == q) = false := by simpa using hq
        clear hq
        go_wp2
        go_roundg (n - (k + 1))
        case measure => omega
        case rel => exact ⟨k + 1, by omega, by omega, by go_num, rfl, noneq_succ A.out HX.out HQ.out⟩
    · have hge : ¬ (k : Int) < (n : Int) := by omega
      have HC : Hid (hasN is q = false) := hide (by
        unfold hasN; rw [Bool.eq_false_iff]; intro h
        have h : q ∈ is := by simpa using h
        obtain ⟨j, hj⟩ := List.getElem?_of_mem h
        exact A.out j (by have := (List.getElem?_eq_some_iff.1 hj).1; rw [HZ.out] at this; omega) q hj rfl)
      go_wp2
      go_ret
      exact ⟨ret_bool HC.out.symm, rfl⟩

end Go.Proofs.YtdgalehipgdhiaaDoor
