/- The loan that is not returned; the fine. -/
import Derived.Test.YtomfmphbnngdnaaN1
namespace Go.Proofs.Ytomfmphbnngdnaa
open Go.RowKit
set_option linter.unusedVariables false
set_option linter.unusedSimpArgs false

set_option maxRecDepth 100000 in
/-- slices.IndexFunc on Loan, at a closure that only reads and makes memory of its own -/
theorem IndexFuncLoan_any (g : Nat) (lb : Array Value) (p : Ln → Bool) (eg : ∀ args w, (callFunc g args).run Try.prog w = .ok (.enter g args) w) (ao : Option Addr) (n c : Nat) (zs : List Ln) (w : World) (hz : zs.length = n) (hn : n ≤ 1048576) (hr : Rd encLn 5 w.heap.size w ao zs)
    (hp : ∀ (W : World) (x : Ln), Below w.heap.size w W → Calls Try.prog g (#[.agg #[.int .i64 x.s, .int .i64 x.r, .int .i64 x.o, .int .i64 x.d, .int .i64 x.b]] ++ lb) W fun e w' => e = .returned (.bool (p x)) ∧ Below W.heap.size W w') :
    Calls Try.prog 57 #[.slice ao n c, .func (.func g) #[] lb] w fun e w' => e = .returned (.int .i64 (idxB p zs)) ∧ Below w.heap.size w w' := by
  have HZ := hide hz
  have HR := hide hr
  have HP := hide hp
  clear hz hr hp
  go_enter Try.func57, Try.ntmps57
  go_wp2
  go_loopg [5, 8] n (fun gk _ i wr => ∃ k : Nat, k ≤ n ∧ n - k ≤ gk ∧ i = .int .i64 k ∧ Aside (Below w.heap.size w wr) ∧ Aside (∀ j, j < k → ∀ y, zs[j]? = some y → p y = false))
  case atStart => exact ⟨0, Nat.zero_le _, by omega, rfl, Below.refl _ w, fun j hj => absurd hj (Nat.not_lt_zero _)⟩
  case round =>
    obtain ⟨k, hk, hg, rfl, BW, A⟩ := hrel
    by_cases hlt : k < n
    · have hltz : (k : Int) < (n : Int) := by omega
      obtain ⟨b, off, rfl, hb1, hat⟩ := rdLn HR.out (by rw [HZ.out]; omega)
      obtain ⟨x, hx, hxc⟩ := hat k (by rw [HZ.out]; exact hlt)
      have HX := hide hx
      obtain ⟨hbr, c0, c1, c2, c3, c4⟩ := hxc wr BW.out
      have hcall := HP.out wr x BW.out
      clear hx hxc hat
      cases hq : p x with
      | true =>
        rw [hq] at hcall
        have HQ := hide hq
        clear hq
        go_wp2_with fail
        refine hcall.mono ?_
        rintro e w' ⟨rfl, hb'⟩
        have HB' := hide hb'
        clear hb'
        go_wp2
        go_ret
        exact ⟨ret_int (idx_hit HX.out HQ.out A.out).1.symm, BW.out.trans (HB'.out.mono BW.out.size)⟩
      | false =>
        rw [hq] at hcall
        have HQ := hide hq
        clear hq
        go_wp2_with fail
        refine hcall.mono ?_
        rintro e w' ⟨rfl, hb'⟩
        have HB' := hide hb'
        clear hb'
        go_wp2
        go_roundg (n - (k + 1))
        case measure => omega
        case rel => exact ⟨k + 1, by omega, by omega, by go_num, BW.out.trans (HB'.out.mono BW.out.size), none_succ A.out HX.out HQ.out⟩
    · have hltz : ¬ (k : Int) < (n : Int) := by omega
      go_wp2
      go_ret
      exact ⟨ret_int (idx_miss fun j y hy => A.out j (by have := (List.getElem?_eq_some_iff.1 hy).1; rw [HZ.out] at this; omega) y hy).1.symm, BW.out⟩

def lentB (s : Int) (x : Ln) : Bool := x.s == s && x.b == -1
def lentS (s : Int) (x : Ln) : Bool := x.s == s && decide (x.b < 0)
theorem idx_eq {p q : Ln → Bool} : ∀ {zs : List Ln}, (∀ x ∈ zs, p x = q x) → idxB p zs = idxB q zs := by
  intro zs h
  rcases idx_cases q zs with ⟨h1, _, h3⟩ | ⟨k, x, hk, hx, hp, h1, _, h3⟩
  · rw [h1]
    exact (idx_miss fun j y hy => by rw [h y (List.mem_of_getElem? hy)]; exact h3 j y hy).1
  · rw [h1]
    exact (idx_hit hx (by rw [h x (List.mem_of_getElem? hx)]; exact hp) (fun j hj y hy => by rw [h y (List.mem_of_getElem? hy)]; exact h3 j hj y hy)).1
theorem lent_eq {zs : List Ln} (h : loansB zs = true) (s : Int) : idxB (lentS s) zs = idxB (lentB s) zs := by
  refine idx_eq fun x hx => ?_
  obtain ⟨k, hk⟩ := List.getElem?_of_mem hx
  have := okLn_bd (loans_at h hk)
  unfold lentS lentB; rw [Bool.eq_iff_iff]; simp; omega
def lentI (zs : List Ln) (s : Int) : Int := idxB (lentB s) zs
theorem lent_cases (zs : List Ln) (s : Int) : (lentI zs s = -1) ∨ ∃ k x, k < zs.length ∧ zs[k]? = some x ∧ x.b = -1 ∧ lentI zs s = (k : Int) := by
  unfold lentI
  rcases idx_cases (lentB s) zs with ⟨h1, _, _⟩ | ⟨k, x, hk, hx, hp, h1, _, _⟩
  · exact .inl h1
  · refine .inr ⟨k, x, hk, hx, ?_, h1⟩
    unfold lentB at hp; simp at hp; exact hp.2
theorem lentAt1_any (p : Nat) (s : Int) (x : Ln) (W : World) (e1 : W.cell? ⟨p, 0, none⟩ = some (.int .i64 s)) (l1 : p < W.heap.size) :
    Calls Try.prog 58 #[.agg #[.int .i64 x.s, .int .i64 x.r, .int .i64 x.o, .int .i64 x.d, .int .i64 x.b], .pointer (some ⟨p, 0, none⟩)] W fun e w' => e = .returned (.bool (lentB s x)) ∧ Below W.heap.size W w' := by
  rcases first2 (x.s == s) (x.b == -1) with h1 | ⟨h1, h2⟩ | ⟨h1, h2⟩
  all_goals
    have HO := hide (show lentB s x = _ from (by unfold lentB; simp only [*]; rfl))
    go_enter Try.func58, Try.ntmps58
    go_wp2
    go_ret
    exact ⟨ret_bool HO.out.symm, (Below.refl _ _).alloc (Nat.le_refl _) _⟩
set_option maxRecDepth 100000 in
theorem lentAt_any (ao : Option Addr) (n c : Nat) (zs : List Ln) (s : Int) (w : World) (hz : zs.length = n) (hn : n ≤ 1048576) (hr : Rd encLn 5 w.heap.size w ao zs) :
    Calls Try.prog 46 #[.slice ao n c, .int .i64 s] w fun e w' => e = .returned (.int .i64 (lentI zs s)) ∧ Below w.heap.size w w' := by
  have eg : ∀ args w, (callFunc 58 args).run Try.prog w = .ok (.enter 58 args) w := enters_at Try.func58 (by kernel_rfl) rfl
  obtain ⟨V, hV⟩ : ∃ V, V = w.alloc (.cells #[.int .i64 s] 3) := ⟨_, rfl⟩
  have s1 : V.heap.size = w.heap.size + 1 := by rw [hV]; simp
  have c1 : V.cell? ⟨w.heap.size, 0, none⟩ = some (.int .i64 s) := by rw [hV]; simp
  have bV : Below w.heap.size w V := by rw [hV]; exact (Below.refl _ _).alloc (Nat.le_refl _) _
  have H := hide (IndexFuncLoan_any 58 #[.pointer (some ⟨w.heap.size, 0, none⟩)] (lentB s) eg ao n c zs V hz hn (rd_step hr bV) (fun W x hb => by
    have := hb.size
    exact lentAt1_any w.heap.size s x W ((hb.cell (p := ⟨w.heap.size, 0, none⟩) (by show w.heap.size < V.heap.size; omega)).trans c1) (by omega)))
  have BV := hide bV
  clear hz hr eg c1 bV
  go_enter Try.func46, Try.ntmps46
  go_wp2_with fail
  first | rw [← hV] | skip
  refine H.out.mono ?_
  rintro e w' ⟨rfl, hb⟩
  go_wp2
  go_ret
  exact ⟨rfl, bl_step BV.out hb⟩
set_option maxRecDepth 100000 in
theorem l11Open_any (ao : Option Addr) (n c : Nat) (zs : List Ln) (s : Int) (w : World) (hz : zs.length = n) (hn : n ≤ 1048576) (hr : Rd encLn 5 w.heap.size w ao zs) :
    Calls Try.prog 45 #[.slice ao n c, .int .i64 s] w fun e w' => e = .returned (.int .i64 (idxB (lentS s) zs)) ∧ w = w' := by
  have HZ := hide hz
  have HR := hide hr
  clear hz hr
  go_enter Try.func45, Try.ntmps45
  go_wp2
  go_loopg [5] n (fun gk i wr => ∃ k : Nat, k ≤ n ∧ n - k ≤ gk ∧ i = .int .i64 k ∧ w = wr ∧ Aside (∀ j, j < k → ∀ y, zs[j]? = some y → lentS s y = false))
  case atStart => exact ⟨0, Nat.zero_le _, by omega, rfl, rfl, fun j hj => absurd hj (Nat.not_lt_zero _)⟩
  case round =>
    obtain ⟨k, hk, hg, rfl, rfl, A⟩ := hrel
    by_cases hlt : k < n
    · have hltz : (k : Int) < (n : Int) := by omega
      obtain ⟨b, off, rfl, hb1, hat⟩ := rdLn HR.out (by rw [HZ.out]; omega)
      obtain ⟨x, hx, hxc⟩ := hat k (by rw [HZ.out]; exact hlt)
      have HX := hide hx
      obtain ⟨hbr, c0, c1, c2, c3, c4⟩ := hxc w (Below.refl _ _)
      clear hx hxc hat
      have H3 : x.s ≠ s ∨ (x.s = s ∧ ¬ x.b < 0) ∨ (x.s = s ∧ x.b < 0) := by omega
      rcases H3 with h1 | ⟨h1, h2⟩ | ⟨h1, h2⟩
      iterate 2
        · have HQ : Hid (lentS s x = false) := hide (by unfold lentS; simp [*])
          go_wp2
          go_roundg (n - (k + 1))
          case measure => omega
          case rel => exact ⟨k + 1, by omega, by omega, by go_num, rfl, none_succ (p := lentS s) A.out HX.out HQ.out⟩
      · have HQ : Hid (lentS s x = true) := hide (by unfold lentS; simp [*])
        go_wp2
        go_ret
        exact ⟨ret_int (idx_hit (p := lentS s) HX.out HQ.out A.out).1.symm, rfl⟩
    · have hltz : ¬ (k : Int) < (n : Int) := by omega
      go_wp2
      go_ret
      exact ⟨ret_int (idx_miss fun j y hy => A.out j (by have := (List.getElem?_eq_some_iff.1 hy).1; rw [HZ.out] at this; omega) y hy).1.symm, rfl⟩
def mx (a b : Int) : Int := if a < b then b else a
def mn (a b : Int) : Int := if a < b then a else b
theorem l1Most_any (a b : Int) (w : World) : Calls Try.prog 61 #[.int .i64 a, .int .i64 b] w fun e w' => e = .returned (.int .i64 (mx a b)) ∧ w = w' := by
  by_cases h : a < b
  · go_enter Try.func61, Try.ntmps61
    go_wp2
    all_goals
      go_ret
      exact ⟨ret_int (by unfold mx; split <;> omega), rfl⟩
  · go_enter Try.func61, Try.ntmps61
    go_wp2
    all_goals
      go_ret
      exact ⟨ret_int (by unfold mx; split <;> omega), rfl⟩
theorem l1Least_any (a b : Int) (w : World) : Calls Try.prog 59 #[.int .i64 a, .int .i64 b] w fun e w' => e = .returned (.int .i64 (mn a b)) ∧ w = w' := by
  by_cases h : a < b
  · go_enter Try.func59, Try.ntmps59
    go_wp2
    all_goals
      go_ret
      exact ⟨ret_int (by unfold mn; split <;> omega), rfl⟩
  · go_enter Try.func59, Try.ntmps59
    go_wp2
    all_goals
      go_ret
      exact ⟨ret_int (by unfold mn; split <;> omega), rfl⟩
/-- what a loan of due day u costs that comes back on day d -/
def fineV (u d : Int) : Int := mn 1000 (10 * mx 0 (d - u))
def backX (x : Ln) (d : Int) : Ln := ⟨x.s, x.r, x.o, x.d, d⟩
def retL (zs : List Ln) (s d : Int) : List Ln := zs.set (lentI zs s).toNat (backX zs[(lentI zs s).toNat]! d)
def okRet (zs : List Ln) (s d : Int) : Bool := loansB zs && decide (0 ≤ lentI zs s) && inB d 0 4000 && loansB (retL zs s d)
def retV (zs : List Ln) (s d : Int) : List Ln := if okRet zs s d then retL zs s d else []
def retF (zs : List Ln) (s d : Int) : Int := if okRet zs s d then fineV zs[(lentI zs s).toNat]!.d d else 0
theorem ret_len {zs : List Ln} {s d : Int} : (retV zs s d).length ≤ zs.length := by unfold retV; split <;> simp [retL]
theorem retL_at {zs : List Ln} {s d : Int} {k : Nat} {x : Ln} (h : lentI zs s = (k : Int)) (hx : zs[k]? = some x) : retL zs s d = zs.set k (backX x d) := by unfold retL; rw [h, Int.toNat_natCast, getB hx]
theorem fineV_at {zs : List Ln} {s d : Int} {k : Nat} {x : Ln} (h : lentI zs s = (k : Int)) (hx : zs[k]? = some x) (hk : okRet zs s d = true) : retF zs s d = fineV x.d d := by unfold retF; rw [hk, h, Int.toNat_natCast, getB hx]; rfl

set_option maxRecDepth 100000 in
theorem fine_any (s r o u d : Int) (w : World) (h0 : 0 ≤ d ∧ d ≤ 4000) (h2 : 0 ≤ u ∧ u ≤ 4000) :
    Calls Try.prog 49 #[.agg #[.int .i64 s, .int .i64 r, .int .i64 o, .int .i64 u, .int .i64 d], .int .i64 d] w fun e w' => e = .returned (.int .i64 (fineV u d)) ∧ Below w.heap.size w w' := by
  have k0 : d ≠ -1 := by omega
  have k1 : IntKind.i64.wrap (d - u) = d - u := IntWalk.i64_in _ (by omega)
  obtain ⟨m, hm, hm0, hm1⟩ : ∃ m : Int, mx 0 (d - u) = m ∧ 0 ≤ m ∧ m ≤ 4000 := ⟨_, rfl, by unfold mx; split <;> omega, by unfold mx; split <;> omega⟩
  have x1 : (if 0 < d - u then d - u else 0) = m := hm
  have x2 : (if u < d then d - u else 0) = m := by rw [← hm]; unfold mx; split <;> split <;> omega
  have k2 : IntKind.i64.wrap (10 * m) = 10 * m := IntWalk.i64_in _ (by omega)
  have HV : Hid (fineV u d = mn 1000 (10 * m)) := hide (by unfold fineV; rw [hm])
  clear hm
  go_enter Try.func49, Try.ntmps49
  go_wp2
  all_goals
    go_ret
    exact ⟨ret_int (by rw [HV.out]; unfold mn; split <;> omega), (Below.refl _ _).alloc (Nat.le_refl _) _⟩
theorem l11Cap_any (a : Int) (w : World) : Calls Try.prog 60 #[.int .i64 a] w fun e w' => e = .returned (.int .i64 (mn 1000 a)) ∧ w = w' := by
  go_enter Try.func60, Try.ntmps60
  go_wp2_with fail
  refine (l1Least_any _ _ _).mono ?_
  rintro e w' ⟨rfl, rfl⟩
  go_wp2
  go_ret
  exact ⟨rfl, rfl⟩
set_option maxRecDepth 100000 in
theorem l11Fine_any (s r o u d : Int) (w : World) (h0 : 0 ≤ d ∧ d ≤ 4000) (h2 : 0 ≤ u ∧ u ≤ 4000) :
    Calls Try.prog 48 #[.agg #[.int .i64 s, .int .i64 r, .int .i64 o, .int .i64 u, .int .i64 d], .int .i64 d] w fun e w' => e = .returned (.int .i64 (fineV u d)) ∧ Below w.heap.size w w' := by
  have k0 : 0 ≤ d := by omega
  have k3 : mn d d = d := by unfold mn; split <;> omega
  have k1 : IntKind.i64.wrap (d - u) = d - u := IntWalk.i64_in _ (by omega)
  obtain ⟨m, hm, hm0, hm1⟩ : ∃ m : Int, mx 0 (d - u) = m ∧ 0 ≤ m ∧ m ≤ 4000 := ⟨_, rfl, by unfold mx; split <;> omega, by unfold mx; split <;> omega⟩
  have k2 : IntKind.i64.wrap (10 * m) = 10 * m := IntWalk.i64_in _ (by omega)
  have HV : Hid (fineV u d = mn 1000 (10 * m)) := hide (by unfold fineV; rw [hm])
  have HM := hide hm
  have H3 := hide k3
  clear hm k3
  go_enter Try.func48, Try.ntmps48
  go_wp2_with fail
  refine (l1Least_any _ _ _).mono ?_
  rintro e w' ⟨rfl, rfl⟩
  rw [H3.out]
  go_wp2_with fail
  refine (l1Most_any _ _ _).mono ?_
  rintro e w' ⟨rfl, rfl⟩
  rw [HM.out]
  go_wp2_with fail
  refine (l11Cap_any _ _).mono ?_
  rintro e w' ⟨rfl, rfl⟩
  go_wp2
  go_ret
  exact ⟨ret_int HV.out.symm, (Below.refl _ _).alloc (Nat.le_refl _) _⟩

end Go.Proofs.Ytomfmphbnngdnaa
