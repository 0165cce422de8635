/- AreRights and its reference: both answer areR. -/
import Derived.Test.YtpghdjehagamlaaFRight
import Derived.Test.YtpghdjehagamlaaBrights
namespace Go.Proofs.Ytpghdjehagamlaa
open Go.RowKit

def okRt (x : Rt) : Bool := inB x.s 1 999 && inB x.e 0 4000 && inB x.h 0 100 && inB x.f 0 1000
def stepR (zs : List Rt) (k : Nat) : Bool := okRt zs[k]! && (decide (k = 0) || decide (zs[k - 1]!.s < zs[k]!.s))
def areR (zs : List Rt) : Bool := allB zs.length (stepR zs) && decide (zs.length ≤ 10)

theorem stepR_ok0 {zs : List Rt} {k : Nat} {x : Rt} (hx : zs[k]! = x) (h1 : inB x.s 1 999 = true) (h2 : inB x.e 0 4000 = true) (h3 : inB x.h 0 100 = true) (h4 : inB x.f 0 1000 = true) (hk : k = 0) : stepR zs k = true := by
  unfold stepR okRt; rw [hx, h1, h2, h3, h4]; simp [hk]
theorem stepR_ok1 {zs : List Rt} {k : Nat} {x y : Rt} (hx : zs[k]! = x) (hy : zs[k - 1]! = y) (h1 : inB x.s 1 999 = true) (h2 : inB x.e 0 4000 = true) (h3 : inB x.h 0 100 = true) (h4 : inB x.f 0 1000 = true) (hs : y.s < x.s) : stepR zs k = true := by
  unfold stepR okRt; rw [hx, hy, h1, h2, h3, h4]; simp [hs]
theorem stepR_bad {zs : List Rt} {k : Nat} {x y : Rt} (hx : zs[k]! = x) (hy : zs[k - 1]! = y) (hk : 0 < k) (hs : x.s ≤ y.s) : stepR zs k = false := by
  unfold stepR; rw [hx, hy]; simp; intro; omega
theorem stepR_bad0 {zs : List Rt} {k : Nat} {x : Rt} (hx : zs[k]! = x) (h : inB x.s 1 999 = false ∨ inB x.e 0 4000 = false ∨ inB x.h 0 100 = false ∨ inB x.f 0 1000 = false) : stepR zs k = false := by
  unfold stepR okRt; rw [hx]; rcases h with h | h | h | h <;> rw [h] <;> simp
theorem upto_succ {k : Nat} {p : Nat → Bool} (h : ∀ j, j < k → p j = true) (hk : p k = true) : ∀ j, j < k + 1 → p j = true := fun j hj => by
  rcases Nat.lt_succ_iff_lt_or_eq.1 hj with h' | h'
  · exact h j h'
  · subst h'; exact hk
theorem areR_false {zs : List Rt} {n k : Nat} (hz : zs.length = n) (hk : k < n) (h : stepR zs k = false) : areR zs = false := by
  unfold areR; rw [hz, allB_false k hk h]; rfl
theorem areR_end {zs : List Rt} {n k : Nat} (hz : zs.length = n) (h : ∀ j, j < k → stepR zs j = true) (hk : n ≤ k) : areR zs = decide (n ≤ 10) := by
  unfold areR; rw [hz, allB_true (fun j hj => h j (by omega)), Bool.true_and]

set_option maxRecDepth 100000 in
theorem AreRights_any (ao : Option Addr) (n c : Nat) (zs : List Rt) (w : World) (hz : zs.length = n) (hn : n ≤ 1048576) (hr : Rd encRt 4 w.heap.size w ao zs) :
    Calls Try.prog 29 #[.slice ao n c] w fun e w' => e = .returned (.bool (areR zs)) ∧ Below w.heap.size w w' := by
  have HZ := hide hz
  have HR := hide hr
  clear hz hr
  go_enter Try.func29, Try.ntmps29
  go_wp2
  go_loopg [7] n (fun gk i wr => ∃ k : Nat, k ≤ n ∧ n - k ≤ gk ∧ i = .int .i64 k ∧ Aside (Below w.heap.size w wr) ∧ Aside (∀ j, j < k → stepR zs j = true))
  case atStart => exact ⟨0, Nat.zero_le _, by omega, rfl, Below.refl _ _, fun j hj => absurd hj (Nat.not_lt_zero _)⟩
  case round =>
    obtain ⟨k, hk, hg, rfl, BW, A⟩ := hrel
    by_cases hlt : k < n
    · have hlti : (k : Int) < (n : Int) := by omega
      obtain ⟨b, off, rfl, hb1, hat⟩ := rdRt HR.out (by rw [HZ.out]; omega)
      obtain ⟨x, hx, hxc⟩ := hat k (by rw [HZ.out]; exact hlt)
      have HX := hide (getB hx)
      obtain ⟨hbr, c0, c1, c2, c3⟩ := hxc wr BW.out
      have HAT := hide hat
      clear hx hxc hat
      go_wp2_with fail
      rcases first4 (inB x.s 1 999) (inB x.e 0 4000) (inB x.h 0 100) (inB x.f 0 1000) with h1 | ⟨h1, h2⟩ | ⟨h1, h2, h3⟩ | ⟨h1, h2, h3, h4⟩ | ⟨h1, h2, h3, h4⟩
      iterate 4
        · have HF : Hid (areR zs = false) := by
            unfold areR
            rw [HZ.out, allB_false k hlt (by simp [stepR, okRt, HX.out, *])]; rfl
          go_quiet ((first | (go_at_call 64; exact quiet_left (isId_any _ _)) | (go_at_call 65; exact quiet_left (isDay_any _ _)) | (go_at_call 76; exact quiet_left (within_any _ _ _ _))))
          go_wp2
          go_ret
          exact ⟨ret_bool HF.out.symm, below_drewN (BW.out.alloc BW.out.size _) _⟩
      · by_cases hk0 : k = 0
        · have k1 : decide (0 < k) = false := by simp [hk0]
          have HK := hide hk0
          clear hk0
          go_quiet ((first | (go_at_call 64; exact quiet_left (isId_any _ _)) | (go_at_call 65; exact quiet_left (isDay_any _ _)) | (go_at_call 76; exact quiet_left (within_any _ _ _ _))))
          go_wp2
          go_roundg (n - (k + 1))
          case measure => omega
          case rel =>
            exact ⟨k + 1, by omega, by omega, by go_num, below_drewN (BW.out.alloc BW.out.size _) _, upto_succ A.out (stepR_ok0 HX.out h1 h2 h3 h4 HK.out)⟩
        · obtain ⟨y, hy, hyc⟩ := HAT.out (k - 1) (by rw [HZ.out]; omega)
          obtain ⟨_, p0, _, _, _⟩ := hyc wr BW.out
          clear hyc
          have k1 : 0 < k := by omega
          have k2 : (1 : Int) ≤ (k : Int) := by omega
          have k3 : (0 : Int) ≤ (k : Int) - 1 := by omega
          have k4 : (k : Int) - 1 < (n : Int) := by omega
          have k5 : IntKind.i64.wrap ((k : Int) - 1) = (k : Int) - 1 := IntWalk.i64_in _ (by omega)
          have k6 : ((k : Int) - 1).toNat = k - 1 := by omega
          have HY := hide (getB hy)
          clear hy
          by_cases hs : x.s ≤ y.s
          · go_quiet ((first | (go_at_call 64; exact quiet_left (isId_any _ _)) | (go_at_call 65; exact quiet_left (isDay_any _ _)) | (go_at_call 76; exact quiet_left (within_any _ _ _ _))))
            go_wp2
            go_ret
            have HF : areR zs = false := areR_false HZ.out hlt (stepR_bad HX.out HY.out (by omega) hs)
            exact ⟨ret_bool HF.symm, below_drewN (BW.out.alloc BW.out.size _) _⟩
          · go_quiet ((first | (go_at_call 64; exact quiet_left (isId_any _ _)) | (go_at_call 65; exact quiet_left (isDay_any _ _)) | (go_at_call 76; exact quiet_left (within_any _ _ _ _))))
            go_wp2
            go_roundg (n - (k + 1))
            case measure => omega
            case rel =>
              exact ⟨k + 1, by omega, by omega, by go_num, below_drewN (BW.out.alloc BW.out.size _) _, upto_succ A.out (stepR_ok1 HX.out HY.out h1 h2 h3 h4 (by omega))⟩
    · have hge : ¬ (k : Int) < (n : Int) := by omega
      go_wp2
      go_ret
      exact ⟨ret_bool (by rw [areR_end HZ.out A.out (by omega), Bool.eq_iff_iff]; simp; omega), BW.out⟩

set_option maxRecDepth 100000 in
theorem l14Rights_any (ao : Option Addr) (n c : Nat) (zs : List Rt) (w : World) (hz : zs.length = n) (hn : n ≤ 1048576) (hr : Rd encRt 4 w.heap.size w ao zs) :
    Calls Try.prog 70 #[.slice ao n c] w fun e w' => e = .returned (.bool (areR zs)) ∧ Below w.heap.size w w' := by
  have HZ := hide hz
  have HR := hide hr
  clear hz hr
  go_enter Try.func70, Try.ntmps70
  go_wp2
  go_loopg [3] n (fun gk i wr => ∃ k : Nat, k ≤ n ∧ n - k ≤ gk ∧ i = .int .i64 k ∧ Aside (Below w.heap.size w wr) ∧ Aside (∀ j, j < k → stepR zs j = true))
  case atStart => exact ⟨0, Nat.zero_le _, by omega, rfl, Below.refl _ _, fun j hj => absurd hj (Nat.not_lt_zero _)⟩
  case round =>
    obtain ⟨k, hk, hg, rfl, BW, A⟩ := hrel
    by_cases hlt : k < n
    · have hlti : (k : Int) < (n : Int) := by omega
      obtain ⟨b, off, rfl, hb1, hat⟩ := rdRt HR.out (by rw [HZ.out]; omega)
      obtain ⟨x, hx, hxc⟩ := hat k (by rw [HZ.out]; exact hlt)
      have HX := hide (getB hx)
      obtain ⟨hbr, c0, c1, c2, c3⟩ := hxc wr BW.out
      have HAT := hide hat
      clear hx hxc hat
      go_wp2_with fail
      rcases first4 (inB x.s 1 999) (inB x.e 0 4000) (inB x.h 0 100) (inB x.f 0 1000) with h1 | ⟨h1, h2⟩ | ⟨h1, h2, h3⟩ | ⟨h1, h2, h3, h4⟩ | ⟨h1, h2, h3, h4⟩
      iterate 4
        · have HF : Hid (areR zs = false) := by
            unfold areR
            rw [HZ.out, allB_false k hlt (by simp [stepR, okRt, HX.out, *])]; rfl
          go_quiet ((first | (go_at_call 71; exact quiet_left (l14Id_any _ _)) | (go_at_call 73; exact quiet_left (l2Day_any _ _)) | (go_at_call 78; exact quiet_left (l1In_any _ _ _ _))))
          go_wp2
          go_ret
          exact ⟨ret_bool HF.out.symm, below_drewN (BW.out.alloc BW.out.size _) _⟩
      · by_cases hk0 : k = 0
        · have k1 : decide (0 < k) = false := by simp [hk0]
          have HK := hide hk0
          clear hk0
          go_quiet ((first | (go_at_call 71; exact quiet_left (l14Id_any _ _)) | (go_at_call 73; exact quiet_left (l2Day_any _ _)) | (go_at_call 78; exact quiet_left (l1In_any _ _ _ _))))
          go_wp2
          go_roundg (n - (k + 1))
          case measure => omega
          case rel =>
            exact ⟨k + 1, by omega, by omega, by go_num, below_drewN (BW.out.alloc BW.out.size _) _, upto_succ A.out (stepR_ok0 HX.out h1 h2 h3 h4 HK.out)⟩
        · obtain ⟨y, hy, hyc⟩ := HAT.out (k - 1) (by rw [HZ.out]; omega)
          obtain ⟨_, p0, _, _, _⟩ := hyc wr BW.out
          clear hyc
          have k1 : 0 < k := by omega
          have k2 : (1 : Int) ≤ (k : Int) := by omega
          have k3 : (0 : Int) ≤ (k : Int) - 1 := by omega
          have k4 : (k : Int) - 1 < (n : Int) := by omega
          have k5 : IntKind.i64.wrap ((k : Int) - 1) = (k : Int) - 1 := IntWalk.i64_in _ (by omega)
          have k6 : ((k : Int) - 1).toNat = k - 1 := by omega
          have HY := hide (getB hy)
          clear hy
          by_cases hs : x.s ≤ y.s
          · go_quiet ((first | (go_at_call 71; exact quiet_left (l14Id_any _ _)) | (go_at_call 73; exact quiet_left (l2Day_any _ _)) | (go_at_call 78; exact quiet_left (l1In_any _ _ _ _))))
            go_wp2
            go_ret
            have HF : areR zs = false := areR_false HZ.out hlt (stepR_bad HX.out HY.out (by omega) hs)
            exact ⟨ret_bool HF.symm, below_drewN (BW.out.alloc BW.out.size _) _⟩
          · go_quiet ((first | (go_at_call 71; exact quiet_left (l14Id_any _ _)) | (go_at_call 73; exact quiet_left (l2Day_any _ _)) | (go_at_call 78; exact quiet_left (l1In_any _ _ _ _))))
            go_wp2
            go_roundg (n - (k + 1))
            case measure => omega
            case rel =>
              exact ⟨k + 1, by omega, by omega, by go_num, below_drewN (BW.out.alloc BW.out.size _) _, upto_succ A.out (stepR_ok1 HX.out HY.out h1 h2 h3 h4 (by omega))⟩
    · have hge : ¬ (k : Int) < (n : Int) := by omega
      go_wp2
      go_ret
      exact ⟨ret_bool (by rw [areR_end HZ.out A.out (by omega), Bool.eq_iff_iff]; simp; omega), BW.out⟩

theorem sAreRights_any (ao : Option Addr) (n c : Nat) (zs : List Rt) (w : World) (hz : zs.length = n) (hn : n ≤ 1048576) (hr : Rd encRt 4 w.heap.size w ao zs) :
    Calls Try.prog 30 #[.slice ao n c] w fun e w' => e = .returned (.bool (areR zs)) ∧ Below w.heap.size w w' := by
  have H := hide (l14Rights_any ao n c zs w hz hn hr)
  clear hz hr
  go_enter Try.func30, Try.ntmps30
  go_wp2_with fail
  refine H.out.mono ?_
  rintro e w' ⟨rfl, hb⟩
  go_wp2
  go_ret
  exact ⟨rfl, hb⟩


end Go.Proofs.Ytpghdjehagamlaa
