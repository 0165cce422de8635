/- slices.Reverse on legs. -/
import Derived.Test.YthcfkihpihgjeaaKit4
import Derived.Test.YthcfkihpihgjeaaOwn
import Derived.Shelf.RegionOpenPlain
namespace Go.Proofs.Ythcfkihpihgjeaa
open Go.RowKit
set_option linter.unusedVariables false
set_option linter.unusedSimpArgs false

section
variable {α : Type} {enc : α → List Value} {k : Nat}
theorem blk_at (hk : ∀ x, (enc x).length = k) {w : World} {g n : Nat} {e : TypeId} {cs : Array Value} {ys : List α} (hB : Blk w g e cs) (ht : cs.toList.take (n * k) = ys.flatMap enc) {j : Nat} {x : α} (hx : ys[j]? = some x) {i : Nat} {v : Value} (hv : (enc x)[i]? = some v) : w.cell? ⟨g, j * k + i, none⟩ = some v := by
  have := flat_at hk ys j x hx i v hv
  rw [← ht, List.getElem?_take] at this
  split at this
  · rw [hB.cell_list]; exact this
  · cases this
theorem grownBy_drew {a w : World} {row : Option Nat} (h : a.grownBy w row) : a.grownBy w.drew row := ⟨h.os, h.tape, h.output, h.size, h.block⟩
/-- i pairs exchanged -/
def Swp (zs ys : List α) (n i : Nat) : Prop := ys.length = n ∧ ∀ j, j < n → ys[j]? = if j < i ∨ n ≤ i + j then zs[n - 1 - j]? else zs[j]?
theorem swp_0 {zs : List α} {n : Nat} (hz : zs.length = n) : Swp zs zs n 0 := ⟨hz, fun j hj => by rw [if_neg (by omega)]⟩
theorem swp_at {zs ys : List α} {n i : Nat} (h : Swp zs ys n i) (hi : i + i + 1 < n) : ys[i]? = zs[i]? ∧ ys[n - 1 - i]? = zs[n - 1 - i]? := by
  refine ⟨?_, ?_⟩
  · rw [h.2 i (by omega), if_neg (by omega)]
  · rw [h.2 (n - 1 - i) (by omega), if_neg (by omega)]
theorem swp_succ {zs ys : List α} {n i : Nat} {x y : α} (h : Swp zs ys n i) (hi : i + i + 1 < n) (hx : ys[i]? = some x) (hy : ys[n - 1 - i]? = some y) : Swp zs ((ys.set i y).set (n - 1 - i) x) n (i + 1) := by
  obtain ⟨a, b⟩ := swp_at h hi
  refine ⟨by simp [h.1], fun j hj => ?_⟩
  by_cases h1 : j = n - 1 - i
  · subst h1
    rw [List.getElem?_set_self (by simp; rw [h.1]; omega), if_pos (by omega), ← hx, a]
    congr 1; omega
  · rw [List.getElem?_set_ne (Ne.symm h1)]
    by_cases h2 : j = i
    · subst h2
      rw [List.getElem?_set_self (by rw [h.1]; omega), if_pos (by omega), ← hy, b]
    · rw [List.getElem?_set_ne (Ne.symm h2), h.2 j hj]
      by_cases h3 : j < i ∨ n ≤ i + j
      · rw [if_pos h3, if_pos (by omega)]
      · rw [if_neg h3, if_neg (by omega)]
theorem swp_end {zs ys : List α} {n i : Nat} (hz : zs.length = n) (h : Swp zs ys n i) (hi : ¬ i + i + 1 < n) : ys = zs.reverse := by
  refine List.ext_getElem? fun j => ?_
  by_cases hj : j < n
  · rw [h.2 j hj, List.getElem?_reverse (by rw [hz]; exact hj), hz]
    by_cases h3 : j < i ∨ n ≤ i + j
    · rw [if_pos h3]
    · rw [if_neg h3]; congr 1; omega
  · rw [List.getElem?_eq_none (by rw [h.1]; omega), List.getElem?_eq_none (by simp [hz]; omega)]
end
set_option maxRecDepth 100000 in
set_option maxHeartbeats 2000000 in
theorem ReverseLeg_any (g n cap : Nat) (cs0 : Array Value) (zs : List Lg) (w : World) (hB0 : Blk w g 65 cs0) (hs0 : cs0.size = cap * 3) (hnc : n ≤ cap) (hn : n ≤ 1048576) (hz : zs.length = n) (ht0 : cs0.toList.take (n * 3) = zs.flatMap encLg) :
    Calls Try.prog 59 #[.slice (some ⟨g, 0, none⟩) n cap] w fun e w' => e = .returned (.tuple #[]) ∧ w.grownBy w' (some g) ∧ ∃ cs, Blk w' g 65 cs ∧ cs.size = cap * 3 ∧ cs.toList.take (n * 3) = zs.reverse.flatMap encLg := by
  have HB0 := hide hB0
  have HS0 := hide hs0
  have HT0 := hide ht0
  have HZ := hide hz
  clear hB0 hs0 ht0 hz
  have k0 : IntKind.i64.wrap ((n : Int) - 1) = (n : Int) - 1 := IntWalk.i64_in _ (by omega)
  have mixed : Try.prog.follows .mixedOrders = true := by kernel_rfl
  go_enter Try.func59, Try.ntmps59
  go_wp2
  go_loopg [2, 3] n (fun gk a b wr => ∃ i : Nat, i + i ≤ n + 1 ∧ n - i ≤ gk ∧ a = .int .i64 i ∧ b = .int .i64 ((n : Int) - 1 - i) ∧ Aside (w.grownBy wr (some g)) ∧ Aside (∃ cs ys, Swp zs ys n i ∧ Blk wr g 65 cs ∧ cs.size = cap * 3 ∧ cs.toList.take (n * 3) = ys.flatMap encLg))
  case atStart => exact ⟨0, by omega, by omega, rfl, by simp, World.grownBy.refl w _, ⟨cs0, zs, swp_0 HZ.out, HB0.out, HS0.out, HT0.out⟩⟩
  case round =>
    obtain ⟨i, hi2, hgk, rfl, rfl, BW, A⟩ := hrel
    by_cases hlt : i + i + 1 < n
    · obtain ⟨j, hj⟩ : ∃ j : Nat, j = n - 1 - i := ⟨_, rfl⟩
      have hji : (n : Int) - 1 - i = (j : Int) := by omega
      have hij : (i : Int) < (j : Int) := by omega
      have hin : (i : Int) < (n : Int) := by omega
      have hjn : (j : Int) < (n : Int) := by omega
      have hi0 : (0 : Int) ≤ (i : Int) := by omega
      have hj0 : (0 : Int) ≤ (j : Int) := by omega
      have HJ := hide hj
      have HJI := hide hji
      rw [hji]
      obtain ⟨cs, ys, hw, hB, hs, ht⟩ := A.out
      clear A
      have hyl := hw.1
      have hx := List.getElem?_eq_getElem (show i < ys.length by omega)
      have hy := List.getElem?_eq_getElem (show j < ys.length by omega)
      generalize ys[i]'(by omega) = x at hx
      generalize ys[j]'(by omega) = y at hy
      have c0 : wr.cell? ⟨g, i * 3, none⟩ = some (.int .i64 x.w) := by have := blk_at encLg_len hB ht hx (i := 0) rfl; simpa using this
      have c1 : wr.cell? ⟨g, i * 3 + 1, none⟩ = some (.int .i64 x.u) := by have := blk_at encLg_len hB ht hx (i := 1) rfl; simpa using this
      have c2 : wr.cell? ⟨g, i * 3 + 2, none⟩ = some (.int .i64 x.c) := by have := blk_at encLg_len hB ht hx (i := 2) rfl; simpa using this
      have d0 : wr.cell? ⟨g, j * 3, none⟩ = some (.int .i64 y.w) := by have := blk_at encLg_len hB ht hy (i := 0) rfl; simpa using this
      have d1 : wr.cell? ⟨g, j * 3 + 1, none⟩ = some (.int .i64 y.u) := by have := blk_at encLg_len hB ht hy (i := 1) rfl; simpa using this
      have d2 : wr.cell? ⟨g, j * 3 + 2, none⟩ = some (.int .i64 y.c) := by have := blk_at encLg_len hB ht hy (i := 2) rfl; simpa using this
      have f0 : wr.frozen? ⟨g, i * 3, none⟩ = false := hB.frozen _
      have f1 : wr.frozen? ⟨g, i * 3 + 1, none⟩ = false := hB.frozen _
      have f2 : wr.frozen? ⟨g, i * 3 + 2, none⟩ = false := hB.frozen _
      have h0 : wr.frozen? ⟨g, j * 3, none⟩ = false := hB.frozen _
      have h1 : wr.frozen? ⟨g, j * 3 + 1, none⟩ = false := hB.frozen _
      have h2 : wr.frozen? ⟨g, j * 3 + 2, none⟩ = false := hB.frozen _
      have HSW := hide (swp_succ hw hlt hx (by rw [← hj]; exact hy))
      have HX := hide hx
      have HY := hide hy
      have HB := hide hB
      have HS := hide hs
      have HT := hide ht
      have HYL := hide hyl
      have k1 : IntKind.i64.wrap ((j : Int) - 1) = (j : Int) - 1 := IntWalk.i64_in _ (by omega)
      have hne : i ≠ j := by omega
      clear hx hy hB hs ht hw hj hji hyl k0
      go_wp2_with fail
      go_region_o
      go_wp2
      go_roundg (n - (i + 1))
      case measure => omega
      case rel =>
        refine ⟨i + 1, by omega, by omega, by go_num, ?_, ?_, setL (setL cs (i * 3) (encLg y)) (j * 3) (encLg x), (ys.set i y).set j x, ?_, ?_, ?_, ?_⟩
        · have := HJI.out; congr 1; omega
        · exact grownBy_drew (grownBy_setOnly (grownBy_setOnly (grownBy_setOnly (grownBy_setOnly (grownBy_setOnly (grownBy_setOnly (BW.out) _ _) _ _) _ _) _ _) _ _) _ _)
        · rw [HJ.out]; exact HSW.out
        · exact (((((((HB.out).set_ _ _).set_ _ _).set_ _ _).set_ _ _).set_ _ _).set_ _ _).drew
        · rw [setL_size, setL_size]; exact HS.out
        · have t1 := flat_setk encLg_len ys i y (by rw [HYL.out]; omega) cs (by rw [flat_len encLg_len, HYL.out, HS.out]; exact Nat.mul_le_mul_right _ hnc) (by rw [HYL.out]; exact HT.out)
          have t2 := flat_setk encLg_len (ys.set i y) j x (by rw [List.length_set, HYL.out]; omega) (setL cs (i * 3) (encLg y)) (by rw [flat_len encLg_len, List.length_set, HYL.out, setL_size, HS.out]; exact Nat.mul_le_mul_right _ hnc) (by rw [List.length_set, HYL.out]; rw [HYL.out] at t1; exact t1)
          rw [List.length_set, HYL.out] at t2
          exact t2
    · have hge : ¬ (i : Int) < (n : Int) - 1 - i := by omega
      obtain ⟨cs, ys, hw, hB, hs, ht⟩ := A.out
      clear A
      have HE := hide (swp_end HZ.out hw hlt)
      have HB := hide hB
      have HS := hide hs
      have HT := hide ht
      clear hw hB hs ht
      go_wp2
      go_end0
      exact ⟨rfl, BW.out, cs, HB.out, HS.out, by rw [HT.out, HE.out]⟩
theorem ReverseLeg_own {base : Nat} (v : Value) (n : Nat) (zs : List Lg) (w : World) (h : w.ownsRow base 65 3 v n (zs.flatMap encLg)) (hz : zs.length = n) (hn : n ≤ 1048576) :
    Calls Try.prog 59 #[v] w fun e w' => e = .returned (.tuple #[]) ∧ w.grownBy w' v.ownBlock ∧ w'.ownsRow base 65 3 v n (zs.reverse.flatMap encLg) := by
  rcases own_form encLg_len h hz with ⟨rfl, rfl, rfl⟩ | ⟨g, cap, cs, rfl, hb, hB, hs, hnc, hc, ht⟩
  · clear h hz
    go_enter Try.func59, Try.ntmps59
    go_wp2
    go_loopg [2, 3] 0 (fun _ a b wr => a = .int .i64 0 ∧ b = .int .i64 (-1) ∧ w = wr)
    case atStart => exact ⟨rfl, rfl, rfl⟩
    case round =>
      obtain ⟨rfl, rfl, rfl⟩ := hrel
      go_wp2
      go_end0
      exact ⟨rfl, World.grownBy.refl w _, World.ownsRow_nil _ _ _ _⟩
  · refine (ReverseLeg_any g n cap cs zs w hB hs hnc hn hz ht).mono ?_
    rintro e w' ⟨rfl, hg, cs', hB', hs', ht'⟩
    exact ⟨rfl, hg, World.ownsRow_of_blk hB' hb hs' hnc hc (by rw [flat_len encLg_len, List.length_reverse, hz]) ht'⟩

end Go.Proofs.Ythcfkihpihgjeaa
