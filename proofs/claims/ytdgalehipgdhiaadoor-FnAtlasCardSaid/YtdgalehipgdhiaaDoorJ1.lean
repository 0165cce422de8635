/- Numbers in decimal. -/
import Derived.Test.YtdgalehipgdhiaaDoorKit
import Derived.Test.YtdgalehipgdhiaaDoorChecked
import Derived.Ground.NamesProg
import Derived.Shelf.Lay
import Derived.Shelf.Strconv.Itoa3
import Derived.Lib.QuietBelow
import Derived.Lib.ItoaLen
import Derived.StillTailTactics
namespace Go.Proofs.YtdgalehipgdhiaaDoor
open Go.RowKit Go.Shelf
shelf_lay LaysM.n171 Nm 171 at Tryd as Tryd.itoaL
set_option linter.unusedVariables false
set_option linter.unusedSimpArgs false

/-- the text of a number -/
def itoaB (n : Int) : ByteArray := ⟨(Lib.itoa n).toArray⟩
theorem tab_below {P : Program} {w w' : World} {name : String} {k : IntKind} {zs : List Int} (h : Lib.TabIs P w name k zs) (hb : Below w.heap.size w w') : Lib.TabIs P w' name k zs := by
  unfold Lib.TabIs at h ⊢
  rw [← h]
  unfold World.var? at h ⊢
  cases hg : P.globalNamed name with
  | none => rfl
  | some g =>
    rw [hg] at h
    simp only [Option.bind_eq_bind, Option.bind_some] at h ⊢
    rcases Nat.lt_or_ge g w.heap.size with hlt | hge
    · rw [hb.block g hlt]
    · rw [Array.getElem?_eq_none hge] at h; simp at h
def TabW (w : World) : Prop := Lib.TabIs Tryd.prog w "internal/strconv.uint64pow10" .u64 Lib.pow10Tab
theorem TabW.below {w w' : World} (h : TabW w) (hb : Below w.heap.size w w') : TabW w' := tab_below h hb
theorem ret_strB {a b : ByteArray} (h : a = b) : Ending.returned (.string a) = .returned (.string b) := by rw [h]
theorem text_any (n : Int) (w : World) (h0 : -9223372036854775808 ≤ n) (h1 : n ≤ 9223372036854775807) (ht : TabW w) : Calls Tryd.prog 46 #[.int .i64 n] w fun e w' => e = .returned (.string (itoaB n)) ∧ Below w.heap.size w w' := by
  have hc := Any.strconv_Itoa Tryd.itoaL n h0 h1 w ht
  change Calls Tryd.prog 59 _ _ _ at hc
  have HC := hide hc
  clear hc
  go_enter Tryd.func46, Tryd.ntmps46
  go_wp2_with fail
  refine HC.out.mono ?_
  rintro e w' ⟨rfl, k, os, rfl⟩
  have HB : Hid (Below w.heap.size w (Go.Sort.grow (w.drewN k) os)) := hide (below_regrown w (w.drawn + k) os)
  go_wp2
  go_ret
  exact ⟨rfl, HB.out⟩

theorem itoaB_size (n : Int) (h0 : -9223372036854775808 ≤ n) (h1 : n ≤ 9223372036854775807) : (itoaB n).size ≤ 21 := by
  have := Lib.itoa_length_le n h0 h1
  unfold itoaB; simpa [ByteArray.size] using this
theorem dec_step {u : Nat} (h : ¬ u < 10) : Lib.decDigits u = Lib.decDigits (u / 10) ++ [UInt8.ofNat (48 + u % 10)] := by rw [Lib.decDigits, dif_neg h]
theorem dec_small {u : Nat} (h : u < 10) : Lib.decDigits u = [UInt8.ofNat (48 + u)] := by rw [Lib.decDigits, dif_pos h]
theorem itoa_pos (u : Nat) : Lib.itoa (u : Int) = Lib.decDigits u := by unfold Lib.itoa; rw [if_neg (by omega)]; simp
theorem itoaB_step {u : Nat} (h : ¬ u < 10) : itoaB (u : Int) = itoaB ((u / 10 : Nat) : Int) ++ ⟨#[UInt8.ofNat (48 + u % 10)]⟩ := by
  unfold itoaB; rw [itoa_pos, itoa_pos, dec_step h]
  apply ByteArray.ext
  simp [ByteArray.data_append]
theorem itoaB_small {u : Nat} (h : u < 10) : itoaB (u : Int) = ⟨#[UInt8.ofNat (48 + u)]⟩ := by unfold itoaB; rw [itoa_pos, dec_small h]
set_option maxRecDepth 100000 in
theorem l1NumS_any (n : Nat) (hn : n < 10) (w : World) : Calls Tryd.prog 48 #[.int .i64 n] w fun e w' => e = .returned (.string (itoaB n)) ∧ w = w' := by
  have h10 : n = 0 ∨ n = 1 ∨ n = 2 ∨ n = 3 ∨ n = 4 ∨ n = 5 ∨ n = 6 ∨ n = 7 ∨ n = 8 ∨ n = 9 := by omega
  rcases h10 with rfl | rfl | rfl | rfl | rfl | rfl | rfl | rfl | rfl | rfl
  all_goals
    clear hn
    go_enter Tryd.func48, Tryd.ntmps48
    go_wp2
    go_ret
    exact ⟨ret_strB (by rw [itoaB_small (by omega)]; first | rfl | decide | (apply ByteArray.ext; rfl)), rfl⟩

set_option maxRecDepth 100000 in
theorem l1NumN_any (u : Nat) : ∀ (w : World), u ≤ 1000000000 → Calls Tryd.prog 48 #[.int .i64 u] w fun e w' => e = .returned (.string (itoaB u)) ∧ Below w.heap.size w w' := by
  induction u using Nat.strongRecOn with
  | _ u ih =>
    intro w hu
    by_cases h : u < 10
    · exact (l1NumS_any u h w).mono fun e w' ⟨h1, h2⟩ => ⟨h1, h2 ▸ Below.refl _ _⟩
    · have mixed : Tryd.prog.follows .mixedOrders = true := by kernel_rfl
      have hc : ∀ d os, Calls Tryd.prog 48 #[.int .i64 ((u / 10 : Nat) : Int)] (Go.Sort.grow (redrawn w d) os) fun e w' => e = .returned (.string (itoaB ((u / 10 : Nat) : Int))) ∧ Below (Go.Sort.grow (redrawn w d) os).heap.size (Go.Sort.grow (redrawn w d) os) w' := fun d os => ih (u / 10) (by omega) _ (by omega)
      have HST := hide (itoaB_step h)
      have QS : ∀ (d : Nat) (os : Array Obj), Hid (Below w.heap.size w (Go.Sort.grow (redrawn w d) os)) := fun d os => below_regrown w d os
      have k1 : ¬ (u : Int) < 0 := by omega
      have k2 : ¬ (u : Int) < 10 := by omega
      clear ih
      generalize hq : u / 10 = q at hc HST
      have hq1 : (u : Int) / 10 = (q : Int) := by omega
      have kw : IntKind.i64.wrap (q : Int) = (q : Int) := IntWalk.i64_in _ (by omega)
      clear hq
      have h10 : u % 10 = 0 ∨ u % 10 = 1 ∨ u % 10 = 2 ∨ u % 10 = 3 ∨ u % 10 = 4 ∨ u % 10 = 5 ∨ u % 10 = 6 ∨ u % 10 = 7 ∨ u % 10 = 8 ∨ u % 10 = 9 := by omega
      rcases h10 with hr | hr | hr | hr | hr | hr | hr | hr | hr | hr
      all_goals
        rw [hr] at HST
        have hsz : (itoaB (q : Int)).size ≤ 21 := itoaB_size _ (by omega) (by omega)
        generalize itoaB (q : Int) = sq at hc HST hsz
        have hs1 : ¬ 9223372036854775807 < sq.size + 1 := by omega
        have x0 : (⟨#[48, 49, 50, 51, 52, 53, 54, 55, 56, 57]⟩ : ByteArray).extract 0 1 = ⟨#[48]⟩ := by first | rfl | decide
        have x1 : (⟨#[48, 49, 50, 51, 52, 53, 54, 55, 56, 57]⟩ : ByteArray).extract 1 2 = ⟨#[49]⟩ := by first | rfl | decide
        have x2 : (⟨#[48, 49, 50, 51, 52, 53, 54, 55, 56, 57]⟩ : ByteArray).extract 2 3 = ⟨#[50]⟩ := by first | rfl | decide
        have x3 : (⟨#[48, 49, 50, 51, 52, 53, 54, 55, 56, 57]⟩ : ByteArray).extract 3 4 = ⟨#[51]⟩ := by first | rfl | decide
        have x4 : (⟨#[48, 49, 50, 51, 52, 53, 54, 55, 56, 57]⟩ : ByteArray).extract 4 5 = ⟨#[52]⟩ := by first | rfl | decide
        have x5 : (⟨#[48, 49, 50, 51, 52, 53, 54, 55, 56, 57]⟩ : ByteArray).extract 5 6 = ⟨#[53]⟩ := by first | rfl | decide
        have x6 : (⟨#[48, 49, 50, 51, 52, 53, 54, 55, 56, 57]⟩ : ByteArray).extract 6 7 = ⟨#[54]⟩ := by first | rfl | decide
        have x7 : (⟨#[48, 49, 50, 51, 52, 53, 54, 55, 56, 57]⟩ : ByteArray).extract 7 8 = ⟨#[55]⟩ := by first | rfl | decide
        have x8 : (⟨#[48, 49, 50, 51, 52, 53, 54, 55, 56, 57]⟩ : ByteArray).extract 8 9 = ⟨#[56]⟩ := by first | rfl | decide
        have x9 : (⟨#[48, 49, 50, 51, 52, 53, 54, 55, 56, 57]⟩ : ByteArray).extract 9 10 = ⟨#[57]⟩ := by first | rfl | decide
        have hr1 : (u : Int).tmod 10 = ((u % 10 : Nat) : Int) := by rw [Int.tmod_eq_emod_of_nonneg (by omega)]; omega
        rw [hr] at hr1
        simp only [Int.ofNat_eq_natCast, Int.cast_ofNat_Int, Int.natCast_zero, Int.natCast_one] at hr1
        clear hr h hu
        have w1 : IntKind.i64.wrap 1 = 1 := by decide
        have w2 : IntKind.i64.wrap 2 = 2 := by decide
        have w3 : IntKind.i64.wrap 3 = 3 := by decide
        have w4 : IntKind.i64.wrap 4 = 4 := by decide
        have w5 : IntKind.i64.wrap 5 = 5 := by decide
        have w6 : IntKind.i64.wrap 6 = 6 := by decide
        have w7 : IntKind.i64.wrap 7 = 7 := by decide
        have w8 : IntKind.i64.wrap 8 = 8 := by decide
        have w9 : IntKind.i64.wrap 9 = 9 := by decide
        have w10 : IntKind.i64.wrap 10 = 10 := by decide
        go_enter Tryd.func48, Tryd.ntmps48
        go_wp2_with fail
        refine wp_region_quiet_below (by assumption) (by kernel_rfl) ?_
        repeat (quiet_step (first | (go_at_call 48; refine Calls.regrown_of (hc _ _))))
        refine wpQuiet_nil ?_
        intro _ hw'
        obtain ⟨⟨nq, osq⟩, hw''⟩ := hw'
        subst hw''
        have HB := QS nq osq
        clear QS hc
        go_wp2
        go_ret
        exact ⟨ret_strB (by rw [HST.out]; first | rfl | (congr 1; first | rfl | decide)), HB.out⟩

theorem itoaB_neg {u : Nat} (h : 1 ≤ u) : itoaB (-(u : Int)) = ⟨#[45]⟩ ++ itoaB u := by
  unfold itoaB; rw [itoa_pos, show Lib.itoa (-(u : Int)) = 45 :: Lib.decDigits u from by unfold Lib.itoa; rw [if_pos (by omega)]; simp]
  apply ByteArray.ext
  simp [ByteArray.data_append]
theorem l1Num_any (n : Int) (w : World) (h0 : -1000000000 ≤ n) (h1 : n ≤ 1000000000) : Calls Tryd.prog 48 #[.int .i64 n] w fun e w' => e = .returned (.string (itoaB n)) ∧ Below w.heap.size w w' := by
  by_cases hn : n < 0
  · obtain ⟨u, rfl⟩ : ∃ u : Nat, n = -(u : Int) := ⟨n.natAbs, by omega⟩
    have HS := hide (itoaB_neg (u := u) (by omega))
    have HC := hide (l1NumN_any u w (by omega))
    have kw : IntKind.i64.wrap (u : Int) = (u : Int) := IntWalk.i64_in _ (by omega)
    have hsz : (itoaB (u : Int)).size ≤ 21 := itoaB_size _ (by omega) (by omega)
    generalize itoaB (u : Int) = sq at HS HC hsz
    have hs1 : ¬ 9223372036854775807 < 1 + sq.size := by omega
    go_enter Tryd.func48, Tryd.ntmps48
    go_wp2_with fail
    refine HC.out.mono ?_
    rintro e w' ⟨rfl, hb⟩
    have HB := hide hb
    clear hb
    go_wp2
    go_ret
    exact ⟨ret_strB HS.out.symm, HB.out⟩
  · obtain ⟨u, rfl⟩ : ∃ u : Nat, n = (u : Int) := ⟨n.toNat, by omega⟩
    exact l1NumN_any u w (by omega)

end Go.Proofs.YtdgalehipgdhiaaDoor
