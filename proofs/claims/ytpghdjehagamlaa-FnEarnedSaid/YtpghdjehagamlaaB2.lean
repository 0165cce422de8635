/- slices.SortStableFunc on few numbers. -/
import Derived.Test.YtpghdjehagamlaaB1
import Derived.Lib.QuietBelow
import Derived.Shelf.RegionOpenPlain
import Derived.Shelf.SlSortCmp.QuietGrown
namespace Go.Proofs.Ytpghdjehagamlaa
open Go.RowKit
set_option linter.unusedVariables false
set_option linter.unusedSimpArgs false

/-- a comparison by a closure that reads what it captured and makes memory of its own -/
def CmpAt (f : Nat) (cb : Array Value) (cf : Int → Int → Int) (w : World) (g : Nat) : Prop := ∀ (W : World) (x y : Int), w.grownBy W (some g) → Calls Try.prog f (#[.int .i64 x, .int .i64 y] ++ cb) W fun e w' => e = .returned (.int .i64 (cf x y)) ∧ Below W.heap.size W w'
set_option maxRecDepth 100000 in
set_option maxHeartbeats 4000000 in
theorem insertion_any (f : Nat) (cb : Array Value) (cf : Int → Int → Int) (E : Int → Int) (eg : ∀ args w, (callFunc f args).run Try.prog w = .ok (.enter f args) w) (hlt : ∀ x y, cf x y < 0 ↔ E y < E x) (g n cap : Nat) (zs : List Int) (cs0 : Array Value) (w : World)
    (hB : Blk w g 3 cs0) (hs : cs0.size = cap) (hnc : n ≤ cap) (hz : zs.length = n) (hn : n ≤ 1000000) (ht : cs0.toList.take n = zs.map (Value.int .i64)) (hcmp : CmpAt f cb cf w g) :
    Calls Try.prog 98 #[.slice (some ⟨g, 0, none⟩) n cap, .int .i64 0, .int .i64 n, .func (.func f) #[] cb] w fun e w' => e = .returned (.tuple #[]) ∧ w.grownBy w' (some g) ∧ ∃ cs, Blk w' g 3 cs ∧ cs.size = cap ∧ cs.toList.take n = (sortE E zs).map (Value.int .i64) := by
  have mixed : Try.prog.follows .mixedOrders = true := by kernel_rfl
  have HZ := hide hz
  have HLT := hide hlt
  have HC := hide hcmp
  have HB0 := hide hB
  have HS0 := hide hs
  have HT0 := hide ht
  clear hz hlt hcmp hB hs ht
  go_enter Try.func98, Try.ntmps98
  go_wp2
  go_loopg [8] n (fun g1 vi wr => ∃ i : Nat, vi = .int .i64 i ∧ 1 ≤ i ∧ i ≤ n + 1 ∧ n + 1 - i ≤ g1 + 1 ∧ Aside (w.grownBy wr (some g)) ∧ Aside (∃ cs, Blk wr g 3 cs ∧ cs.size = cap ∧ cs.toList.take n = (sortE E (zs.take i) ++ zs.drop i).map (Value.int .i64)))
  case atStart => exact ⟨1, by go_num, by omega, by omega, by omega, World.grownBy.refl w _, ⟨cs0, HB0.out, HS0.out, by rw [row_start]; exact HT0.out⟩⟩
  case round =>
    obtain ⟨i, rfl, hi1, hin, hg1, BW, A⟩ := hrel
    by_cases hlt : i < n
    · have hltz : (i : Int) < (n : Int) := by omega
      obtain ⟨x, hx⟩ : ∃ x, zs[i]? = some x := ⟨_, List.getElem?_eq_getElem (by rw [HZ.out]; exact hlt)⟩
      have HX := hide hx
      have HOL := hide (sortE_lenk E zs i (by rw [HZ.out]; omega))
      obtain ⟨ord, hord⟩ : ∃ ord, ord = sortE E (zs.take i) := ⟨_, rfl⟩
      obtain ⟨rest, hrest⟩ : ∃ rest, rest = zs.drop (i + 1) := ⟨_, rfl⟩
      have hdr : zs.drop i = x :: rest := by rw [hrest, List.drop_eq_getElem_cons (by rw [HZ.out]; exact hlt)]; congr 1; exact (List.getElem?_eq_some_iff.1 hx).2
      have HN : Hid (sortE E (zs.take (i + 1)) ++ zs.drop (i + 1) = rowE ord x rest (refk E ord (E x) i)) := hide (by
        rw [sortE_succ HX.out, ← hord, ← hrest, rowE_end]; unfold insE; rw [hord, HOL.out])
      rw [← hord] at HOL
      have A2 : Aside (∃ cs, Blk wr g 3 cs ∧ cs.size = cap ∧ cs.toList.take n = (rowE ord x rest i).map (Value.int .i64)) := by
        obtain ⟨cs, h1, h2, h3⟩ := A.out
        refine ⟨cs, h1, h2, ?_⟩
        rw [h3, ← hord, hdr]
        have := rowE_start ord x rest
        rw [HOL.out] at this; rw [this]
      clear A hx hord hrest hdr
      go_wp2
      go_loopg [9] i (fun g2 vj wr2 => ∃ j : Nat, vj = .int .i64 j ∧ j ≤ i ∧ j ≤ g2 ∧ Aside (w.grownBy wr2 (some g)) ∧ Aside (∃ cs, Blk wr2 g 3 cs ∧ cs.size = cap ∧ cs.toList.take n = (rowE ord x rest j).map (Value.int .i64)) ∧ Hid (refk E ord (E x) j = refk E ord (E x) i))
      case atStart => exact ⟨i, rfl, Nat.le_refl _, Nat.le_refl _, BW, A2, rfl⟩
      case round =>
        clear BW A2
        rename_i wr0 _ _ _
        obtain ⟨j, rfl, hji, hg2, BW, A, HK⟩ := hrel
        cases j with
        | zero =>
          have OUT : Hid (refk E ord (E x) i = 0) := hide (by rw [← HK.out]; rfl)
          have hg0 : decide ((0 : Int) > 0) = false := by decide
          go_wp2_with fail
          go_big_region_o
          go_wp2
          go_roundg (n - (i + 1))
          case measure => omega
          case rel => exact ⟨i + 1, by go_num, by omega, by omega, by omega, grown_drew BW.out, by rw [HN.out, OUT.out]; exact A.out⟩
        | succ j =>
          obtain ⟨cs, hBc, hsc, htc⟩ := A.out
          clear A
          have hjo : j < ord.length := by rw [HOL.out]; omega
          obtain ⟨y, hy⟩ : ∃ y, ord[j]? = some y := ⟨_, List.getElem?_eq_getElem hjo⟩
          have HY := hide hy
          have c1 : ∀ d os, (Go.Sort.grow (redrawn wr d) os).cell? ⟨g, j + 1, none⟩ = some (.int .i64 x) := cell_regrown (row_cell hBc htc (rowE_at (by omega)))
          have c0 : ∀ d os, (Go.Sort.grow (redrawn wr d) os).cell? ⟨g, j, none⟩ = some (.int .i64 y) := cell_regrown (row_cell hBc htc (by rw [rowE_before (Nat.lt_succ_self j) (by omega)]; exact hy))
          have hc : ∀ d os, Calls Try.prog f (#[.int .i64 x, .int .i64 y] ++ cb) (Go.Sort.grow (redrawn wr d) os) fun e w' => e = .returned (.int .i64 (cf x y)) ∧ Below (Go.Sort.grow (redrawn wr d) os).heap.size (Go.Sort.grow (redrawn wr d) os) w' := fun d os => HC.out _ x y (grown_below BW.out (below_regrown _ _ _))
          have HBC := hide (And.intro hBc (And.intro hsc htc))
          have HLY := hide (HLT.out x y)
          clear hy hBc hsc htc
          generalize hcv : cf x y = cv at hc HLY
          clear hcv
          have k2 : (0 : Int) < (j : Int) + 1 := by omega
          have k3 : (0 : Int) ≤ (j : Int) := by omega
          have k4 : (j : Int) + 1 < (n : Int) := by omega
          have k4' : (j : Int) < (n : Int) := by omega
          have k5 : IntKind.i64.wrap ((j : Int) + 1) = (j : Int) + 1 := IntWalk.i64_in _ (by omega)
          have k6 : ((j : Int) + 1).toNat = j + 1 := by omega
          have k7 : IntKind.i64.wrap (j : Int) = (j : Int) := IntWalk.i64_in _ (by omega)
          have k8 : (0 : Int) ≤ (j : Int) + 1 := by omega
          have k9 : decide ((j : Int) + 1 > 0) = true := decide_eq_true (by omega)
          have QS : ∀ (d : Nat) (os : Array Obj), Hid (Below wr.heap.size wr (Go.Sort.grow (redrawn wr d) os)) := fun d os => below_regrown wr d os
          by_cases hneg : cv < 0
          · have hd : decide (cv < 0) = true := decide_eq_true hneg
            have HGO := hide (refk_go (s := E x) (show E ord[j]! < E x by rw [getB HY.out]; exact HLY.out.1 hneg))
            go_wp2_with fail
            refine wp_region_quiet_below (by assumption) (by kernel_rfl) ?_
            repeat (quiet_step (first | (go_at_fn f; refine Calls.regrown_of (hc _ _))))
            refine wpQuiet_nil ?_
            intro _ hw'
            obtain ⟨⟨nq, osq⟩, hw''⟩ := hw'
            subst hw''
            have HB2 := QS nq osq
            generalize Go.Sort.grow (redrawn wr nq) osq = w2 at HB2 ⊢
            clear QS c0 c1 hc
            obtain ⟨hBc, hsc, htc⟩ := HBC.out
            have HBW2 := hide (grown_below BW.out HB2.out)
            have hB2 := hBc.below' HB2.out
            have c1 : w2.cell? ⟨g, j + 1, none⟩ = some (.int .i64 x) := row_cell hB2 htc (rowE_at (by omega))
            have c0 : w2.cell? ⟨g, j, none⟩ = some (.int .i64 y) := row_cell hB2 htc (by rw [rowE_before (Nat.lt_succ_self j) (by omega)]; exact HY.out)
            have f1 : w2.frozen? ⟨g, j + 1, none⟩ = false := hB2.frozen _
            have f0 : w2.frozen? ⟨g, j, none⟩ = false := hB2.frozen _
            have c2 : (w2.setCell ⟨g, j + 1, none⟩ (.int .i64 y)).cell? ⟨g, j, none⟩ = some (.int .i64 y) := (World.cell?_setCell_other _ _ _ _ (by intro e; simp only [Addr.mk.injEq] at e; omega)).trans c0
            have HB3 := hide (And.intro ((hB2.set_ (j + 1) (.int .i64 y)).set_ j (.int .i64 x)) (And.intro (show ((cs.setIfInBounds (j + 1) (.int .i64 y)).setIfInBounds j (.int .i64 x)).size = cap by simp [hsc]) (row_swap htc HY.out)))
            clear hBc hsc htc hB2
            go_wp2_with fail
            go_big_region_o
            have HG3 : Hid (w.grownBy ((w2.setCell ⟨g, j + 1, none⟩ (.int .i64 y)).setCell ⟨g, j, none⟩ (.int .i64 x)).drew (some g)) := hide (grown_drew (grownBy_setOnly (grownBy_setOnly HBW2.out _ _) _ _))
            clear c0 c1 c2 f0 f1
            go_wp2
            go_roundg j
            case measure => omega
            case rel => exact ⟨j, by go_num, by omega, Nat.le_refl _, HG3.out, ⟨_, HB3.out⟩, by show _ = _; rw [← HK.out, HGO.out]⟩
          · have hd : decide (cv < 0) = false := decide_eq_false hneg
            have HST := hide (refk_stop (s := E x) (show ¬ E ord[j]! < E x by rw [getB HY.out]; exact fun h => hneg (HLY.out.2 h)))
            go_wp2_with fail
            refine wp_region_quiet_below (by assumption) (by kernel_rfl) ?_
            repeat (quiet_step (first | (go_at_fn f; refine Calls.regrown_of (hc _ _))))
            refine wpQuiet_nil ?_
            intro _ hw'
            obtain ⟨⟨nq, osq⟩, hw''⟩ := hw'
            subst hw''
            have HB2 := QS nq osq
            generalize Go.Sort.grow (redrawn wr nq) osq = w2 at HB2 ⊢
            clear QS c0 c1 hc
            obtain ⟨hBc, hsc, htc⟩ := HBC.out
            have HBW2 := hide (grown_below BW.out HB2.out)
            have HB3 := hide (And.intro (hBc.below' HB2.out) (And.intro hsc htc))
            clear hBc hsc htc
            go_wp2
            go_roundg (n - (i + 1))
            case measure => omega
            case rel => exact ⟨i + 1, by go_num, by omega, by omega, by omega, HBW2.out, by rw [HN.out, ← HK.out, HST.out]; exact ⟨_, HB3.out⟩⟩
    · have hltz : ¬ (i : Int) < (n : Int) := by omega
      have HE : Hid (sortE E (zs.take i) ++ zs.drop i = sortE E zs) := hide (by rw [sortE_all (by rw [HZ.out]; omega), List.drop_of_length_le (by rw [HZ.out]; omega), List.append_nil])
      go_wp2
      go_end0
      exact ⟨rfl, BW.out, by rw [← HE.out]; exact A.out⟩
set_option maxRecDepth 100000 in
theorem stable_any (f : Nat) (cb : Array Value) (n : Nat) (v : Value) (w : World) (Q : World → Prop) (hn : n ≤ 19) (hv : ∃ ao c, v = .slice ao n c)
    (HI : Calls Try.prog 98 #[v, .int .i64 0, .int .i64 n, .func (.func f) #[] cb] w fun e w' => e = .returned (.tuple #[]) ∧ Q w') :
    Calls Try.prog 82 #[v, .func (.func f) #[] cb] w fun e w' => e = .returned (.tuple #[]) ∧ Q w' := by
  obtain ⟨ao, c, rfl⟩ := hv
  have k1 : ¬ (20 : Int) ≤ (n : Int) := by omega
  have k2 : ¬ (20 : Int) < (n : Int) := by omega
  have H2 : Hid (Calls Try.prog 95 #[.slice ao n c, .int .i64 n, .func (.func f) #[] cb] w fun e w' => e = .returned (.tuple #[]) ∧ Q w') := by
    have HI := hide HI
    go_enter Try.func95, Try.ntmps95
    go_wp2
    go_loopg [7, 8] 0 (fun _ a b wr => a = .int .i64 0 ∧ b = .int .i64 20 ∧ wr = w)
    case atStart => exact ⟨rfl, rfl, rfl⟩
    case round =>
      obtain ⟨rfl, rfl, rfl⟩ := hrel
      go_wp2_with fail
      refine HI.out.mono ?_
      rintro e w2 ⟨rfl, hg⟩
      have HG := hide hg
      clear hg HI
      go_wp2
      go_loopg [6, 7, 8, 9] 0 (fun _ s a b _ wr => s = .int .i64 20 ∧ a = .int .i64 0 ∧ b = .int .i64 20 ∧ Aside (wr = w2))
      case atStart => exact ⟨rfl, rfl, rfl, rfl⟩
      case round =>
        obtain ⟨rfl, rfl, rfl, rfl⟩ := hrel
        go_wp2
        go_end0
        exact ⟨rfl, HG.out⟩
  clear HI
  go_enter Try.func82, Try.ntmps82
  go_wp2_with fail
  refine H2.out.mono ?_
  rintro e w' ⟨rfl, hg⟩
  have HG := hide hg
  clear hg
  go_wp2
  go_end0
  exact ⟨rfl, HG.out⟩

end Go.Proofs.Ytpghdjehagamlaa
