/- Slices that a call made, compared, marked, held. -/
import Derived.Test.YtdgalehipgdhiaaFInt
import Derived.Test.YtdgalehipgdhiaaFPage
namespace Go.Proofs.Ytdgalehipgdhiaa
open Go.RowKit

theorem eqIntS_own {b1 b2 : Nat} (v u : Value) (n : Nat) (zs : List Int) (w : World) (h1 : w.ownsRow b1 3 1 v n (zs.flatMap encI)) (h2 : w.ownsRow b2 3 1 u n (zs.flatMap encI)) (hz : zs.length = n) (hn : n ≤ 1048576) :
    Calls Try.prog 19 #[v, u] w fun e w' => e = .returned (.bool true) ∧ Below w.heap.size w w' := by
  obtain ⟨a, c, rfl, _, _, hr⟩ := own_rd encI_len h1 hz
  obtain ⟨a2, c2, rfl, _, _, hr2⟩ := own_rd encI_len h2 hz
  exact eqIntS_same _ _ _ _ _ zs w hz hn hr hr2

theorem markIntS_own {base : Nat} (v : Value) (n : Nat) (zs : List Int) (q : Int) (w : World) (h : w.ownsRow base 3 1 v n (zs.flatMap encI)) (hz : zs.length = n) (hn : n ≤ 1048576) (hq0 : 0 ≤ q) (hq1 : q ≤ 1099511627776) :
    Calls Try.prog 20 #[v, .int .i64 q] w fun e w' => e = .returned (.int .i64 (q + (n * 1 : Nat))) ∧ w.grownBy w' v.ownBlock ∧ w'.ownsRow base 3 1 v n (marks q (n * 1)) := by
  rcases own_form encI_len h hz with ⟨rfl, rfl, rfl⟩ | ⟨g, cap, cs, rfl, hb, hB, hs, hnc, hc, _⟩
  · clear h hz
    go_enter Try.func20, Try.ntmps20
    go_wp2
    go_loopg [1, 5] 0 (fun _ m i wr => m = .int .i64 q ∧ i = .int .i64 0 ∧ w = wr)
    case atStart => exact ⟨rfl, rfl, rfl⟩
    case round =>
      obtain ⟨rfl, rfl, rfl⟩ := hrel
      go_wp2
      go_ret
      exact ⟨ret_int (by simp), World.grownBy.refl w _, ⟨by simp [marks], .inl ⟨rfl, rfl⟩⟩⟩
  · refine (markIntS_any g n cap cs q w hB hs hnc hn hq0 hq1).mono ?_
    rintro e w' ⟨rfl, hg, cs', hB', hs', ht'⟩
    exact ⟨rfl, hg, World.ownsRow_of_blk hB' hb hs' hnc hc (marks_len _ _) ht'⟩
theorem heldIntS_own {base : Nat} (v : Value) (n : Nat) (q : Int) (w : World) (h : w.ownsRow base 3 1 v n (marks q (n * 1))) (hn : n ≤ 1048576) (hq0 : 0 ≤ q) (hq1 : q ≤ 1099511627776) :
    Calls Try.prog 21 #[v, .int .i64 q] w fun e w' => e = .returned (.int .i64 (q + (n * 1 : Nat))) ∧ w = w' := by
  rcases h.2 with ⟨rfl, rfl⟩ | ⟨g, cap, cs, rfl, hb, hB, hnc, hc, hs, ht⟩
  · clear h
    go_enter Try.func21, Try.ntmps21
    go_wp2
    go_loopg [1, 5] 0 (fun _ m i wr => m = .int .i64 q ∧ i = .int .i64 0 ∧ w = wr)
    case atStart => exact ⟨rfl, rfl, rfl⟩
    case round =>
      obtain ⟨rfl, rfl, rfl⟩ := hrel
      go_wp2
      go_ret
      exact ⟨ret_int (by simp), rfl⟩
  · exact heldIntS_any g 0 n cap q w hn hq0 hq1 (marks_cells (show Blk w g 3 cs from hB) ht)

theorem eqPageS_own {b1 b2 : Nat} (v u : Value) (n : Nat) (zs : List Pg) (w : World) (h1 : w.ownsRow b1 48 4 v n (zs.flatMap encPg)) (h2 : w.ownsRow b2 48 4 u n (zs.flatMap encPg)) (hz : zs.length = n) (hn : n ≤ 1048576) :
    Calls Try.prog 12 #[v, u] w fun e w' => e = .returned (.bool true) ∧ Below w.heap.size w w' := by
  obtain ⟨a, c, rfl, _, _, hr⟩ := own_rd encPg_len h1 hz
  obtain ⟨a2, c2, rfl, _, _, hr2⟩ := own_rd encPg_len h2 hz
  exact eqPageS_same _ _ _ _ _ zs w hz hn hr hr2

theorem markPageS_own {base : Nat} (v : Value) (n : Nat) (zs : List Pg) (q : Int) (w : World) (h : w.ownsRow base 48 4 v n (zs.flatMap encPg)) (hz : zs.length = n) (hn : n ≤ 1048576) (hq0 : 0 ≤ q) (hq1 : q ≤ 1099511627776) :
    Calls Try.prog 15 #[v, .int .i64 q] w fun e w' => e = .returned (.int .i64 (q + (n * 4 : Nat))) ∧ w.grownBy w' v.ownBlock ∧ w'.ownsRow base 48 4 v n (marks q (n * 4)) := by
  rcases own_form encPg_len h hz with ⟨rfl, rfl, rfl⟩ | ⟨g, cap, cs, rfl, hb, hB, hs, hnc, hc, _⟩
  · clear h hz
    go_enter Try.func15, Try.ntmps15
    go_wp2
    go_loopg [1, 5] 0 (fun _ m i wr => m = .int .i64 q ∧ i = .int .i64 0 ∧ w = wr)
    case atStart => exact ⟨rfl, rfl, rfl⟩
    case round =>
      obtain ⟨rfl, rfl, rfl⟩ := hrel
      go_wp2
      go_ret
      exact ⟨ret_int (by simp), World.grownBy.refl w _, ⟨by simp [marks], .inl ⟨rfl, rfl⟩⟩⟩
  · refine (markPageS_any g n cap cs q w hB hs hnc hn hq0 hq1).mono ?_
    rintro e w' ⟨rfl, hg, cs', hB', hs', ht'⟩
    exact ⟨rfl, hg, World.ownsRow_of_blk hB' hb hs' hnc hc (marks_len _ _) ht'⟩
theorem heldPageS_own {base : Nat} (v : Value) (n : Nat) (q : Int) (w : World) (h : w.ownsRow base 48 4 v n (marks q (n * 4))) (hn : n ≤ 1048576) (hq0 : 0 ≤ q) (hq1 : q ≤ 1099511627776) :
    Calls Try.prog 16 #[v, .int .i64 q] w fun e w' => e = .returned (.int .i64 (q + (n * 4 : Nat))) ∧ w = w' := by
  rcases h.2 with ⟨rfl, rfl⟩ | ⟨g, cap, cs, rfl, hb, hB, hnc, hc, hs, ht⟩
  · clear h
    go_enter Try.func16, Try.ntmps16
    go_wp2
    go_loopg [1, 5] 0 (fun _ m i wr => m = .int .i64 q ∧ i = .int .i64 0 ∧ w = wr)
    case atStart => exact ⟨rfl, rfl, rfl⟩
    case round =>
      obtain ⟨rfl, rfl, rfl⟩ := hrel
      go_wp2
      go_ret
      exact ⟨ret_int (by simp), rfl⟩
  · exact heldPageS_any g 0 n cap q w hn hq0 hq1 (marks_cells (show Blk w g 48 cs from hB) ht)

/-! ### one step of a law whose result is a slice -/
theorem own_lt {w : World} {base n k : Nat} {e : TypeId} {v : Value} {xs : List Value} (h : w.ownsRow base e k v n xs) : ∀ j, v.ownBlock = some j → base ≤ j ∧ j < w.heap.size := fun j hj => h.lt j hj
theorem own_only {w w' : World} {base n k : Nat} {e : TypeId} {v x : Value} {xs : List Value} (h : w.ownsRow base e k v n xs) (hg : w.grownBy w' x.ownBlock) (hne : ∀ j i, v.ownBlock = some j → x.ownBlock = some i → j ≠ i) : w'.ownsRow base e k v n xs := by
  refine h.kept hg ?_
  cases hv : v.ownBlock with
  | none => exact .inl rfl
  | some j =>
    right
    intro he
    exact hne j j hv he.symm rfl
theorem bl_own {a w w' : World} {x : Value} (h : Below a.heap.size a w) (hg : w.grownBy w' x.ownBlock) (hx : ∀ j, x.ownBlock = some j → a.heap.size ≤ j) : Below a.heap.size a w' := h.grown hg h.size hx
theorem rd_at0 {α : Type} {enc : α → List Value} {k : Nat} {w w' : World} {ao : Option Addr} {zs : List α} (h : Rd enc k w.heap.size w ao zs) (hb : Below w.heap.size w w') : Rd enc k w'.heap.size w' ao zs := (h.below hb (Nat.le_refl _)).mono hb.size
theorem ob_some (g n c : Nat) : (Value.slice (some ⟨g, 0, none⟩) n c).ownBlock = some g := rfl

end Go.Proofs.Ytdgalehipgdhiaa
