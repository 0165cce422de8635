/- slices.SortStableFunc on an own slice. -/
import Derived.Test.YtpghdjehagamlaaB3
namespace Go.Proofs.Ytpghdjehagamlaa
open Go.RowKit
set_option linter.unusedVariables false
set_option linter.unusedSimpArgs false

theorem own_baseE {w : World} {b b2 n k : Nat} {e : TypeId} {v : Value} {xs : List Value} (ho : w.ownsRow b e k v n xs) (h : b2 ≤ b) : w.ownsRow b2 e k v n xs := ⟨ho.1, ho.2.imp id (fun ⟨g, cap, cur, h1, h2, r⟩ => ⟨g, cap, cur, h1, Nat.le_trans h h2, r⟩)⟩
theorem insertion_nil (f : Nat) (cb : Array Value) (w : World) :
    Calls Try.prog 98 #[.slice none 0 0, .int .i64 0, .int .i64 0, .func (.func f) #[] cb] w fun e w' => e = .returned (.tuple #[]) ∧ w' = w := by
  go_enter Try.func98, Try.ntmps98
  go_wp2
  go_loopg [8] 0 (fun _ i wr => i = .int .i64 1 ∧ wr = w)
  case atStart => exact ⟨by go_num, rfl⟩
  case round =>
    obtain ⟨rfl, rfl⟩ := hrel
    go_wp2
    go_end0
    exact ⟨rfl, rfl⟩
theorem flatI (zs : List Int) : zs.flatMap encI = zs.map (Value.int .i64) := by
  induction zs with
  | nil => rfl
  | cons z zs ih => simp [encI, ih]
theorem SortStable_own (f : Nat) (cb : Array Value) (cf : Int → Int → Int) (E : Int → Int) (eg : ∀ args w, (callFunc f args).run Try.prog w = .ok (.enter f args) w) (hlt : ∀ x y, cf x y < 0 ↔ E y < E x) {base : Nat} (v : Value) (n : Nat) (zs : List Int) (w : World)
    (ho : w.ownsRow base 3 1 v n (zs.flatMap encI)) (hz : zs.length = n) (hn : n ≤ 19) (hcmp : ∀ g, base ≤ g → CmpAt f cb cf w g) :
    Calls Try.prog 82 #[v, .func (.func f) #[] cb] w fun e w' => e = .returned (.tuple #[]) ∧ w.grownBy w' v.ownBlock ∧ w'.ownsRow base 3 1 v n ((sortE E zs).flatMap encI) := by
  rcases own_form encI_len ho hz with ⟨rfl, rfl, rfl⟩ | ⟨g, cap, cs, rfl, hg, hB, hs, hnc, hm, ht⟩
  · refine stable_any f cb 0 _ w (fun w' => w.grownBy w' (Value.slice none 0 0).ownBlock ∧ w'.ownsRow base 3 1 (.slice none 0 0) 0 ((sortE E []).flatMap encI)) (by omega) ⟨_, _, rfl⟩ ?_
    refine (insertion_nil f cb w).mono ?_
    rintro e w' ⟨rfl, rfl⟩
    exact ⟨rfl, World.grownBy.refl _ _, World.ownsRow_nil _ _ _ _⟩
  · refine stable_any f cb n _ w (fun w' => w.grownBy w' (some g) ∧ w'.ownsRow base 3 1 (.slice (some ⟨g, 0, none⟩) n cap) n ((sortE E zs).flatMap encI)) hn ⟨_, _, rfl⟩ ?_
    refine (insertion_any f cb cf E eg hlt g n cap zs cs w hB (by omega) hnc hz (by omega) (by rw [← flatI]; simpa using ht) (hcmp g hg)).mono ?_
    rintro e w' ⟨rfl, hgr, cs', hB', hs', ht'⟩
    exact ⟨rfl, hgr, World.ownsRow_of_blk hB' hg (by omega) hnc hm (by rw [flat_len encI_len, sortE_len, hz]) (by rw [flatI]; simpa using ht')⟩
/-- the first j of an own []int -/
theorem own_takeI {w : World} {base n : Nat} {e : TypeId} {v : Value} {zs : List Int} (h : w.ownsRow base e 1 v n (zs.flatMap encI)) (hz : zs.length = n) (j : Nat) (hj : j ≤ n) :
    ∃ ao c, v = .slice ao n c ∧ n ≤ c ∧ (ao = none → n = 0 ∧ c = 0) ∧ w.ownsRow base e 1 (.slice ao j c) j ((zs.take j).flatMap encI) := by
  rcases own_form encI_len h hz with ⟨rfl, rfl, rfl⟩ | ⟨g, cap, cs, rfl, hg, hB, hs, hnc, hm, ht⟩
  · obtain rfl : j = 0 := by omega
    exact ⟨none, 0, rfl, Nat.le_refl _, fun _ => ⟨rfl, rfl⟩, by simpa using World.ownsRow_nil _ _ _ _⟩
  · refine ⟨_, cap, rfl, hnc, (fun h => by cases h), World.ownsRow_of_blk hB hg hs (by omega) hm (by rw [flat_len encI_len, List.length_take, hz, Nat.min_eq_left hj]) ?_⟩
    rw [flatI, List.map_take, ← flatI, ← ht, List.take_take]
    congr 1; omega

end Go.Proofs.Ytpghdjehagamlaa
