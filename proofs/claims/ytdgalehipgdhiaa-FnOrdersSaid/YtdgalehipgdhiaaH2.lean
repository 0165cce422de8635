/- The comparison of OrderedAtlas. -/
import Derived.Test.YtdgalehipgdhiaaH4
import Derived.Shelf.SlSortCmp.QuietGrown
namespace Go.Proofs.Ytdgalehipgdhiaa
open Go.RowKit
set_option linter.unusedVariables false
set_option linter.unusedSimpArgs false

def cmpC (a b : Int) : Int := if a < b then -1 else if b < a then 1 else 0
theorem cmpC_any (a b : Int) (w : World) : Calls Try.prog 59 #[.int .i64 a, .int .i64 b] w fun e w' => e = .returned (.int .i64 (cmpC a b)) ∧ w = w' := by
  rcases Int.lt_trichotomy a b with h | h | h
  · have h2 : ¬ b < a := by omega
    have HO := hide (show cmpC a b = -1 from by unfold cmpC; simp [h])
    go_enter Try.func59, Try.ntmps59
    go_wp2_with go_in
    go_ret
    exact ⟨ret_int HO.out.symm, rfl⟩
  · subst h
    have h1 : ¬ a < a := by omega
    have HO := hide (show cmpC a a = 0 from by unfold cmpC; simp)
    go_enter Try.func59, Try.ntmps59
    go_wp2_with go_in
    go_ret
    exact ⟨ret_int HO.out.symm, rfl⟩
  · have h1 : ¬ a < b := by omega
    have HO := hide (show cmpC a b = 1 from by unfold cmpC; simp [h, h1])
    go_enter Try.func59, Try.ntmps59
    go_wp2_with go_in
    go_ret
    exact ⟨ret_int HO.out.symm, rfl⟩
def orC (a b : Int) : Int := if a = 0 then b else a
set_option maxRecDepth 100000 in
theorem or2_any (g : Nat) (a b : Int) (w : World) (c0 : w.cell? ⟨g, 0, none⟩ = some (.int .i64 a)) (c1 : w.cell? ⟨g, 1, none⟩ = some (.int .i64 b)) :
    Calls Try.prog 58 #[.slice (some ⟨g, 0, none⟩) 2 2] w fun e w' => e = .returned (.int .i64 (orC a b)) ∧ w = w' := by
  unfold orC
  by_cases ha : a = 0
  · rw [if_pos ha]
    by_cases hb : b = 0
    · subst ha hb
      go_enter Try.func58, Try.ntmps58
      go_wp2
      go_loopg [8] 2 (fun gk i wr => ∃ k : Nat, k ≤ 2 ∧ 2 - k ≤ gk ∧ i = .int .i64 k ∧ w = wr)
      case atStart => exact ⟨0, by omega, by omega, rfl, rfl⟩
      case round =>
        obtain ⟨k, hk, hg, rfl, rfl⟩ := hrel
        have h3 : k = 0 ∨ k = 1 ∨ k = 2 := by omega
        rcases h3 with rfl | rfl | rfl
        · go_wp2
          go_roundg 1
          case measure => omega
          case rel => exact ⟨1, by omega, by omega, by go_num, rfl⟩
        · go_wp2
          go_roundg 0
          case measure => omega
          case rel => exact ⟨2, by omega, by omega, by go_num, rfl⟩
        · go_wp2
          go_ret
          exact ⟨rfl, rfl⟩
    · subst ha
      have hb1 : decide (b = 0) = false := by simpa using hb
      have hb2 : (b == 0) = false := by simpa using hb
      have hb3 : (b != 0) = true := by simpa using hb
      have HBB := hide hb
      clear hb
      go_enter Try.func58, Try.ntmps58
      go_wp2
      go_loopg [8] 1 (fun gk i wr => ∃ k : Nat, k ≤ 1 ∧ 1 - k ≤ gk ∧ i = .int .i64 k ∧ w = wr)
      case atStart => exact ⟨0, by omega, by omega, rfl, rfl⟩
      case round =>
        obtain ⟨k, hk, hg, rfl, rfl⟩ := hrel
        have h3 : k = 0 ∨ k = 1 := by omega
        rcases h3 with rfl | rfl
        · go_wp2
          go_roundg 0
          case measure => omega
          case rel => exact ⟨1, by omega, by omega, by go_num, rfl⟩
        · go_wp2
          go_ret
          exact ⟨rfl, rfl⟩
  · rw [if_neg ha]
    have hb1 : decide (a = 0) = false := by simpa using ha
    have hb2 : (a == 0) = false := by simpa using ha
    have hb3 : (a != 0) = true := by simpa using ha
    have HBB := hide ha
    clear ha
    go_enter Try.func58, Try.ntmps58
    go_wp2
    go_loopg [8] 0 (fun gk i wr => i = .int .i64 0 ∧ w = wr)
    case atStart => exact ⟨rfl, rfl⟩
    case round =>
      obtain ⟨rfl, rfl⟩ := hrel
      go_wp2
      go_ret
      exact ⟨rfl, rfl⟩

def cfP (x y : Pg) : Int := orC (cmpC x.r y.r) (cmpC x.c y.c)
set_option maxRecDepth 100000 in
set_option maxHeartbeats 4000000 in
theorem oa1_any (x y : Pg) (W : World) : Calls Try.prog 57 #[.agg #[.int .i64 x.n, .int .i64 x.r, .int .i64 x.c, .int .i64 x.l], .agg #[.int .i64 y.n, .int .i64 y.r, .int .i64 y.c, .int .i64 y.l]] W fun e w' => e = .returned (.int .i64 (cfP x y)) ∧ ∃ q os', w' = Go.Sort.grow (W.drewN q) os' := by
  have mixed : Try.prog.follows .mixedOrders = true := by kernel_rfl
  obtain ⟨V, hV⟩ : ∃ V, V = (W.alloc (.cells #[.int .i64 x.n, .int .i64 x.r, .int .i64 x.c, .int .i64 x.l] 48)).alloc (.cells #[.int .i64 y.n, .int .i64 y.r, .int .i64 y.c, .int .i64 y.l] 48) := ⟨_, rfl⟩
  have HG : Hid (V = Go.Sort.grow W #[(.cells #[.int .i64 x.n, .int .i64 x.r, .int .i64 x.c, .int .i64 x.l] 48), (.cells #[.int .i64 y.n, .int .i64 y.r, .int .i64 y.c, .int .i64 y.l] 48)]) := hide (by rw [hV, Go.Sort.alloc_eq_grow, Go.Sort.alloc_eq_grow, Go.Sort.grow_grow]; rfl)
  have x1 : V.cell? ⟨W.heap.size, 1, none⟩ = some (.int .i64 x.r) := by rw [hV]; simp
  have x2 : V.cell? ⟨W.heap.size, 2, none⟩ = some (.int .i64 x.c) := by rw [hV]; simp
  have y1 : V.cell? ⟨W.heap.size + 1, 1, none⟩ = some (.int .i64 y.r) := by rw [hV]; simp
  have y2 : V.cell? ⟨W.heap.size + 1, 2, none⟩ = some (.int .i64 y.c) := by rw [hV]; simp
  have hs : V.heap.size = W.heap.size + 2 := by rw [hV]; simp
  have HW := hide hV
  have HF : Hid (cfP x y = orC (cmpC x.r y.r) (cmpC x.c y.c)) := hide rfl
  clear hV
  go_enter Try.func57, Try.ntmps57
  go_wp2_with fail
  rw [← HW.out]
  refine wp_region_held_drew (S := fun w' => w'.cell? ⟨W.heap.size, 1, none⟩ = some (.int .i64 x.r) ∧ w'.cell? ⟨W.heap.size, 2, none⟩ = some (.int .i64 x.c) ∧ w'.cell? ⟨W.heap.size + 1, 1, none⟩ = some (.int .i64 y.r) ∧ w'.cell? ⟨W.heap.size + 1, 2, none⟩ = some (.int .i64 y.c) ∧ ∃ p : GrownBy, w' = Go.Sort.grow (V.drewN p.n) p.os) (by kernel_rfl) ⟨x1, x2, y1, y2, ⟨1, #[]⟩, by rw [Go.Sort.grow_empty]; rfl⟩ (fun hHeld => ?_)
  generalize V.drew = V2 at hHeld ⊢
  refine heldI_take 0 5 ?vv140 rfl (by kernel_rfl) (by kernel_rfl) (by kernel_rfl) rfl (fun _ _ _ h => h) (by rfl) ?hy140 (by assumption) ?rest140
  case hy140 => (intro w hSw; (try dsimp only at hSw); go_simp; try with_reducible rfl)
  try simp only [Act.put, List.setIfInBounds_toArray, List.set_cons_zero, List.set_cons_succ]
  refine heldI_take 1 6 ?vv141 rfl (by kernel_rfl) (by kernel_rfl) (by kernel_rfl) rfl (fun _ _ _ h => h) (by rfl) ?hy141 (by assumption) ?rest141
  case hy141 => (intro w hSw; (try dsimp only at hSw); go_simp; try with_reducible rfl)
  try simp only [Act.put, List.setIfInBounds_toArray, List.set_cons_zero, List.set_cons_succ]
  refine heldI_take 2 7 ?vv142 rfl (by kernel_rfl) (by kernel_rfl) (by kernel_rfl) rfl (fun _ _ _ h => h) (by rfl) ?hy142 (by assumption) ?rest142
  case hy142 => (intro w hSw; (try dsimp only at hSw); go_simp; try with_reducible rfl)
  try simp only [Act.put, List.setIfInBounds_toArray, List.set_cons_zero, List.set_cons_succ]
  refine heldI_take 3 8 ?vv143 rfl (by kernel_rfl) (by kernel_rfl) (by kernel_rfl) rfl (fun _ _ _ h => h) (by rfl) ?hy143 (by assumption) ?rest143
  case hy143 => (intro w hSw; (try dsimp only at hSw); go_simp; try with_reducible rfl)
  try simp only [Act.put, List.setIfInBounds_toArray, List.set_cons_zero, List.set_cons_succ]
  refine heldI_take 5 10 ?vv144 rfl (by kernel_rfl) (by kernel_rfl) (by kernel_rfl) rfl (fun _ _ _ h => h) (by rfl) ?hy144 (by assumption) ?rest144
  case hy144 => (intro w hSw; (try dsimp only at hSw); go_simp; try with_reducible rfl)
  try simp only [Act.put, List.setIfInBounds_toArray, List.set_cons_zero, List.set_cons_succ]
  refine heldI_take 6 11 ?vv145 rfl (by kernel_rfl) (by kernel_rfl) (by kernel_rfl) rfl (fun _ _ _ h => h) (by rfl) ?hy145 (by assumption) ?rest145
  case hy145 => (intro w hSw; (try dsimp only at hSw); go_simp; try with_reducible rfl)
  try simp only [Act.put, List.setIfInBounds_toArray, List.set_cons_zero, List.set_cons_succ]
  refine heldI_take 7 12 ?vv146 rfl (by kernel_rfl) (by kernel_rfl) (by kernel_rfl) rfl (fun _ _ _ h => h) (by rfl) ?hy146 (by assumption) ?rest146
  case hy146 => (intro w hSw; (try dsimp only at hSw); go_simp; try with_reducible rfl)
  try simp only [Act.put, List.setIfInBounds_toArray, List.set_cons_zero, List.set_cons_succ]
  refine heldI_take 8 13 ?vv147 rfl (by kernel_rfl) (by kernel_rfl) (by kernel_rfl) rfl (fun _ _ _ h => h) (by rfl) ?hy147 (by assumption) ?rest147
  case hy147 => (intro w hSw; (try dsimp only at hSw); go_simp; try with_reducible rfl)
  try simp only [Act.put, List.setIfInBounds_toArray, List.set_cons_zero, List.set_cons_succ]
  refine wpAnyH_ready (rs := [4]) (by kernel_rfl) (by simp) ?_
  refine AllReadyH.cons rfl (fun K hK => ?_) AllReadyH.nil
  go_simp
  refine (cmpC_any x.r y.r _).mono ?_
  rintro e w1 ⟨rfl, rfl⟩
  go_wp2_with fail
  refine hK.out _ _ hHeld (fun hHeld => ?_)
  clear hK K
  try simp only [Act.put, List.setIfInBounds_toArray, List.set_cons_zero, List.set_cons_succ]
  refine wpAnyH_ready (rs := [9]) (by kernel_rfl) (by simp) ?_
  refine AllReadyH.cons rfl (fun K hK => ?_) AllReadyH.nil
  go_simp
  refine (cmpC_any x.c y.c _).mono ?_
  rintro e w1 ⟨rfl, rfl⟩
  go_wp2_with fail
  refine hK.out _ _ hHeld (fun hHeld => ?_)
  clear hK K
  try simp only [Act.put, List.setIfInBounds_toArray, List.set_cons_zero, List.set_cons_succ]
  refine wpAnyH_ready (rs := [10]) (by kernel_rfl) (by simp) ?_
  refine AllReadyH.cons rfl (fun K hK => ?_) AllReadyH.nil
  go_simp
  have HE := hHeld.2.2.2.2
  obtain ⟨p, hp⟩ : ∃ p : GrownBy, V2 = Go.Sort.grow (V.drewN p.n) p.os := HE
  have hp2 : V2.alloc (.cells #[.int .i64 (cmpC x.r y.r), .int .i64 (cmpC x.c y.c)] 3) = Go.Sort.grow (V.drewN p.n) (p.os ++ #[(.cells #[.int .i64 (cmpC x.r y.r), .int .i64 (cmpC x.c y.c)] 3)]) := by rw [hp, Go.Sort.alloc_eq_grow, Go.Sort.grow_grow]
  have n0 : (V2.alloc (.cells #[.int .i64 (cmpC x.r y.r), .int .i64 (cmpC x.c y.c)] 3)).cell? ⟨V2.heap.size, 0, none⟩ = some (.int .i64 (cmpC x.r y.r)) := by simp
  have n1 : (V2.alloc (.cells #[.int .i64 (cmpC x.r y.r), .int .i64 (cmpC x.c y.c)] 3)).cell? ⟨V2.heap.size, 1, none⟩ = some (.int .i64 (cmpC x.c y.c)) := by simp
  generalize V2.alloc (.cells #[.int .i64 (cmpC x.r y.r), .int .i64 (cmpC x.c y.c)] 3) = V3 at n0 n1 hp2 ⊢
  have HP2 := hide hp2
  clear hp hp2
  have hHeld3 : V3.cell? ⟨W.heap.size, 1, none⟩ = some (.int .i64 x.r) ∧ V3.cell? ⟨W.heap.size, 2, none⟩ = some (.int .i64 x.c) ∧ V3.cell? ⟨W.heap.size + 1, 1, none⟩ = some (.int .i64 y.r) ∧ V3.cell? ⟨W.heap.size + 1, 2, none⟩ = some (.int .i64 y.c) ∧ ∃ p : GrownBy, V3 = Go.Sort.grow (V.drewN p.n) p.os := ⟨by rw [HP2.out]; exact cell_grown (by show W.heap.size < V.heap.size; omega) x1 _ _, by rw [HP2.out]; exact cell_grown (by show W.heap.size < V.heap.size; omega) x2 _ _, by rw [HP2.out]; exact cell_grown (by show W.heap.size + 1 < V.heap.size; omega) y1 _ _, by rw [HP2.out]; exact cell_grown (by show W.heap.size + 1 < V.heap.size; omega) y2 _ _, ⟨_, _⟩, HP2.out⟩
  refine hK.out _ _ hHeld3 (fun hHeld => ?_)
  clear hK K
  try simp only [Act.put, List.setIfInBounds_toArray, List.set_cons_zero, List.set_cons_succ]
  refine wpAnyH_ready (rs := [11]) (by kernel_rfl) (by simp) ?_
  refine AllReadyH.cons rfl (fun K hK => ?_) AllReadyH.nil
  go_simp
  refine (or2_any V2.heap.size (cmpC x.r y.r) (cmpC x.c y.c) V3 n0 n1).mono ?_
  rintro e w1 ⟨rfl, rfl⟩
  go_wp2_with fail
  refine hK.out _ _ hHeld (fun hHeld => ?_)
  clear hK K
  try simp only [Act.put, List.setIfInBounds_toArray, List.set_cons_zero, List.set_cons_succ]
  refine heldI_take 12 4 ?vv148 rfl (by kernel_rfl) (by kernel_rfl) (by kernel_rfl) rfl (fun _ _ _ h => h) (by rfl) ?hy148 (by assumption) ?rest148
  case hy148 => (intro w hSw; (try dsimp only at hSw); go_simp; try with_reducible rfl)
  try simp only [Act.put, List.setIfInBounds_toArray, List.set_cons_zero, List.set_cons_succ]
  refine wpAnyH_done (by kernel_rfl) ?_ _
  obtain ⟨p, hp⟩ := hHeld.2.2.2.2
  have HP := hide hp
  clear hHeld hp
  go_wp2
  go_ret
  exact ⟨ret_int HF.out.symm, p.n, #[(.cells #[.int .i64 x.n, .int .i64 x.r, .int .i64 x.c, .int .i64 x.l] 48), (.cells #[.int .i64 y.n, .int .i64 y.r, .int .i64 y.c, .int .i64 y.l] 48)] ++ p.os, by rw [HP.out, HG.out, ← Go.Sort.grow_grow]; rfl⟩

end Go.Proofs.Ytdgalehipgdhiaa
