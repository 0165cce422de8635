/- A copying drawn. -/
import Derived.Test.YtpghdjehagamlaaC2
import Derived.Test.YtpghdjehagamlaaFCopying
namespace Go.Proofs.Ytpghdjehagamlaa
open Go.RowKit
set_option linter.unusedVariables false
set_option linter.unusedSimpArgs false

set_option maxRecDepth 100000 in
set_option maxHeartbeats 1000000 in
theorem draw_copying_any (B g m : Nat) (day : Int) (w : World) (hc : Cur B w g m) (hm : m ≤ 100000000) :
    Calls Try.prog 63 #[.pointer (some ⟨g, 0, none⟩), .int .i64 day] w fun e w' => ∃ x : Cp, e = .returned (.agg #[.int .i64 x.s, .int .i64 x.r, .int .i64 x.d, .int .i64 x.p]) ∧ Cur B w' g (m + 20) ∧ w.grownBy w' (some g) := by
  have HC := hide hc
  have hg0 := hc.lt
  have hB0 := hc.base
  clear hc
  go_enter Try.func63, Try.ntmps63
  go_wp2_with fail
  refine (among_any B g m _ 5 5 [1, 2, 3, 4, 999] _ ((HC.out.alloc _).alloc _) (Opts.lit [1, 2, 3, 4, 999] (HC.out.alloc _).lt rfl (by simp)) (by omega) (by omega) (by omega)).mono ?_
  rintro e w1 ⟨v1, rfl, _, hc, hg⟩
  have HR := hide (Blk.gr (t := 34) ((Blk.new w _ _).alloc _) hg (by omega))
  have HG := hide (gr_trans (gr_alloc (gr_alloc (gr_refl w (some g)) _) _) hg)
  have hs := hg.size
  have hs1 : w.heap.size < w1.heap.size := by simp at hs; omega
  have HC := hide hc
  clear hc hg hs
  go_wp2_with fail
  refine (among_any B g (m + 2) _ 4 4 [1, 1, 2, 999] _ (HC.out.alloc _) (Opts.lit [1, 1, 2, 999] HC.out.lt rfl rfl) (by omega) (by omega) (by omega)).mono ?_
  rintro e w2 ⟨v2, rfl, _, hc, hg⟩
  have HR := hide ((HR.out.alloc _).gr hg (by omega))
  have HG := hide (gr_trans (gr_alloc HG.out _) hg)
  have hs := hg.size
  have hs1 : w.heap.size < w2.heap.size := by (try simp at hs); omega
  have HC := hide hc
  clear hc hg hs
  go_wp2_with fail
  refine (among_any B g (m + 4) _ 6 6 [1, 5, 10, 20, 50, 100] _ (HC.out.alloc _) (Opts.lit [1, 5, 10, 20, 50, 100] HC.out.lt rfl rfl) (by omega) (by omega) (by omega)).mono ?_
  rintro e w3 ⟨v3, rfl, _, hc, hg⟩
  have HR := hide ((HR.out.alloc _).gr hg (by omega))
  have HG := hide (gr_trans (gr_alloc HG.out _) hg)
  have hs := hg.size
  have hs1 : w.heap.size < w3.heap.size := by (try simp at hs); omega
  have HC := hide hc
  clear hc hg hs
  go_wp2_with fail
  refine (pick_any B g (m + 6) 100 _ (HC.out.alloc _) (by omega) (by omega) (by omega)).mono ?_
  rintro e w4 ⟨y, rfl, y0, _, hc, hg⟩
  have HX := hide (Blk.gr (Blk.new w3 34 _) hg (by have := HC.out.lt; omega))
  have HR := hide ((HR.out.alloc _).gr hg (by omega))
  have HG := hide (gr_trans (gr_alloc HG.out _) hg)
  have hs := hg.size
  have hs2 : w3.heap.size < w4.heap.size := by simp at hs; omega
  have HC := hide hc
  clear hc hg hs
  have hcs : y = 0 ∨ y = 1 ∨ y = 2 ∨ y = 3 ∨ (¬ y = 0 ∧ ¬ y = 1 ∧ ¬ y = 2 ∧ ¬ y = 3) := by omega
  rcases hcs with rfl | rfl | rfl | rfl | ⟨z0, z1, z2, z3⟩
  · go_wp2_with fail
    refine (among_any B g (m + 8) _ 2 2 [0, 1000] _ (HC.out.alloc _) (Opts.lit [0, 1000] HC.out.lt rfl rfl) (by omega) (by omega) (by omega)).mono ?_
    rintro e wz ⟨z, rfl, _, hc, hg⟩
    have HR := hide ((HR.out.alloc _).gr hg (by omega))
    have HX := hide ((HX.out.alloc _).gr hg (by have := HC.out.lt; omega))
    have HG := hide (gr_trans (gr_alloc HG.out _) hg)
    have HC := hide hc
    clear hc hg
    have x0 := HX.out.cell 0
    have fx0 := HX.out.frozen 0
    have x1 := HX.out.cell 1
    have fx1 := HX.out.frozen 1
    have x2 := HX.out.cell 2
    have fx2 := HX.out.frozen 2
    have x3 := HX.out.cell 3
    have fx3 := HX.out.frozen 3
    simp only [List.getElem?_toArray, List.getElem?_cons_zero, List.getElem?_cons_succ] at x0 x1 x2 x3
    have r0 := HR.out.cell 0
    have fr0 := HR.out.frozen 0
    have r1 := HR.out.cell 1
    have fr1 := HR.out.frozen 1
    have r2 := HR.out.cell 2
    have fr2 := HR.out.frozen 2
    have r3 := HR.out.cell 3
    have fr3 := HR.out.frozen 3
    simp only [List.getElem?_toArray, List.getElem?_cons_zero, List.getElem?_cons_succ] at r0 r1 r2 r3
    have hne : w3.heap.size ≠ w.heap.size := by omega
    have hne2 : w.heap.size ≠ w3.heap.size := by omega
    go_wp2
    refine bodyPost_ret (v := .agg #[.int .i64 z, .int .i64 v2, .int .i64 day, .int .i64 v3]) (by simp [results, Try.results63, go_sem, r0, r1, r2, r3]) rfl ⟨⟨z, v2, day, v3⟩, rfl, ?_, ?_⟩
    · repeat (first | ((with_reducible refine Cur.mono HC.out ?_); omega) | refine Cur.set ?_ ⟨by dsimp only; omega, by dsimp only; omega⟩ _)
    · repeat (first | with_reducible exact HG.out | refine gr_far ?_ (by dsimp only; omega) _)
  · go_wp2_with fail
    refine (among_any B g (m + 8) _ 2 2 [0, 1000] _ (HC.out.alloc _) (Opts.lit [0, 1000] HC.out.lt rfl rfl) (by omega) (by omega) (by omega)).mono ?_
    rintro e wz ⟨z, rfl, _, hc, hg⟩
    have HR := hide ((HR.out.alloc _).gr hg (by omega))
    have HX := hide ((HX.out.alloc _).gr hg (by have := HC.out.lt; omega))
    have HG := hide (gr_trans (gr_alloc HG.out _) hg)
    have HC := hide hc
    clear hc hg
    have x0 := HX.out.cell 0
    have fx0 := HX.out.frozen 0
    have x1 := HX.out.cell 1
    have fx1 := HX.out.frozen 1
    have x2 := HX.out.cell 2
    have fx2 := HX.out.frozen 2
    have x3 := HX.out.cell 3
    have fx3 := HX.out.frozen 3
    simp only [List.getElem?_toArray, List.getElem?_cons_zero, List.getElem?_cons_succ] at x0 x1 x2 x3
    have r0 := HR.out.cell 0
    have fr0 := HR.out.frozen 0
    have r1 := HR.out.cell 1
    have fr1 := HR.out.frozen 1
    have r2 := HR.out.cell 2
    have fr2 := HR.out.frozen 2
    have r3 := HR.out.cell 3
    have fr3 := HR.out.frozen 3
    simp only [List.getElem?_toArray, List.getElem?_cons_zero, List.getElem?_cons_succ] at r0 r1 r2 r3
    have hne : w3.heap.size ≠ w.heap.size := by omega
    have hne2 : w.heap.size ≠ w3.heap.size := by omega
    go_wp2
    refine bodyPost_ret (v := .agg #[.int .i64 v1, .int .i64 z, .int .i64 day, .int .i64 v3]) (by simp [results, Try.results63, go_sem, r0, r1, r2, r3]) rfl ⟨⟨v1, z, day, v3⟩, rfl, ?_, ?_⟩
    · repeat (first | ((with_reducible refine Cur.mono HC.out ?_); omega) | refine Cur.set ?_ ⟨by dsimp only; omega, by dsimp only; omega⟩ _)
    · repeat (first | with_reducible exact HG.out | refine gr_far ?_ (by dsimp only; omega) _)
  · go_wp2_with fail
    refine (among_any B g (m + 8) _ 2 2 [(-1), 4001] _ (HC.out.alloc _) (Opts.lit [(-1), 4001] HC.out.lt rfl rfl) (by omega) (by omega) (by omega)).mono ?_
    rintro e wz ⟨z, rfl, _, hc, hg⟩
    have HR := hide ((HR.out.alloc _).gr hg (by omega))
    have HX := hide ((HX.out.alloc _).gr hg (by have := HC.out.lt; omega))
    have HG := hide (gr_trans (gr_alloc HG.out _) hg)
    have HC := hide hc
    clear hc hg
    have x0 := HX.out.cell 0
    have fx0 := HX.out.frozen 0
    have x1 := HX.out.cell 1
    have fx1 := HX.out.frozen 1
    have x2 := HX.out.cell 2
    have fx2 := HX.out.frozen 2
    have x3 := HX.out.cell 3
    have fx3 := HX.out.frozen 3
    simp only [List.getElem?_toArray, List.getElem?_cons_zero, List.getElem?_cons_succ] at x0 x1 x2 x3
    have r0 := HR.out.cell 0
    have fr0 := HR.out.frozen 0
    have r1 := HR.out.cell 1
    have fr1 := HR.out.frozen 1
    have r2 := HR.out.cell 2
    have fr2 := HR.out.frozen 2
    have r3 := HR.out.cell 3
    have fr3 := HR.out.frozen 3
    simp only [List.getElem?_toArray, List.getElem?_cons_zero, List.getElem?_cons_succ] at r0 r1 r2 r3
    have hne : w3.heap.size ≠ w.heap.size := by omega
    have hne2 : w.heap.size ≠ w3.heap.size := by omega
    go_wp2
    refine bodyPost_ret (v := .agg #[.int .i64 v1, .int .i64 v2, .int .i64 z, .int .i64 v3]) (by simp [results, Try.results63, go_sem, r0, r1, r2, r3]) rfl ⟨⟨v1, v2, z, v3⟩, rfl, ?_, ?_⟩
    · repeat (first | ((with_reducible refine Cur.mono HC.out ?_); omega) | refine Cur.set ?_ ⟨by dsimp only; omega, by dsimp only; omega⟩ _)
    · repeat (first | with_reducible exact HG.out | refine gr_far ?_ (by dsimp only; omega) _)
  · go_wp2_with fail
    refine (among_any B g (m + 8) _ 2 2 [0, 101] _ (HC.out.alloc _) (Opts.lit [0, 101] HC.out.lt rfl rfl) (by omega) (by omega) (by omega)).mono ?_
    rintro e wz ⟨z, rfl, _, hc, hg⟩
    have HR := hide ((HR.out.alloc _).gr hg (by omega))
    have HX := hide ((HX.out.alloc _).gr hg (by have := HC.out.lt; omega))
    have HG := hide (gr_trans (gr_alloc HG.out _) hg)
    have HC := hide hc
    clear hc hg
    have x0 := HX.out.cell 0
    have fx0 := HX.out.frozen 0
    have x1 := HX.out.cell 1
    have fx1 := HX.out.frozen 1
    have x2 := HX.out.cell 2
    have fx2 := HX.out.frozen 2
    have x3 := HX.out.cell 3
    have fx3 := HX.out.frozen 3
    simp only [List.getElem?_toArray, List.getElem?_cons_zero, List.getElem?_cons_succ] at x0 x1 x2 x3
    have r0 := HR.out.cell 0
    have fr0 := HR.out.frozen 0
    have r1 := HR.out.cell 1
    have fr1 := HR.out.frozen 1
    have r2 := HR.out.cell 2
    have fr2 := HR.out.frozen 2
    have r3 := HR.out.cell 3
    have fr3 := HR.out.frozen 3
    simp only [List.getElem?_toArray, List.getElem?_cons_zero, List.getElem?_cons_succ] at r0 r1 r2 r3
    have hne : w3.heap.size ≠ w.heap.size := by omega
    have hne2 : w.heap.size ≠ w3.heap.size := by omega
    go_wp2
    refine bodyPost_ret (v := .agg #[.int .i64 v1, .int .i64 v2, .int .i64 day, .int .i64 z]) (by simp [results, Try.results63, go_sem, r0, r1, r2, r3]) rfl ⟨⟨v1, v2, day, z⟩, rfl, ?_, ?_⟩
    · repeat (first | ((with_reducible refine Cur.mono HC.out ?_); omega) | refine Cur.set ?_ ⟨by dsimp only; omega, by dsimp only; omega⟩ _)
    · repeat (first | with_reducible exact HG.out | refine gr_far ?_ (by dsimp only; omega) _)
  · have x0 := HX.out.cell 0
    have fx0 := HX.out.frozen 0
    have x1 := HX.out.cell 1
    have fx1 := HX.out.frozen 1
    have x2 := HX.out.cell 2
    have fx2 := HX.out.frozen 2
    have x3 := HX.out.cell 3
    have fx3 := HX.out.frozen 3
    simp only [List.getElem?_toArray, List.getElem?_cons_zero, List.getElem?_cons_succ] at x0 x1 x2 x3
    have r0 := HR.out.cell 0
    have fr0 := HR.out.frozen 0
    have r1 := HR.out.cell 1
    have fr1 := HR.out.frozen 1
    have r2 := HR.out.cell 2
    have fr2 := HR.out.frozen 2
    have r3 := HR.out.cell 3
    have fr3 := HR.out.frozen 3
    simp only [List.getElem?_toArray, List.getElem?_cons_zero, List.getElem?_cons_succ] at r0 r1 r2 r3
    have hne : w3.heap.size ≠ w.heap.size := by omega
    have hne2 : w.heap.size ≠ w3.heap.size := by omega
    go_wp2
    refine bodyPost_ret (v := .agg #[.int .i64 v1, .int .i64 v2, .int .i64 day, .int .i64 v3]) (by simp [results, Try.results63, go_sem, r0, r1, r2, r3]) rfl ⟨⟨v1, v2, day, v3⟩, rfl, ?_, ?_⟩
    · repeat (first | ((with_reducible refine Cur.mono HC.out ?_); omega) | refine Cur.set ?_ ⟨by dsimp only; omega, by dsimp only; omega⟩ _)
    · repeat (first | with_reducible exact HG.out | refine gr_far ?_ (by dsimp only; omega) _)

end Go.Proofs.Ytpghdjehagamlaa
