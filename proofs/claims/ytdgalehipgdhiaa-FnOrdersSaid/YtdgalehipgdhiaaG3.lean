/- The best order: the search of the reference. -/
import Derived.Test.YtdgalehipgdhiaaG2M
namespace Go.Proofs.Ytdgalehipgdhiaa
open Go.RowKit
set_option linter.unusedVariables false
set_option linter.unusedSimpArgs false
set_option maxRecDepth 100000 in
theorem l1Own_any (a : Addr) (n c : Nat) (zs : List Int) (w : World) (hz : zs.length = n) (hn : n ≤ 1000000) (hr : Rd encI 1 w.heap.size w (some a) zs) :
    Calls Try.prog 75 #[.slice (some a) n c] w fun e w' => ∃ v, e = .returned v ∧ w'.ownsRow w.heap.size 3 1 v n (zs.flatMap encI) ∧ Below w.heap.size w w' := by
  obtain ⟨V, hV⟩ : ∃ V, V = w.alloc (.cells #[] 3) := ⟨_, rfl⟩
  have HBV : Hid (Below w.heap.size w V) := hide (by rw [hV]; exact (Below.refl _ _).alloc (Nat.le_refl _) _)
  have HEV : Hid (V.ownsRow w.heap.size 3 1 (.slice (some ⟨w.heap.size, 0, none⟩) 0 0) 0 []) := hide (by rw [hV]; exact World.ownsRow_made w #[] 0 (Nat.le_refl _) (by simp [maxLen]) rfl)
  have HFL := hide (rd_flat encI_len (rd_step hr HBV.out))
  have HZ := hide hz
  have HV := hide hV
  have hVs : w.heap.size ≤ V.heap.size := HBV.out.size
  clear hV hr hz
  obtain ⟨i0, hi, hz0, hz1, hz2⟩ := info_parts infoI
  go_enter Try.func75, Try.ntmps75
  go_wp2_with (at_builtin; rw [← HV.out]; refine wpList_append_own _ rfl _ _ 34 rfl w.heap.size 3 i0 (.int .i64 0) 1 8 Try.underlying34 hi hz0 hz1 hz2 rfl (by decide) _ 0 [] rfl HEV.out a n c (zs.flatMap encI) rfl ?c0 ?c1 ?c2 ?c3 ?c4 ?c5 ?_)
  case c0 => rw [flat_len encI_len, HZ.out]
  case c1 => exact HFL.out
  case c2 => exact encJ_one (fun x u hu => by simp [encI] at hu; subst hu; rfl) zs
  case c3 => unfold maxLen; omega
  case c4 => omega
  case c5 => exact hVs
  intro v w3 hown' hgrow _
  have HB3 := hide (bl_grown HBV.out HEV.out (Nat.le_refl _) hgrow)
  have HO3 : Hid (w3.ownsRow w.heap.size 3 1 v n (zs.flatMap encI)) := hide (by first | exact hown' | (rw [Nat.zero_add, List.nil_append] at hown'; exact hown'))
  clear hown' hgrow hi hz0 hz1 hz2
  go_wp2
  go_ret
  exact ⟨_, rfl, HO3.out, HB3.out⟩

theorem hasO_eq (o : List Nat) (k : Nat) : hasN (numO o) ((k : Int) + 1) = o.contains k := by
  unfold hasN numO
  rw [Bool.eq_iff_iff, List.contains_iff_mem, List.contains_iff_mem, List.mem_map]
  constructor
  · rintro ⟨a, ha, he⟩
    have : a = k := by omega
    subst this; exact ha
  · intro h; exact ⟨k, h, rfl⟩
theorem numO_snoc (o : List Nat) (k : Nat) : numO (o ++ [k]) = numO o ++ [(k : Int) + 1] := by simp [numO]
theorem numO_at {o : List Nat} {j : Nat} (h : j < o.length) : (numO o)[j]? = some ((o[j]! : Int) + 1) := by
  unfold numO
  rw [List.getElem?_map, List.getElem?_eq_getElem h]
  have : o[j]! = o[j] := by rw [List.getElem!_eq_getElem?_getD, List.getElem?_eq_getElem h]; rfl
  rw [this]; rfl
theorem bang_mem {o : List Nat} {j : Nat} (h : j < o.length) : o[j]! ∈ o := by
  have : o[j]! = o[j] := by rw [List.getElem!_eq_getElem?_getD, List.getElem?_eq_getElem h]; rfl
  rw [this]; exact List.getElem_mem h
theorem turn_yes {zs : List Pg} {o : List Nat} {k : Nat} {y x : Pg} (h0 : 0 < o.length) (hy : zs[o[o.length - 1]!]! = y) (hx : zs[k]! = x) (h : besB y x = false) : turnO zs o k = 1 := by unfold turnO; rw [hy, hx, if_pos ⟨h0, h⟩]
theorem turn_no {zs : List Pg} {o : List Nat} {k : Nat} {y x : Pg} (hy : zs[o[o.length - 1]!]! = y) (hx : zs[k]! = x) (h : besB y x = true) : turnO zs o k = 0 := by unfold turnO; rw [hy, hx, h]; simp
theorem turn_0 {zs : List Pg} {o : List Nat} {k : Nat} (h0 : o.length = 0) : turnO zs o k = 0 := by unfold turnO; rw [h0]; simp
theorem ret_vi {u : Value} {a b : Int} (h1 : a = b) : Ending.returned (.tuple #[u, .int .i64 a]) = .returned (.tuple #[u, .int .i64 b]) := by rw [h1]

set_option maxRecDepth 100000 in
set_option maxHeartbeats 8000000 in
theorem l13Best_any (ao : Option Addr) (n c : Nat) (zs : List Pg) (hz : zs.length = n) (hn : n ≤ 6) (ha : atlasB zs = true) : ∀ (f : Nat) (o : List Nat) (q : Addr) (L d : Nat) (r m : Int) (w : World) (hr : Rd encPg 4 w.heap.size w ao zs) (ho : okS zs.length o) (hf : o.length + f = n) (hL : o.length = L) (hq : Rd encI 1 w.heap.size w (some q) (numO o)) (hr0 : 0 ≤ r) (hr1 : r + f ≤ 6),
    Calls Try.prog 50 #[.slice ao n c, .slice (some q) L d, .int .i64 r, .int .i64 m] w fun e w' => ∃ v, e = .returned (.tuple #[v, .int .i64 (seekO zs zs.length f o r m).2]) ∧ w'.ownsRow w.heap.size 3 1 v (seekO zs zs.length f o r m).1.length ((numO (seekO zs zs.length f o r m).1).flatMap encI) ∧ Below w.heap.size w w' := by
  have mixed : Try.prog.follows .mixedOrders = true := by kernel_rfl
  intro f
  induction f with
  | zero =>
    intro o q L d r m w hr ho hf hL hq hr0 hr1
    have hLn : L = n := by omega
    subst hLn
    have HQL : Hid ((numO o).length = L) := hide (by rw [numO_len, hL])
    have HLO := hide hL
    by_cases hmr : m ≤ r
    · have HE : Hid (seekO zs zs.length 0 o r m = ([], m)) := hide (by rw [seekO, if_pos hmr])
      clear hr ho hf hq hz ha hL
      go_enter Try.func50, Try.ntmps50
      go_wp2
      go_ret2
      exact ⟨_, ret_vi (by rw [HE.out]), by rw [HE.out]; exact World.ownsRow_made w #[] 0 (Nat.le_refl _) (by simp [maxLen]) rfl, (Below.refl _ _).alloc (Nat.le_refl _) _⟩
    · have HE : Hid (seekO zs zs.length 0 o r m = (o, r)) := hide (by rw [seekO, if_neg hmr])
      have HW := hide (l1Own_any q L d (numO o) w HQL.out (by omega) hq)
      clear hr ho hf hq hz ha hL
      go_enter Try.func50, Try.ntmps50
      go_wp2_with fail
      refine HW.out.mono ?_
      rintro e w1 ⟨v, rfl, ho, hb⟩
      have HO := hide ho
      have HB := hide hb
      clear ho hb HW
      go_wp2
      go_ret2
      exact ⟨_, ret_vi (by rw [HE.out]), by rw [HE.out]; show World.ownsRow _ _ _ _ _ o.length _; rw [HLO.out]; exact HO.out, HB.out⟩
  | succ f ih =>
    intro o q L d r m w hr ho hf hL hq hr0 hr1
    have HR := hide hr
    have HOO := hide ho
    have HQ := hide hq
    have HLO := hide hL
    have HZ := hide hz
    have HA := hide ha
    have HQL : Hid ((numO o).length = L) := hide (by rw [numO_len, hL])
    have hLn : L < n := by omega
    have hLn2 : decide (L = n) = false := decide_eq_false (by omega)
    have hLn3 : ((L : Int) == (n : Int)) = false := by simp; omega
    have hLn4 : decide ((L : Int) = (n : Int)) = false := decide_eq_false (by omega)
    have HF : Hid (L + (f + 1) = n) := hide (by omega)
    have hr2 : r + f ≤ 5 := by omega
    clear hr ho hq hL hz ha hf hr1
    by_cases hmr : m ≤ r
    · have HE : Hid (seekO zs zs.length (f + 1) o r m = ([], m)) := hide (by rw [seekO, if_pos hmr])
      go_enter Try.func50, Try.ntmps50
      go_wp2
      go_ret2
      exact ⟨_, ret_vi (by rw [HE.out]), by rw [HE.out]; exact World.ownsRow_made w #[] 0 (Nat.le_refl _) (by simp [maxLen]) rfl, (Below.refl _ _).alloc (Nat.le_refl _) _⟩
    · have HE : Hid (seekO zs zs.length (f + 1) o r m = seekK zs zs.length f o r m n) := hide (by rw [seek_end hmr, HZ.out])
      obtain ⟨i0, hi, hz0, hz1, hz2⟩ := info_parts infoI
      have HI := hide (And.intro hi (And.intro hz0 (And.intro hz1 hz2)))
      clear hi hz0 hz1 hz2
      have HEM : Hid ((w.alloc (.cells #[] 3)).ownsRow w.heap.size 3 1 (.slice (some ⟨w.heap.size, 0, none⟩) 0 0) 0 []) := hide (World.ownsRow_made w #[] 0 (Nat.le_refl _) (by simp [maxLen]) rfl)
      have HBM : Hid (Below w.heap.size w (w.alloc (.cells #[] 3))) := hide ((Below.refl _ _).alloc (Nat.le_refl _) _)
      go_enter Try.func50, Try.ntmps50
      go_wp2
      go_loopg [3, 10, 11] n (fun gk ml v i wr => ∃ k : Nat, k ≤ n ∧ n - k ≤ gk ∧ ml = .int .i64 (seekK zs zs.length f o r m k).2 ∧ i = .int .i64 ((k : Int) + 1) ∧ Aside (wr.ownsRow w.heap.size 3 1 v (seekK zs zs.length f o r m k).1.length ((numO (seekK zs zs.length f o r m k).1).flatMap encI)) ∧ Aside (Below w.heap.size w wr))
      case atStart => exact ⟨0, Nat.zero_le _, by omega, rfl, by go_num, HEM.out, HBM.out⟩
      case round =>
        obtain ⟨k, hk, hgk, rfl, rfl, OW, BW⟩ := hrel
        by_cases hlt : k < n
        · have hltz : (k : Int) + 1 ≤ (n : Int) := by omega
          obtain ⟨b, off, rfl, hb1, hat⟩ := rdPg HR.out (by rw [HZ.out]; omega)
          have HH := hide (l1Has_any (some q) L d (numO o) ((k : Int) + 1) wr HQL.out (by omega) (rd_step HQ.out BW.out))
          cases hc : o.contains k with
          | true =>
            have HHV : Hid (hasN (numO o) ((k : Int) + 1) = true) := hide (by rw [hasO_eq, hc])
            have HN := hide (seekK_skip (zs := zs) (n := zs.length) (f := f) (r := r) (m := m) hc)
            clear hc hat
            go_wp2_with fail
            refine HH.out.mono ?_
            rintro e w' ⟨rfl, rfl⟩
            rw [HHV.out]
            go_wp2
            go_roundg (n - (k + 1))
            case measure => omega
            case rel => exact ⟨k + 1, by omega, by omega, by rw [HN.out], by go_num, by rw [HN.out]; exact OW.out, BW.out⟩
          | false =>
            have HHV : Hid (hasN (numO o) ((k : Int) + 1) = false) := hide (by rw [hasO_eq, hc])
            have HNC := hide hc
            have HOK2 : Hid (okS zs.length (o ++ [k])) := hide (okS_snoc HOO.out (by rw [HZ.out]; exact hlt) hc)
            have HLF : Hid ((o ++ [k]).length + f = n) := hide (by rw [List.length_append]; have := HF.out; have := HLO.out; simp; omega)
            have HOL : Hid ((o ++ [k]).length = L + 1) := hide (by rw [List.length_append, HLO.out]; rfl)
            have HNL : Hid ((numO (o ++ [k])).length = L + 1) := hide (by rw [numO_len]; exact HOL.out)
            obtain ⟨x, hx, hxc⟩ := hat k (by rw [HZ.out]; exact hlt)
            have HXB := hide (getB hx)
            have HXI := hide (atlas_at HA.out hx)
            clear hc
            obtain ⟨W, hW⟩ : ∃ W, W = wr := ⟨_, rfl⟩
            subst hW
            have HBW := hide BW.out
            have OWW := hide OW.out
            clear OW BW
            go_wp2_with fail
            refine HH.out.mono ?_
            rintro e w' ⟨rfl, rfl⟩
            rw [HHV.out]
            clear HH
            by_cases hL0 : L = 0
            · have HTU : Hid (turnO zs o k = 0) := hide (turn_0 (by rw [HLO.out, hL0]))
              have g0 : decide (0 < L) = false := decide_eq_false (by omega)
              have g1 : ¬ (0 : Int) < (L : Int) := by omega
              have HL00 := hide hL0
              clear hL0 hx hxc hat
              go_wp2_with fail
              refine wp_region_held_drew (S := fun w' => Below W.heap.size W w') (by kernel_rfl) ((Below.refl _ _).drew) (fun hHeld => ?_)
              first
                | (refine heldI_skip 0 42 rfl (by kernel_rfl) (by kernel_rfl) (by kernel_rfl) rfl (fun _ _ _ h => h) (by rfl) (by assumption) ?_)
                | (refine heldI_take 0 42 ?vv289 rfl (by kernel_rfl) (by kernel_rfl) (by kernel_rfl) rfl (fun _ _ _ h => h) (by rfl) ?hy289 (by assumption) ?rest289
                   case hy289 => (intro w hSw; (try dsimp only at hSw); go_simp; try with_reducible rfl))
              try simp only [Act.put, List.setIfInBounds_toArray, List.set_cons_zero, List.set_cons_succ]
              first
                | (refine heldI_skip 1 43 rfl (by kernel_rfl) (by kernel_rfl) (by kernel_rfl) rfl (fun _ _ _ h => h) (by rfl) (by assumption) ?_)
                | (refine heldI_take 1 43 ?vv290 rfl (by kernel_rfl) (by kernel_rfl) (by kernel_rfl) rfl (fun _ _ _ h => h) (by rfl) ?hy290 (by assumption) ?rest290
                   case hy290 => (intro w hSw; (try dsimp only at hSw); go_simp; try with_reducible rfl))
              try simp only [Act.put, List.setIfInBounds_toArray, List.set_cons_zero, List.set_cons_succ]
              first
                | (refine heldI_skip 2 44 rfl (by kernel_rfl) (by kernel_rfl) (by kernel_rfl) rfl (fun _ _ _ h => h) (by rfl) (by assumption) ?_)
                | (refine heldI_take 2 44 ?vv291 rfl (by kernel_rfl) (by kernel_rfl) (by kernel_rfl) rfl (fun _ _ _ h => h) (by rfl) ?hy291 (by assumption) ?rest291
                   case hy291 => (intro w hSw; (try dsimp only at hSw); go_simp; try with_reducible rfl))
              try simp only [Act.put, List.setIfInBounds_toArray, List.set_cons_zero, List.set_cons_succ]
              first
                | (refine heldI_skip 3 45 rfl (by kernel_rfl) (by kernel_rfl) (by kernel_rfl) rfl (fun _ _ _ h => h) (by rfl) (by assumption) ?_)
                | (refine heldI_take 3 45 ?vv292 rfl (by kernel_rfl) (by kernel_rfl) (by kernel_rfl) rfl (fun _ _ _ h => h) (by rfl) ?hy292 (by assumption) ?rest292
                   case hy292 => (intro w hSw; (try dsimp only at hSw); go_simp; try with_reducible rfl))
              try simp only [Act.put, List.setIfInBounds_toArray, List.set_cons_zero, List.set_cons_succ]
              first
                | (refine heldI_skip 4 46 rfl (by kernel_rfl) (by kernel_rfl) (by kernel_rfl) rfl (fun _ _ _ h => h) (by rfl) (by assumption) ?_)
                | (refine heldI_take 4 46 ?vv293 rfl (by kernel_rfl) (by kernel_rfl) (by kernel_rfl) rfl (fun _ _ _ h => h) (by rfl) ?hy293 (by assumption) ?rest293
                   case hy293 => (intro w hSw; (try dsimp only at hSw); go_simp; try with_reducible rfl))
              try simp only [Act.put, List.setIfInBounds_toArray, List.set_cons_zero, List.set_cons_succ]
              first
                | (refine heldI_skip 5 47 rfl (by kernel_rfl) (by kernel_rfl) (by kernel_rfl) rfl (fun _ _ _ h => h) (by rfl) (by assumption) ?_)
                | (refine heldI_take 5 47 ?vv294 rfl (by kernel_rfl) (by kernel_rfl) (by kernel_rfl) rfl (fun _ _ _ h => h) (by rfl) ?hy294 (by assumption) ?rest294
                   case hy294 => (intro w hSw; (try dsimp only at hSw); go_simp; try with_reducible rfl))
              try simp only [Act.put, List.setIfInBounds_toArray, List.set_cons_zero, List.set_cons_succ]
              first
                | (refine heldI_skip 6 48 rfl (by kernel_rfl) (by kernel_rfl) (by kernel_rfl) rfl (fun _ _ _ h => h) (by rfl) (by assumption) ?_)
                | (refine heldI_take 6 48 ?vv295 rfl (by kernel_rfl) (by kernel_rfl) (by kernel_rfl) rfl (fun _ _ _ h => h) (by rfl) ?hy295 (by assumption) ?rest295
                   case hy295 => (intro w hSw; (try dsimp only at hSw); go_simp; try with_reducible rfl))
              try simp only [Act.put, List.setIfInBounds_toArray, List.set_cons_zero, List.set_cons_succ]
              first
                | (refine heldI_skip 7 49 rfl (by kernel_rfl) (by kernel_rfl) (by kernel_rfl) rfl (fun _ _ _ h => h) (by rfl) (by assumption) ?_)
                | (refine heldI_take 7 49 ?vv296 rfl (by kernel_rfl) (by kernel_rfl) (by kernel_rfl) rfl (fun _ _ _ h => h) (by rfl) ?hy296 (by assumption) ?rest296
                   case hy296 => (intro w hSw; (try dsimp only at hSw); go_simp; try with_reducible rfl))
              try simp only [Act.put, List.setIfInBounds_toArray, List.set_cons_zero, List.set_cons_succ]
              first
                | (refine heldI_skip 8 50 rfl (by kernel_rfl) (by kernel_rfl) (by kernel_rfl) rfl (fun _ _ _ h => h) (by rfl) (by assumption) ?_)
                | (refine heldI_take 8 50 ?vv297 rfl (by kernel_rfl) (by kernel_rfl) (by kernel_rfl) rfl (fun _ _ _ h => h) (by rfl) ?hy297 (by assumption) ?rest297
                   case hy297 => (intro w hSw; (try dsimp only at hSw); go_simp; try with_reducible rfl))
              try simp only [Act.put, List.setIfInBounds_toArray, List.set_cons_zero, List.set_cons_succ]
              first
                | (refine heldI_skip 9 51 rfl (by kernel_rfl) (by kernel_rfl) (by kernel_rfl) rfl (fun _ _ _ h => h) (by rfl) (by assumption) ?_)
                | (refine heldI_take 9 51 ?vv298 rfl (by kernel_rfl) (by kernel_rfl) (by kernel_rfl) rfl (fun _ _ _ h => h) (by rfl) ?hy298 (by assumption) ?rest298
                   case hy298 => (intro w hSw; (try dsimp only at hSw); go_simp; try with_reducible rfl))
              try simp only [Act.put, List.setIfInBounds_toArray, List.set_cons_zero, List.set_cons_succ]
              first
                | (refine heldI_skip 10 52 rfl (by kernel_rfl) (by kernel_rfl) (by kernel_rfl) rfl (fun _ _ _ h => h) (by rfl) (by assumption) ?_)
                | (refine heldI_take 10 52 ?vv299 rfl (by kernel_rfl) (by kernel_rfl) (by kernel_rfl) rfl (fun _ _ _ h => h) (by rfl) ?hy299 (by assumption) ?rest299
                   case hy299 => (intro w hSw; (try dsimp only at hSw); go_simp; try with_reducible rfl))
              try simp only [Act.put, List.setIfInBounds_toArray, List.set_cons_zero, List.set_cons_succ]
              first
                | (refine heldI_skip 11 53 rfl (by kernel_rfl) (by kernel_rfl) (by kernel_rfl) rfl (fun _ _ _ h => h) (by rfl) (by assumption) ?_)
                | (refine heldI_take 11 53 ?vv300 rfl (by kernel_rfl) (by kernel_rfl) (by kernel_rfl) rfl (fun _ _ _ h => h) (by rfl) ?hy300 (by assumption) ?rest300
                   case hy300 => (intro w hSw; (try dsimp only at hSw); go_simp; try with_reducible rfl))
              try simp only [Act.put, List.setIfInBounds_toArray, List.set_cons_zero, List.set_cons_succ]
              first
                | (refine heldI_skip 12 54 rfl (by kernel_rfl) (by kernel_rfl) (by kernel_rfl) rfl (fun _ _ _ h => h) (by rfl) (by assumption) ?_)
                | (refine heldI_take 12 54 ?vv301 rfl (by kernel_rfl) (by kernel_rfl) (by kernel_rfl) rfl (fun _ _ _ h => h) (by rfl) ?hy301 (by assumption) ?rest301
                   case hy301 => (intro w hSw; (try dsimp only at hSw); go_simp; try with_reducible rfl))
              try simp only [Act.put, List.setIfInBounds_toArray, List.set_cons_zero, List.set_cons_succ]
              first
                | (refine heldI_skip 13 55 rfl (by kernel_rfl) (by kernel_rfl) (by kernel_rfl) rfl (fun _ _ _ h => h) (by rfl) (by assumption) ?_)
                | (refine heldI_take 13 55 ?vv302 rfl (by kernel_rfl) (by kernel_rfl) (by kernel_rfl) rfl (fun _ _ _ h => h) (by rfl) ?hy302 (by assumption) ?rest302
                   case hy302 => (intro w hSw; (try dsimp only at hSw); go_simp; try with_reducible rfl))
              try simp only [Act.put, List.setIfInBounds_toArray, List.set_cons_zero, List.set_cons_succ]
              first
                | (refine heldI_skip 14 56 rfl (by kernel_rfl) (by kernel_rfl) (by kernel_rfl) rfl (fun _ _ _ h => h) (by rfl) (by assumption) ?_)
                | (refine heldI_take 14 56 ?vv303 rfl (by kernel_rfl) (by kernel_rfl) (by kernel_rfl) rfl (fun _ _ _ h => h) (by rfl) ?hy303 (by assumption) ?rest303
                   case hy303 => (intro w hSw; (try dsimp only at hSw); go_simp; try with_reducible rfl))
              try simp only [Act.put, List.setIfInBounds_toArray, List.set_cons_zero, List.set_cons_succ]
              first
                | (refine heldI_skip 15 57 rfl (by kernel_rfl) (by kernel_rfl) (by kernel_rfl) rfl (fun _ _ _ h => h) (by rfl) (by assumption) ?_)
                | (refine heldI_take 15 57 ?vv304 rfl (by kernel_rfl) (by kernel_rfl) (by kernel_rfl) rfl (fun _ _ _ h => h) (by rfl) ?hy304 (by assumption) ?rest304
                   case hy304 => (intro w hSw; (try dsimp only at hSw); go_simp; try with_reducible rfl))
              try simp only [Act.put, List.setIfInBounds_toArray, List.set_cons_zero, List.set_cons_succ]
              first
                | (refine heldI_skip 16 58 rfl (by kernel_rfl) (by kernel_rfl) (by kernel_rfl) rfl (fun _ _ _ h => h) (by rfl) (by assumption) ?_)
                | (refine heldI_take 16 58 ?vv305 rfl (by kernel_rfl) (by kernel_rfl) (by kernel_rfl) rfl (fun _ _ _ h => h) (by rfl) ?hy305 (by assumption) ?rest305
                   case hy305 => (intro w hSw; (try dsimp only at hSw); go_simp; try with_reducible rfl))
              try simp only [Act.put, List.setIfInBounds_toArray, List.set_cons_zero, List.set_cons_succ]
              first
                | (refine heldI_skip 17 59 rfl (by kernel_rfl) (by kernel_rfl) (by kernel_rfl) rfl (fun _ _ _ h => h) (by rfl) (by assumption) ?_)
                | (refine heldI_take 17 59 ?vv306 rfl (by kernel_rfl) (by kernel_rfl) (by kernel_rfl) rfl (fun _ _ _ h => h) (by rfl) ?hy306 (by assumption) ?rest306
                   case hy306 => (intro w hSw; (try dsimp only at hSw); go_simp; try with_reducible rfl))
              try simp only [Act.put, List.setIfInBounds_toArray, List.set_cons_zero, List.set_cons_succ]
              first
                | (refine heldI_skip 18 60 rfl (by kernel_rfl) (by kernel_rfl) (by kernel_rfl) rfl (fun _ _ _ h => h) (by rfl) (by assumption) ?_)
                | (refine heldI_take 18 60 ?vv307 rfl (by kernel_rfl) (by kernel_rfl) (by kernel_rfl) rfl (fun _ _ _ h => h) (by rfl) ?hy307 (by assumption) ?rest307
                   case hy307 => (intro w hSw; (try dsimp only at hSw); go_simp; try with_reducible rfl))
              try simp only [Act.put, List.setIfInBounds_toArray, List.set_cons_zero, List.set_cons_succ]
              first
                | (refine heldI_skip 19 61 rfl (by kernel_rfl) (by kernel_rfl) (by kernel_rfl) rfl (fun _ _ _ h => h) (by rfl) (by assumption) ?_)
                | (refine heldI_take 19 61 ?vv308 rfl (by kernel_rfl) (by kernel_rfl) (by kernel_rfl) rfl (fun _ _ _ h => h) (by rfl) ?hy308 (by assumption) ?rest308
                   case hy308 => (intro w hSw; (try dsimp only at hSw); go_simp; try with_reducible rfl))
              try simp only [Act.put, List.setIfInBounds_toArray, List.set_cons_zero, List.set_cons_succ]
              refine wpAnyH_done (by kernel_rfl) ?_ _
              clear hHeld g0 g1
              have HBV := hide (Below.drew HBW.out)
              have OWV := hide (OWW.out.drew)
              generalize W.drew = V at HBV OWV ⊢
              have HCV : Hid (seekK zs zs.length f o r m (k + 1) = if (seekO zs zs.length f (o ++ [k]) r (seekK zs zs.length f o r m k).2).2 < (seekK zs zs.length f o r m k).2 then seekO zs zs.length f (o ++ [k]) r (seekK zs zs.length f o r m k).2 else seekK zs zs.length f o r m k) := hide (by rw [seekK_in HNC.out, HTU.out, Int.add_zero])
              have HQV := hide (rd_step HQ.out HBV.out)
              have HRV := hide (rd_step HR.out HBV.out)
              obtain ⟨hi, hz0, hz1, hz2⟩ := HI.out
              go_wp2_with fail
              refine (l1Own_any q L d (numO o) V HQL.out (by omega) HQV.out).mono ?_
              rintro e V2 ⟨vo, rfl, ho, hb⟩
              have qV2 := hide hb
              have HO2 := hide ho
              have hsv := hb.size
              clear ho hb
              go_wp2_with (at_builtin; refine wpList_append_own _ rfl _ _ 34 rfl V.heap.size 3 i0 (.int .i64 0) 1 8 Try.underlying34 hi hz0 hz1 hz2 rfl (by decide) _ L _ rfl (HO2.out.alloc _) ⟨V2.heap.size, 0, none⟩ 1 1 [.int .i64 ((k : Int) + 1)] rfl rfl ?c1 ?c2 ?c3 ?c4 ?c5 ?_)
              case c1 => exact news_at #[.int .i64 ((k : Int) + 1)]
              case c2 => intro u hu; simp at hu; subst hu; rfl
              case c3 => unfold maxLen; omega
              case c4 => omega
              case c5 => simp; omega
              intro v3 V3 hown3 hgrow3 _
              have qV3 : Below V.heap.size V V3 := bl_grown (qV2.out.alloc hsv _) (HO2.out.alloc _) (Nat.le_refl _) hgrow3
              have ho3 : V3.ownsRow V.heap.size 3 1 v3 (L + 1) ((numO (o ++ [k])).flatMap encI) := by rw [numO_snoc, flat_snoc]; exact hown3
              rcases own_form encI_len ho3 HNL.out with ⟨_, hL0, _⟩ | ⟨g3, cap3, cs3, rfl, hg3, hB3, hs3, hnc3, hm3, ht3⟩
              · omega
              have HQ3 := hide (own_rd' encI_len ho3 HNL.out)
              have HBV3 := hide (bl_step HBV.out qV3)
              have OWV3 := hide (own_step OWV.out qV3)
              have HRV3 := hide (rd_step HRV.out qV3)
              have HIH := hide (ih (o ++ [k]) ⟨g3, 0, none⟩ (L + 1) cap3 r (seekK zs zs.length f o r m k).2 V3 HRV3.out HOK2.out HLF.out HOL.out HQ3.out (by omega) (by omega))
              clear hown3 hgrow3 ho3 hB3 hs3 ht3 qV3 hi hz0 hz1 hz2 HQV HO2 qV2
              generalize seekO zs zs.length f (o ++ [k]) r (seekK zs zs.length f o r m k).2 = C at HIH HCV
              generalize seekK zs zs.length f o r m k = Bk at HIH HCV OWV3 ⊢
              go_wp2_with fail
              refine HIH.out.mono ?_
              rintro e V4 ⟨v4, rfl, ho4, hb⟩
              have HBV4 := hide (bl_step HBV3.out hb)
              have OWV4 := hide (own_step OWV3.out hb)
              have HO4 := hide (own_baseG ho4 HBV3.out.size)
              clear ho4 hb HIH
              by_cases hlc : C.2 < Bk.2
              · have HN : Hid (seekK zs zs.length f o r m (k + 1) = C) := hide (by rw [HCV.out, if_pos hlc])
                go_wp2
                go_roundg (n - (k + 1))
                case measure => omega
                case rel => exact ⟨k + 1, by omega, by omega, by rw [HN.out], by go_num, by rw [HN.out]; exact HO4.out, HBV4.out⟩
              · have HN : Hid (seekK zs zs.length f o r m (k + 1) = Bk) := hide (by rw [HCV.out, if_neg hlc])
                go_wp2
                go_roundg (n - (k + 1))
                case measure => omega
                case rel => exact ⟨k + 1, by omega, by omega, by rw [HN.out], by go_num, by rw [HN.out]; exact OWV4.out, HBV4.out⟩
            · have hLp : 0 < L := by omega
              obtain ⟨jl, hjl⟩ : ∃ jl, L = jl + 1 := ⟨L - 1, by omega⟩
              have hjo : jl < o.length := by rw [HLO.out]; omega
              obtain ⟨jy, hjy⟩ : ∃ jy, jy = o[jl]! := ⟨_, rfl⟩
              have hjn : jy < n := by rw [hjy, ← HZ.out]; exact HOO.out.2 _ (bang_mem hjo)
              obtain ⟨y, hy, hyc⟩ := hat jy (by rw [HZ.out]; exact hjn)
              have HYB : Hid (zs[o[o.length - 1]!]! = y) := hide (by rw [HLO.out, hjl, Nat.add_sub_cancel, ← hjy]; exact getB hy)
              have HYI := hide (atlas_at HA.out hy)
              have HL0 : Hid (0 < o.length) := hide (by omega)
              obtain ⟨qb, qo, hqe, hqb, hqat⟩ := rdI HQ.out (by rw [HQL.out]; exact hLp)
              cases hqe
              obtain ⟨u, hu, huc⟩ := hqat jl (by rw [HQL.out]; omega)
              obtain rfl : u = (jy : Int) + 1 := by rw [numO_at hjo, ← hjy] at hu; injection hu with hu; exact hu.symm
              obtain ⟨hqW, o0⟩ := huc W HBW.out
              obtain ⟨hbW, y0, y1, y2, y3⟩ := hyc W HBW.out
              obtain ⟨_, x0, x1, x2, x3⟩ := hxc W HBW.out
              have j0 : (0 : Int) < (L : Int) := by omega
              have j1 : (L : Int) - 1 = (jl : Int) := by omega
              have j2 : IntKind.i64.wrap ((L : Int) - 1) = (jl : Int) := by rw [j1]; exact IntWalk.i64_in _ (by omega)
              have j3 : (jl : Int) < (L : Int) := by omega
              have j4 : (0 : Int) ≤ (jl : Int) := by omega
              have j5 : (0 : Int) ≤ (jy : Int) := by omega
              have j6 : (jy : Int) < (n : Int) := by omega
              have j7 : (0 : Int) ≤ (k : Int) := by omega
              have j8 : (k : Int) < (n : Int) := by omega
              have j9 : IntKind.i64.wrap (jy : Int) = (jy : Int) := IntWalk.i64_in _ (by omega)
              have j10 : IntKind.i64.wrap (k : Int) = (k : Int) := IntWalk.i64_in _ (by omega)
              have j11 : IntKind.i64.wrap (jl : Int) = (jl : Int) := IntWalk.i64_in _ (by omega)
              have HJL := hide hjl
              clear hx hxc hy hyc hu huc hqat hat hjy hjo hL0 hjl
              cases hbs : besB y x with
              | true =>
                have HBS := hide hbs
                have HTU : Hid (turnO zs o k = 0) := hide (turn_no HYB.out HXB.out hbs)
                clear hbs
                go_wp2_with fail
                refine wp_region_held_drew (S := fun w' => w'.cell? ⟨qb, qo + jl, none⟩ = some (.int .i64 ((jy : Int) + 1)) ∧ w'.cell? ⟨b, off + jy * 4, none⟩ = some (.int .i64 y.n) ∧ w'.cell? ⟨b, off + jy * 4 + 1, none⟩ = some (.int .i64 y.r) ∧ w'.cell? ⟨b, off + jy * 4 + 2, none⟩ = some (.int .i64 y.c) ∧ w'.cell? ⟨b, off + jy * 4 + 3, none⟩ = some (.int .i64 y.l) ∧ w'.cell? ⟨b, off + k * 4, none⟩ = some (.int .i64 x.n) ∧ w'.cell? ⟨b, off + k * 4 + 1, none⟩ = some (.int .i64 x.r) ∧ w'.cell? ⟨b, off + k * 4 + 2, none⟩ = some (.int .i64 x.c) ∧ w'.cell? ⟨b, off + k * 4 + 3, none⟩ = some (.int .i64 x.l) ∧ Below W.heap.size W w') (by kernel_rfl) ⟨o0, y0, y1, y2, y3, x0, x1, x2, x3, (Below.refl _ _).drew⟩ (fun hHeld => ?_)
                first
                  | (refine heldI_skip 0 42 rfl (by kernel_rfl) (by kernel_rfl) (by kernel_rfl) rfl (fun _ _ _ h => h) (by rfl) (by assumption) ?_)
                  | (refine heldI_take 0 42 ?vv309 rfl (by kernel_rfl) (by kernel_rfl) (by kernel_rfl) rfl (fun _ _ _ h => h) (by rfl) ?hy309 (by assumption) ?rest309
                     case hy309 => (intro w hSw; (try dsimp only at hSw); go_simp; try with_reducible rfl))
                try simp only [Act.put, List.setIfInBounds_toArray, List.set_cons_zero, List.set_cons_succ]
                first
                  | (refine heldI_skip 1 43 rfl (by kernel_rfl) (by kernel_rfl) (by kernel_rfl) rfl (fun _ _ _ h => h) (by rfl) (by assumption) ?_)
                  | (refine heldI_take 1 43 ?vv310 rfl (by kernel_rfl) (by kernel_rfl) (by kernel_rfl) rfl (fun _ _ _ h => h) (by rfl) ?hy310 (by assumption) ?rest310
                     case hy310 => (intro w hSw; (try dsimp only at hSw); go_simp; try with_reducible rfl))
                try simp only [Act.put, List.setIfInBounds_toArray, List.set_cons_zero, List.set_cons_succ]
                first
                  | (refine heldI_skip 2 44 rfl (by kernel_rfl) (by kernel_rfl) (by kernel_rfl) rfl (fun _ _ _ h => h) (by rfl) (by assumption) ?_)
                  | (refine heldI_take 2 44 ?vv311 rfl (by kernel_rfl) (by kernel_rfl) (by kernel_rfl) rfl (fun _ _ _ h => h) (by rfl) ?hy311 (by assumption) ?rest311
                     case hy311 => (intro w hSw; (try dsimp only at hSw); go_simp; try with_reducible rfl))
                try simp only [Act.put, List.setIfInBounds_toArray, List.set_cons_zero, List.set_cons_succ]
                first
                  | (refine heldI_skip 3 45 rfl (by kernel_rfl) (by kernel_rfl) (by kernel_rfl) rfl (fun _ _ _ h => h) (by rfl) (by assumption) ?_)
                  | (refine heldI_take 3 45 ?vv312 rfl (by kernel_rfl) (by kernel_rfl) (by kernel_rfl) rfl (fun _ _ _ h => h) (by rfl) ?hy312 (by assumption) ?rest312
                     case hy312 => (intro w hSw; (try dsimp only at hSw); go_simp; try with_reducible rfl))
                try simp only [Act.put, List.setIfInBounds_toArray, List.set_cons_zero, List.set_cons_succ]
                first
                  | (refine heldI_skip 4 46 rfl (by kernel_rfl) (by kernel_rfl) (by kernel_rfl) rfl (fun _ _ _ h => h) (by rfl) (by assumption) ?_)
                  | (refine heldI_take 4 46 ?vv313 rfl (by kernel_rfl) (by kernel_rfl) (by kernel_rfl) rfl (fun _ _ _ h => h) (by rfl) ?hy313 (by assumption) ?rest313
                     case hy313 => (intro w hSw; (try dsimp only at hSw); go_simp; try with_reducible rfl))
                try simp only [Act.put, List.setIfInBounds_toArray, List.set_cons_zero, List.set_cons_succ]
                first
                  | (refine heldI_skip 5 47 rfl (by kernel_rfl) (by kernel_rfl) (by kernel_rfl) rfl (fun _ _ _ h => h) (by rfl) (by assumption) ?_)
                  | (refine heldI_take 5 47 ?vv314 rfl (by kernel_rfl) (by kernel_rfl) (by kernel_rfl) rfl (fun _ _ _ h => h) (by rfl) ?hy314 (by assumption) ?rest314
                     case hy314 => (intro w hSw; (try dsimp only at hSw); go_simp; try with_reducible rfl))
                try simp only [Act.put, List.setIfInBounds_toArray, List.set_cons_zero, List.set_cons_succ]
                first
                  | (refine heldI_skip 6 48 rfl (by kernel_rfl) (by kernel_rfl) (by kernel_rfl) rfl (fun _ _ _ h => h) (by rfl) (by assumption) ?_)
                  | (refine heldI_take 6 48 ?vv315 rfl (by kernel_rfl) (by kernel_rfl) (by kernel_rfl) rfl (fun _ _ _ h => h) (by rfl) ?hy315 (by assumption) ?rest315
                     case hy315 => (intro w hSw; (try dsimp only at hSw); go_simp; try with_reducible rfl))
                try simp only [Act.put, List.setIfInBounds_toArray, List.set_cons_zero, List.set_cons_succ]
                first
                  | (refine heldI_skip 7 49 rfl (by kernel_rfl) (by kernel_rfl) (by kernel_rfl) rfl (fun _ _ _ h => h) (by rfl) (by assumption) ?_)
                  | (refine heldI_take 7 49 ?vv316 rfl (by kernel_rfl) (by kernel_rfl) (by kernel_rfl) rfl (fun _ _ _ h => h) (by rfl) ?hy316 (by assumption) ?rest316
                     case hy316 => (intro w hSw; (try dsimp only at hSw); go_simp; try with_reducible rfl))
                try simp only [Act.put, List.setIfInBounds_toArray, List.set_cons_zero, List.set_cons_succ]
                first
                  | (refine heldI_skip 8 50 rfl (by kernel_rfl) (by kernel_rfl) (by kernel_rfl) rfl (fun _ _ _ h => h) (by rfl) (by assumption) ?_)
                  | (refine heldI_take 8 50 ?vv317 rfl (by kernel_rfl) (by kernel_rfl) (by kernel_rfl) rfl (fun _ _ _ h => h) (by rfl) ?hy317 (by assumption) ?rest317
                     case hy317 => (intro w hSw; (try dsimp only at hSw); go_simp; try with_reducible rfl))
                try simp only [Act.put, List.setIfInBounds_toArray, List.set_cons_zero, List.set_cons_succ]
                first
                  | (refine heldI_skip 9 51 rfl (by kernel_rfl) (by kernel_rfl) (by kernel_rfl) rfl (fun _ _ _ h => h) (by rfl) (by assumption) ?_)
                  | (refine heldI_take 9 51 ?vv318 rfl (by kernel_rfl) (by kernel_rfl) (by kernel_rfl) rfl (fun _ _ _ h => h) (by rfl) ?hy318 (by assumption) ?rest318
                     case hy318 => (intro w hSw; (try dsimp only at hSw); go_simp; try with_reducible rfl))
                try simp only [Act.put, List.setIfInBounds_toArray, List.set_cons_zero, List.set_cons_succ]
                first
                  | (refine heldI_skip 10 52 rfl (by kernel_rfl) (by kernel_rfl) (by kernel_rfl) rfl (fun _ _ _ h => h) (by rfl) (by assumption) ?_)
                  | (refine heldI_take 10 52 ?vv319 rfl (by kernel_rfl) (by kernel_rfl) (by kernel_rfl) rfl (fun _ _ _ h => h) (by rfl) ?hy319 (by assumption) ?rest319
                     case hy319 => (intro w hSw; (try dsimp only at hSw); go_simp; try with_reducible rfl))
                try simp only [Act.put, List.setIfInBounds_toArray, List.set_cons_zero, List.set_cons_succ]
                first
                  | (refine heldI_skip 11 53 rfl (by kernel_rfl) (by kernel_rfl) (by kernel_rfl) rfl (fun _ _ _ h => h) (by rfl) (by assumption) ?_)
                  | (refine heldI_take 11 53 ?vv320 rfl (by kernel_rfl) (by kernel_rfl) (by kernel_rfl) rfl (fun _ _ _ h => h) (by rfl) ?hy320 (by assumption) ?rest320
                     case hy320 => (intro w hSw; (try dsimp only at hSw); go_simp; try with_reducible rfl))
                try simp only [Act.put, List.setIfInBounds_toArray, List.set_cons_zero, List.set_cons_succ]
                first
                  | (refine heldI_skip 12 54 rfl (by kernel_rfl) (by kernel_rfl) (by kernel_rfl) rfl (fun _ _ _ h => h) (by rfl) (by assumption) ?_)
                  | (refine heldI_take 12 54 ?vv321 rfl (by kernel_rfl) (by kernel_rfl) (by kernel_rfl) rfl (fun _ _ _ h => h) (by rfl) ?hy321 (by assumption) ?rest321
                     case hy321 => (intro w hSw; (try dsimp only at hSw); go_simp; try with_reducible rfl))
                try simp only [Act.put, List.setIfInBounds_toArray, List.set_cons_zero, List.set_cons_succ]
                first
                  | (refine heldI_skip 13 55 rfl (by kernel_rfl) (by kernel_rfl) (by kernel_rfl) rfl (fun _ _ _ h => h) (by rfl) (by assumption) ?_)
                  | (refine heldI_take 13 55 ?vv322 rfl (by kernel_rfl) (by kernel_rfl) (by kernel_rfl) rfl (fun _ _ _ h => h) (by rfl) ?hy322 (by assumption) ?rest322
                     case hy322 => (intro w hSw; (try dsimp only at hSw); go_simp; try with_reducible rfl))
                try simp only [Act.put, List.setIfInBounds_toArray, List.set_cons_zero, List.set_cons_succ]
                first
                  | (refine heldI_skip 14 56 rfl (by kernel_rfl) (by kernel_rfl) (by kernel_rfl) rfl (fun _ _ _ h => h) (by rfl) (by assumption) ?_)
                  | (refine heldI_take 14 56 ?vv323 rfl (by kernel_rfl) (by kernel_rfl) (by kernel_rfl) rfl (fun _ _ _ h => h) (by rfl) ?hy323 (by assumption) ?rest323
                     case hy323 => (intro w hSw; (try dsimp only at hSw); go_simp; try with_reducible rfl))
                try simp only [Act.put, List.setIfInBounds_toArray, List.set_cons_zero, List.set_cons_succ]
                first
                  | (refine heldI_skip 15 57 rfl (by kernel_rfl) (by kernel_rfl) (by kernel_rfl) rfl (fun _ _ _ h => h) (by rfl) (by assumption) ?_)
                  | (refine heldI_take 15 57 ?vv324 rfl (by kernel_rfl) (by kernel_rfl) (by kernel_rfl) rfl (fun _ _ _ h => h) (by rfl) ?hy324 (by assumption) ?rest324
                     case hy324 => (intro w hSw; (try dsimp only at hSw); go_simp; try with_reducible rfl))
                try simp only [Act.put, List.setIfInBounds_toArray, List.set_cons_zero, List.set_cons_succ]
                first
                  | (refine heldI_skip 16 58 rfl (by kernel_rfl) (by kernel_rfl) (by kernel_rfl) rfl (fun _ _ _ h => h) (by rfl) (by assumption) ?_)
                  | (refine heldI_take 16 58 ?vv325 rfl (by kernel_rfl) (by kernel_rfl) (by kernel_rfl) rfl (fun _ _ _ h => h) (by rfl) ?hy325 (by assumption) ?rest325
                     case hy325 => (intro w hSw; (try dsimp only at hSw); go_simp; try with_reducible rfl))
                try simp only [Act.put, List.setIfInBounds_toArray, List.set_cons_zero, List.set_cons_succ]
                refine wpAnyH_ready (rs := [17]) (by kernel_rfl) (by simp) ?_
                refine AllReadyH.cons rfl (fun K hK => ?_) AllReadyH.nil
                go_simp
                refine (l13Beside_any y x HYI.out HXI.out _).mono ?_
                rintro e w2 ⟨rfl, hb⟩
                rw [HBS.out]
                go_wp2_with fail
                have hq := Below.trans hHeld.2.2.2.2.2.2.2.2.2 (Below.mono hb hHeld.2.2.2.2.2.2.2.2.2.size)
                refine hK.out _ _ ⟨(hq.cell (p := ⟨qb, qo + jl, none⟩) hqW).trans o0, (hq.cell (p := ⟨b, off + jy * 4, none⟩) hbW).trans y0, (hq.cell (p := ⟨b, off + jy * 4 + 1, none⟩) hbW).trans y1, (hq.cell (p := ⟨b, off + jy * 4 + 2, none⟩) hbW).trans y2, (hq.cell (p := ⟨b, off + jy * 4 + 3, none⟩) hbW).trans y3, (hq.cell (p := ⟨b, off + k * 4, none⟩) hbW).trans x0, (hq.cell (p := ⟨b, off + k * 4 + 1, none⟩) hbW).trans x1, (hq.cell (p := ⟨b, off + k * 4 + 2, none⟩) hbW).trans x2, (hq.cell (p := ⟨b, off + k * 4 + 3, none⟩) hbW).trans x3, hq⟩ (fun hHeld => ?_)
                clear hq hb hK K
                try simp only [Act.put, List.setIfInBounds_toArray, List.set_cons_zero, List.set_cons_succ]
                first
                  | (refine heldI_skip 18 60 rfl (by kernel_rfl) (by kernel_rfl) (by kernel_rfl) rfl (fun _ _ _ h => h) (by rfl) (by assumption) ?_)
                  | (refine heldI_take 18 60 ?vv326 rfl (by kernel_rfl) (by kernel_rfl) (by kernel_rfl) rfl (fun _ _ _ h => h) (by rfl) ?hy326 (by assumption) ?rest326
                     case hy326 => (intro w hSw; (try dsimp only at hSw); go_simp; try with_reducible rfl))
                try simp only [Act.put, List.setIfInBounds_toArray, List.set_cons_zero, List.set_cons_succ]
                first
                  | (refine heldI_skip 19 61 rfl (by kernel_rfl) (by kernel_rfl) (by kernel_rfl) rfl (fun _ _ _ h => h) (by rfl) (by assumption) ?_)
                  | (refine heldI_take 19 61 ?vv327 rfl (by kernel_rfl) (by kernel_rfl) (by kernel_rfl) rfl (fun _ _ _ h => h) (by rfl) ?hy327 (by assumption) ?rest327
                     case hy327 => (intro w hSw; (try dsimp only at hSw); go_simp; try with_reducible rfl))
                try simp only [Act.put, List.setIfInBounds_toArray, List.set_cons_zero, List.set_cons_succ]
                refine wpAnyH_done (by kernel_rfl) ?_ _
                have HB2 := hide hHeld.2.2.2.2.2.2.2.2.2
                clear hHeld o0 y0 y1 y2 y3 x0 x1 x2 x3
                have HBV := hide (HBW.out.trans (HB2.out.mono HBW.out.size))
                have OWV := hide (own_step OWW.out HB2.out)
                obtain ⟨V, hV⟩ : ∃ V, V = w2 := ⟨_, rfl⟩
                subst hV
                have HCV : Hid (seekK zs zs.length f o r m (k + 1) = if (seekO zs zs.length f (o ++ [k]) r (seekK zs zs.length f o r m k).2).2 < (seekK zs zs.length f o r m k).2 then seekO zs zs.length f (o ++ [k]) r (seekK zs zs.length f o r m k).2 else seekK zs zs.length f o r m k) := hide (by rw [seekK_in HNC.out, HTU.out, Int.add_zero])
                have HQV := hide (rd_step HQ.out HBV.out)
                have HRV := hide (rd_step HR.out HBV.out)
                obtain ⟨hi, hz0, hz1, hz2⟩ := HI.out
                go_wp2_with fail
                refine (l1Own_any ⟨qb, qo, none⟩ L d (numO o) V HQL.out (by omega) HQV.out).mono ?_
                rintro e V2 ⟨vo, rfl, ho, hb⟩
                have qV2 := hide hb
                have HO2 := hide ho
                have hsv := hb.size
                clear ho hb
                go_wp2_with (at_builtin; refine wpList_append_own _ rfl _ _ 34 rfl V.heap.size 3 i0 (.int .i64 0) 1 8 Try.underlying34 hi hz0 hz1 hz2 rfl (by decide) _ L _ rfl (HO2.out.alloc _) ⟨V2.heap.size, 0, none⟩ 1 1 [.int .i64 ((k : Int) + 1)] rfl rfl ?c1 ?c2 ?c3 ?c4 ?c5 ?_)
                case c1 => exact news_at #[.int .i64 ((k : Int) + 1)]
                case c2 => intro u hu; simp at hu; subst hu; rfl
                case c3 => unfold maxLen; omega
                case c4 => omega
                case c5 => simp; omega
                intro v3 V3 hown3 hgrow3 _
                have qV3 : Below V.heap.size V V3 := bl_grown (qV2.out.alloc hsv _) (HO2.out.alloc _) (Nat.le_refl _) hgrow3
                have ho3 : V3.ownsRow V.heap.size 3 1 v3 (L + 1) ((numO (o ++ [k])).flatMap encI) := by rw [numO_snoc, flat_snoc]; exact hown3
                rcases own_form encI_len ho3 HNL.out with ⟨_, hL0, _⟩ | ⟨g3, cap3, cs3, rfl, hg3, hB3, hs3, hnc3, hm3, ht3⟩
                · omega
                have HQ3 := hide (own_rd' encI_len ho3 HNL.out)
                have HBV3 := hide (bl_step HBV.out qV3)
                have OWV3 := hide (own_step OWV.out qV3)
                have HRV3 := hide (rd_step HRV.out qV3)
                have HIH := hide (ih (o ++ [k]) ⟨g3, 0, none⟩ (L + 1) cap3 r (seekK zs zs.length f o r m k).2 V3 HRV3.out HOK2.out HLF.out HOL.out HQ3.out (by omega) (by omega))
                clear hown3 hgrow3 ho3 hB3 hs3 ht3 qV3 hi hz0 hz1 hz2 HQV HO2 qV2
                generalize seekO zs zs.length f (o ++ [k]) r (seekK zs zs.length f o r m k).2 = C at HIH HCV
                generalize seekK zs zs.length f o r m k = Bk at HIH HCV OWV3 ⊢
                go_wp2_with fail
                refine HIH.out.mono ?_
                rintro e V4 ⟨v4, rfl, ho4, hb⟩
                have HBV4 := hide (bl_step HBV3.out hb)
                have OWV4 := hide (own_step OWV3.out hb)
                have HO4 := hide (own_baseG ho4 HBV3.out.size)
                clear ho4 hb HIH
                by_cases hlc : C.2 < Bk.2
                · have HN : Hid (seekK zs zs.length f o r m (k + 1) = C) := hide (by rw [HCV.out, if_pos hlc])
                  go_wp2
                  go_roundg (n - (k + 1))
                  case measure => omega
                  case rel => exact ⟨k + 1, by omega, by omega, by rw [HN.out], by go_num, by rw [HN.out]; exact HO4.out, HBV4.out⟩
                · have HN : Hid (seekK zs zs.length f o r m (k + 1) = Bk) := hide (by rw [HCV.out, if_neg hlc])
                  go_wp2
                  go_roundg (n - (k + 1))
                  case measure => omega
                  case rel => exact ⟨k + 1, by omega, by omega, by rw [HN.out], by go_num, by rw [HN.out]; exact OWV4.out, HBV4.out⟩
              | false =>
                have HBS := hide hbs
                have HTU : Hid (turnO zs o k = 1) := hide (turn_yes HL0.out HYB.out HXB.out hbs)
                clear hbs
                go_wp2_with fail
                refine wp_region_held_drew (S := fun w' => w'.cell? ⟨qb, qo + jl, none⟩ = some (.int .i64 ((jy : Int) + 1)) ∧ w'.cell? ⟨b, off + jy * 4, none⟩ = some (.int .i64 y.n) ∧ w'.cell? ⟨b, off + jy * 4 + 1, none⟩ = some (.int .i64 y.r) ∧ w'.cell? ⟨b, off + jy * 4 + 2, none⟩ = some (.int .i64 y.c) ∧ w'.cell? ⟨b, off + jy * 4 + 3, none⟩ = some (.int .i64 y.l) ∧ w'.cell? ⟨b, off + k * 4, none⟩ = some (.int .i64 x.n) ∧ w'.cell? ⟨b, off + k * 4 + 1, none⟩ = some (.int .i64 x.r) ∧ w'.cell? ⟨b, off + k * 4 + 2, none⟩ = some (.int .i64 x.c) ∧ w'.cell? ⟨b, off + k * 4 + 3, none⟩ = some (.int .i64 x.l) ∧ Below W.heap.size W w') (by kernel_rfl) ⟨o0, y0, y1, y2, y3, x0, x1, x2, x3, (Below.refl _ _).drew⟩ (fun hHeld => ?_)
                first
                  | (refine heldI_skip 0 42 rfl (by kernel_rfl) (by kernel_rfl) (by kernel_rfl) rfl (fun _ _ _ h => h) (by rfl) (by assumption) ?_)
                  | (refine heldI_take 0 42 ?vv328 rfl (by kernel_rfl) (by kernel_rfl) (by kernel_rfl) rfl (fun _ _ _ h => h) (by rfl) ?hy328 (by assumption) ?rest328
                     case hy328 => (intro w hSw; (try dsimp only at hSw); go_simp; try with_reducible rfl))
                try simp only [Act.put, List.setIfInBounds_toArray, List.set_cons_zero, List.set_cons_succ]
                first
                  | (refine heldI_skip 1 43 rfl (by kernel_rfl) (by kernel_rfl) (by kernel_rfl) rfl (fun _ _ _ h => h) (by rfl) (by assumption) ?_)
                  | (refine heldI_take 1 43 ?vv329 rfl (by kernel_rfl) (by kernel_rfl) (by kernel_rfl) rfl (fun _ _ _ h => h) (by rfl) ?hy329 (by assumption) ?rest329
                     case hy329 => (intro w hSw; (try dsimp only at hSw); go_simp; try with_reducible rfl))
                try simp only [Act.put, List.setIfInBounds_toArray, List.set_cons_zero, List.set_cons_succ]
                first
                  | (refine heldI_skip 2 44 rfl (by kernel_rfl) (by kernel_rfl) (by kernel_rfl) rfl (fun _ _ _ h => h) (by rfl) (by assumption) ?_)
                  | (refine heldI_take 2 44 ?vv330 rfl (by kernel_rfl) (by kernel_rfl) (by kernel_rfl) rfl (fun _ _ _ h => h) (by rfl) ?hy330 (by assumption) ?rest330
                     case hy330 => (intro w hSw; (try dsimp only at hSw); go_simp; try with_reducible rfl))
                try simp only [Act.put, List.setIfInBounds_toArray, List.set_cons_zero, List.set_cons_succ]
                first
                  | (refine heldI_skip 3 45 rfl (by kernel_rfl) (by kernel_rfl) (by kernel_rfl) rfl (fun _ _ _ h => h) (by rfl) (by assumption) ?_)
                  | (refine heldI_take 3 45 ?vv331 rfl (by kernel_rfl) (by kernel_rfl) (by kernel_rfl) rfl (fun _ _ _ h => h) (by rfl) ?hy331 (by assumption) ?rest331
                     case hy331 => (intro w hSw; (try dsimp only at hSw); go_simp; try with_reducible rfl))
                try simp only [Act.put, List.setIfInBounds_toArray, List.set_cons_zero, List.set_cons_succ]
                first
                  | (refine heldI_skip 4 46 rfl (by kernel_rfl) (by kernel_rfl) (by kernel_rfl) rfl (fun _ _ _ h => h) (by rfl) (by assumption) ?_)
                  | (refine heldI_take 4 46 ?vv332 rfl (by kernel_rfl) (by kernel_rfl) (by kernel_rfl) rfl (fun _ _ _ h => h) (by rfl) ?hy332 (by assumption) ?rest332
                     case hy332 => (intro w hSw; (try dsimp only at hSw); go_simp; try with_reducible rfl))
                try simp only [Act.put, List.setIfInBounds_toArray, List.set_cons_zero, List.set_cons_succ]
                first
                  | (refine heldI_skip 5 47 rfl (by kernel_rfl) (by kernel_rfl) (by kernel_rfl) rfl (fun _ _ _ h => h) (by rfl) (by assumption) ?_)
                  | (refine heldI_take 5 47 ?vv333 rfl (by kernel_rfl) (by kernel_rfl) (by kernel_rfl) rfl (fun _ _ _ h => h) (by rfl) ?hy333 (by assumption) ?rest333
                     case hy333 => (intro w hSw; (try dsimp only at hSw); go_simp; try with_reducible rfl))
                try simp only [Act.put, List.setIfInBounds_toArray, List.set_cons_zero, List.set_cons_succ]
                first
                  | (refine heldI_skip 6 48 rfl (by kernel_rfl) (by kernel_rfl) (by kernel_rfl) rfl (fun _ _ _ h => h) (by rfl) (by assumption) ?_)
                  | (refine heldI_take 6 48 ?vv334 rfl (by kernel_rfl) (by kernel_rfl) (by kernel_rfl) rfl (fun _ _ _ h => h) (by rfl) ?hy334 (by assumption) ?rest334
                     case hy334 => (intro w hSw; (try dsimp only at hSw); go_simp; try with_reducible rfl))
                try simp only [Act.put, List.setIfInBounds_toArray, List.set_cons_zero, List.set_cons_succ]
                first
                  | (refine heldI_skip 7 49 rfl (by kernel_rfl) (by kernel_rfl) (by kernel_rfl) rfl (fun _ _ _ h => h) (by rfl) (by assumption) ?_)
                  | (refine heldI_take 7 49 ?vv335 rfl (by kernel_rfl) (by kernel_rfl) (by kernel_rfl) rfl (fun _ _ _ h => h) (by rfl) ?hy335 (by assumption) ?rest335
                     case hy335 => (intro w hSw; (try dsimp only at hSw); go_simp; try with_reducible rfl))
                try simp only [Act.put, List.setIfInBounds_toArray, List.set_cons_zero, List.set_cons_succ]
                first
                  | (refine heldI_skip 8 50 rfl (by kernel_rfl) (by kernel_rfl) (by kernel_rfl) rfl (fun _ _ _ h => h) (by rfl) (by assumption) ?_)
                  | (refine heldI_take 8 50 ?vv336 rfl (by kernel_rfl) (by kernel_rfl) (by kernel_rfl) rfl (fun _ _ _ h => h) (by rfl) ?hy336 (by assumption) ?rest336
                     case hy336 => (intro w hSw; (try dsimp only at hSw); go_simp; try with_reducible rfl))
                try simp only [Act.put, List.setIfInBounds_toArray, List.set_cons_zero, List.set_cons_succ]
                first
                  | (refine heldI_skip 9 51 rfl (by kernel_rfl) (by kernel_rfl) (by kernel_rfl) rfl (fun _ _ _ h => h) (by rfl) (by assumption) ?_)
                  | (refine heldI_take 9 51 ?vv337 rfl (by kernel_rfl) (by kernel_rfl) (by kernel_rfl) rfl (fun _ _ _ h => h) (by rfl) ?hy337 (by assumption) ?rest337
                     case hy337 => (intro w hSw; (try dsimp only at hSw); go_simp; try with_reducible rfl))
                try simp only [Act.put, List.setIfInBounds_toArray, List.set_cons_zero, List.set_cons_succ]
                first
                  | (refine heldI_skip 10 52 rfl (by kernel_rfl) (by kernel_rfl) (by kernel_rfl) rfl (fun _ _ _ h => h) (by rfl) (by assumption) ?_)
                  | (refine heldI_take 10 52 ?vv338 rfl (by kernel_rfl) (by kernel_rfl) (by kernel_rfl) rfl (fun _ _ _ h => h) (by rfl) ?hy338 (by assumption) ?rest338
                     case hy338 => (intro w hSw; (try dsimp only at hSw); go_simp; try with_reducible rfl))
                try simp only [Act.put, List.setIfInBounds_toArray, List.set_cons_zero, List.set_cons_succ]
                first
                  | (refine heldI_skip 11 53 rfl (by kernel_rfl) (by kernel_rfl) (by kernel_rfl) rfl (fun _ _ _ h => h) (by rfl) (by assumption) ?_)
                  | (refine heldI_take 11 53 ?vv339 rfl (by kernel_rfl) (by kernel_rfl) (by kernel_rfl) rfl (fun _ _ _ h => h) (by rfl) ?hy339 (by assumption) ?rest339
                     case hy339 => (intro w hSw; (try dsimp only at hSw); go_simp; try with_reducible rfl))
                try simp only [Act.put, List.setIfInBounds_toArray, List.set_cons_zero, List.set_cons_succ]
                first
                  | (refine heldI_skip 12 54 rfl (by kernel_rfl) (by kernel_rfl) (by kernel_rfl) rfl (fun _ _ _ h => h) (by rfl) (by assumption) ?_)
                  | (refine heldI_take 12 54 ?vv340 rfl (by kernel_rfl) (by kernel_rfl) (by kernel_rfl) rfl (fun _ _ _ h => h) (by rfl) ?hy340 (by assumption) ?rest340
                     case hy340 => (intro w hSw; (try dsimp only at hSw); go_simp; try with_reducible rfl))
                try simp only [Act.put, List.setIfInBounds_toArray, List.set_cons_zero, List.set_cons_succ]
                first
                  | (refine heldI_skip 13 55 rfl (by kernel_rfl) (by kernel_rfl) (by kernel_rfl) rfl (fun _ _ _ h => h) (by rfl) (by assumption) ?_)
                  | (refine heldI_take 13 55 ?vv341 rfl (by kernel_rfl) (by kernel_rfl) (by kernel_rfl) rfl (fun _ _ _ h => h) (by rfl) ?hy341 (by assumption) ?rest341
                     case hy341 => (intro w hSw; (try dsimp only at hSw); go_simp; try with_reducible rfl))
                try simp only [Act.put, List.setIfInBounds_toArray, List.set_cons_zero, List.set_cons_succ]
                first
                  | (refine heldI_skip 14 56 rfl (by kernel_rfl) (by kernel_rfl) (by kernel_rfl) rfl (fun _ _ _ h => h) (by rfl) (by assumption) ?_)
                  | (refine heldI_take 14 56 ?vv342 rfl (by kernel_rfl) (by kernel_rfl) (by kernel_rfl) rfl (fun _ _ _ h => h) (by rfl) ?hy342 (by assumption) ?rest342
                     case hy342 => (intro w hSw; (try dsimp only at hSw); go_simp; try with_reducible rfl))
                try simp only [Act.put, List.setIfInBounds_toArray, List.set_cons_zero, List.set_cons_succ]
                first
                  | (refine heldI_skip 15 57 rfl (by kernel_rfl) (by kernel_rfl) (by kernel_rfl) rfl (fun _ _ _ h => h) (by rfl) (by assumption) ?_)
                  | (refine heldI_take 15 57 ?vv343 rfl (by kernel_rfl) (by kernel_rfl) (by kernel_rfl) rfl (fun _ _ _ h => h) (by rfl) ?hy343 (by assumption) ?rest343
                     case hy343 => (intro w hSw; (try dsimp only at hSw); go_simp; try with_reducible rfl))
                try simp only [Act.put, List.setIfInBounds_toArray, List.set_cons_zero, List.set_cons_succ]
                first
                  | (refine heldI_skip 16 58 rfl (by kernel_rfl) (by kernel_rfl) (by kernel_rfl) rfl (fun _ _ _ h => h) (by rfl) (by assumption) ?_)
                  | (refine heldI_take 16 58 ?vv344 rfl (by kernel_rfl) (by kernel_rfl) (by kernel_rfl) rfl (fun _ _ _ h => h) (by rfl) ?hy344 (by assumption) ?rest344
                     case hy344 => (intro w hSw; (try dsimp only at hSw); go_simp; try with_reducible rfl))
                try simp only [Act.put, List.setIfInBounds_toArray, List.set_cons_zero, List.set_cons_succ]
                refine wpAnyH_ready (rs := [17]) (by kernel_rfl) (by simp) ?_
                refine AllReadyH.cons rfl (fun K hK => ?_) AllReadyH.nil
                go_simp
                refine (l13Beside_any y x HYI.out HXI.out _).mono ?_
                rintro e w2 ⟨rfl, hb⟩
                rw [HBS.out]
                go_wp2_with fail
                have hq := Below.trans hHeld.2.2.2.2.2.2.2.2.2 (Below.mono hb hHeld.2.2.2.2.2.2.2.2.2.size)
                refine hK.out _ _ ⟨(hq.cell (p := ⟨qb, qo + jl, none⟩) hqW).trans o0, (hq.cell (p := ⟨b, off + jy * 4, none⟩) hbW).trans y0, (hq.cell (p := ⟨b, off + jy * 4 + 1, none⟩) hbW).trans y1, (hq.cell (p := ⟨b, off + jy * 4 + 2, none⟩) hbW).trans y2, (hq.cell (p := ⟨b, off + jy * 4 + 3, none⟩) hbW).trans y3, (hq.cell (p := ⟨b, off + k * 4, none⟩) hbW).trans x0, (hq.cell (p := ⟨b, off + k * 4 + 1, none⟩) hbW).trans x1, (hq.cell (p := ⟨b, off + k * 4 + 2, none⟩) hbW).trans x2, (hq.cell (p := ⟨b, off + k * 4 + 3, none⟩) hbW).trans x3, hq⟩ (fun hHeld => ?_)
                clear hq hb hK K
                try simp only [Act.put, List.setIfInBounds_toArray, List.set_cons_zero, List.set_cons_succ]
                first
                  | (refine heldI_skip 18 60 rfl (by kernel_rfl) (by kernel_rfl) (by kernel_rfl) rfl (fun _ _ _ h => h) (by rfl) (by assumption) ?_)
                  | (refine heldI_take 18 60 ?vv345 rfl (by kernel_rfl) (by kernel_rfl) (by kernel_rfl) rfl (fun _ _ _ h => h) (by rfl) ?hy345 (by assumption) ?rest345
                     case hy345 => (intro w hSw; (try dsimp only at hSw); go_simp; try with_reducible rfl))
                try simp only [Act.put, List.setIfInBounds_toArray, List.set_cons_zero, List.set_cons_succ]
                first
                  | (refine heldI_skip 19 61 rfl (by kernel_rfl) (by kernel_rfl) (by kernel_rfl) rfl (fun _ _ _ h => h) (by rfl) (by assumption) ?_)
                  | (refine heldI_take 19 61 ?vv346 rfl (by kernel_rfl) (by kernel_rfl) (by kernel_rfl) rfl (fun _ _ _ h => h) (by rfl) ?hy346 (by assumption) ?rest346
                     case hy346 => (intro w hSw; (try dsimp only at hSw); go_simp; try with_reducible rfl))
                try simp only [Act.put, List.setIfInBounds_toArray, List.set_cons_zero, List.set_cons_succ]
                refine wpAnyH_done (by kernel_rfl) ?_ _
                have HB2 := hide hHeld.2.2.2.2.2.2.2.2.2
                clear hHeld o0 y0 y1 y2 y3 x0 x1 x2 x3
                have HBV := hide (HBW.out.trans (HB2.out.mono HBW.out.size))
                have OWV := hide (own_step OWW.out HB2.out)
                obtain ⟨V, hV⟩ : ∃ V, V = w2 := ⟨_, rfl⟩
                subst hV
                have kr : IntKind.i64.wrap (r + 1) = r + 1 := IntWalk.i64_in _ (by omega)
                have HCV : Hid (seekK zs zs.length f o r m (k + 1) = if (seekO zs zs.length f (o ++ [k]) (r + 1) (seekK zs zs.length f o r m k).2).2 < (seekK zs zs.length f o r m k).2 then seekO zs zs.length f (o ++ [k]) (r + 1) (seekK zs zs.length f o r m k).2 else seekK zs zs.length f o r m k) := hide (by rw [seekK_in HNC.out, HTU.out])
                have HQV := hide (rd_step HQ.out HBV.out)
                have HRV := hide (rd_step HR.out HBV.out)
                obtain ⟨hi, hz0, hz1, hz2⟩ := HI.out
                go_wp2_with fail
                refine (l1Own_any ⟨qb, qo, none⟩ L d (numO o) V HQL.out (by omega) HQV.out).mono ?_
                rintro e V2 ⟨vo, rfl, ho, hb⟩
                have qV2 := hide hb
                have HO2 := hide ho
                have hsv := hb.size
                clear ho hb
                go_wp2_with (at_builtin; refine wpList_append_own _ rfl _ _ 34 rfl V.heap.size 3 i0 (.int .i64 0) 1 8 Try.underlying34 hi hz0 hz1 hz2 rfl (by decide) _ L _ rfl (HO2.out.alloc _) ⟨V2.heap.size, 0, none⟩ 1 1 [.int .i64 ((k : Int) + 1)] rfl rfl ?c1 ?c2 ?c3 ?c4 ?c5 ?_)
                case c1 => exact news_at #[.int .i64 ((k : Int) + 1)]
                case c2 => intro u hu; simp at hu; subst hu; rfl
                case c3 => unfold maxLen; omega
                case c4 => omega
                case c5 => simp; omega
                intro v3 V3 hown3 hgrow3 _
                have qV3 : Below V.heap.size V V3 := bl_grown (qV2.out.alloc hsv _) (HO2.out.alloc _) (Nat.le_refl _) hgrow3
                have ho3 : V3.ownsRow V.heap.size 3 1 v3 (L + 1) ((numO (o ++ [k])).flatMap encI) := by rw [numO_snoc, flat_snoc]; exact hown3
                rcases own_form encI_len ho3 HNL.out with ⟨_, hL0, _⟩ | ⟨g3, cap3, cs3, rfl, hg3, hB3, hs3, hnc3, hm3, ht3⟩
                · omega
                have HQ3 := hide (own_rd' encI_len ho3 HNL.out)
                have HBV3 := hide (bl_step HBV.out qV3)
                have OWV3 := hide (own_step OWV.out qV3)
                have HRV3 := hide (rd_step HRV.out qV3)
                have HIH := hide (ih (o ++ [k]) ⟨g3, 0, none⟩ (L + 1) cap3 (r + 1) (seekK zs zs.length f o r m k).2 V3 HRV3.out HOK2.out HLF.out HOL.out HQ3.out (by omega) (by omega))
                clear hown3 hgrow3 ho3 hB3 hs3 ht3 qV3 hi hz0 hz1 hz2 HQV HO2 qV2
                generalize seekO zs zs.length f (o ++ [k]) (r + 1) (seekK zs zs.length f o r m k).2 = C at HIH HCV
                generalize seekK zs zs.length f o r m k = Bk at HIH HCV OWV3 ⊢
                go_wp2_with fail
                refine HIH.out.mono ?_
                rintro e V4 ⟨v4, rfl, ho4, hb⟩
                have HBV4 := hide (bl_step HBV3.out hb)
                have OWV4 := hide (own_step OWV3.out hb)
                have HO4 := hide (own_baseG ho4 HBV3.out.size)
                clear ho4 hb HIH
                by_cases hlc : C.2 < Bk.2
                · have HN : Hid (seekK zs zs.length f o r m (k + 1) = C) := hide (by rw [HCV.out, if_pos hlc])
                  go_wp2
                  go_roundg (n - (k + 1))
                  case measure => omega
                  case rel => exact ⟨k + 1, by omega, by omega, by rw [HN.out], by go_num, by rw [HN.out]; exact HO4.out, HBV4.out⟩
                · have HN : Hid (seekK zs zs.length f o r m (k + 1) = Bk) := hide (by rw [HCV.out, if_neg hlc])
                  go_wp2
                  go_roundg (n - (k + 1))
                  case measure => omega
                  case rel => exact ⟨k + 1, by omega, by omega, by rw [HN.out], by go_num, by rw [HN.out]; exact OWV4.out, HBV4.out⟩
        · have hltz : ¬ (k : Int) + 1 ≤ (n : Int) := by omega
          obtain rfl : k = n := by omega
          go_wp2
          go_ret2
          exact ⟨_, ret_vi (by rw [HE.out]), by rw [HE.out]; exact OW.out, BW.out⟩

end Go.Proofs.Ytdgalehipgdhiaa
