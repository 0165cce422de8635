/- All orders of pages: the program. -/
import Derived.Test.YtdgalehipgdhiaaG1
import Derived.Test.YtdgalehipgdhiaaD1
import Derived.Test.YtdgalehipgdhiaaA6
import Derived.Test.YtdgalehipgdhiaaHI
import Derived.Deep.RegionWith
import Derived.Deep.AppendLies
namespace Go.Proofs.Ytdgalehipgdhiaa
open Go.RowKit
set_option linter.unusedVariables false
set_option linter.unusedSimpArgs false

theorem own_baseG {w : World} {b b2 n k : Nat} {e : TypeId} {v : Value} {xs : List Value} (ho : w.ownsRow b e k v n xs) (h : b2 ≤ b) : w.ownsRow b2 e k v n xs := ⟨ho.1, ho.2.imp id (fun ⟨g, cap, cur, h1, h2, r⟩ => ⟨g, cap, cur, h1, Nat.le_trans h h2, r⟩)⟩
/-- a slice of a call's own pages -/
def slOk (w : World) (a : Option Addr) (n : Nat) (z : List Pg) : Prop := z.length = n ∧ (z = [] ∨ ∃ g cs, a = some ⟨g, 0, none⟩ ∧ Blk w g 48 cs ∧ cs.toList.take (n * 4) = z.flatMap encPg)
theorem slOk.step {w w' : World} {a : Option Addr} {n : Nat} {z : List Pg} (h : slOk w a n z) (hb : Below w.heap.size w w') : slOk w' a n z :=
  ⟨h.1, h.2.imp id fun ⟨g, cs, h1, h2, h3⟩ => ⟨g, cs, h1, h2.below' hb, h3⟩⟩
theorem slOk.rd {w : World} {a : Option Addr} {n : Nat} {z : List Pg} (h : slOk w a n z) : Rd encPg 4 w.heap.size w a z := by
  rcases h.2 with h0 | ⟨g, cs, rfl, hB, ht⟩
  · exact .inl h0
  · refine .inr ⟨g, 0, rfl, hB.lt, hB.lt, fun j x hx i v hv => ?_⟩
    have := flat_at encPg_len z j x hx i v hv
    rw [← ht, List.getElem?_take] at this
    rw [hB.cell_list, Nat.zero_add]
    split at this
    · exact this
    · cases this
/-- slices of pages, in a row -/
structure Sl where
  a : Option Addr
  n : Nat
  c : Nat
def encSl (p : Sl) : List Value := [.slice p.a p.n p.c]
theorem encSl_len : ∀ x, (encSl x).length = 1 := fun _ => rfl
theorem encSl_one : ∀ x, ∀ u ∈ encSl x, u.oneCell' = true := by
  intro x u hu
  simp [encSl] at hu
  subst hu; rfl
def Sls (w : World) : List Sl → List (List Pg) → Prop
  | [], [] => True
  | p :: ps, z :: zs => slOk w p.a p.n z ∧ Sls w ps zs
  | _, _ => False
theorem Sls.len {w : World} : ∀ {ps : List Sl} {L : List (List Pg)}, Sls w ps L → ps.length = L.length
  | [], [], _ => rfl
  | p :: ps, z :: L, h => by rw [List.length_cons, List.length_cons, Sls.len h.2]
  | [], z :: L, h => False.elim h
  | p :: ps, [], h => False.elim h
theorem Sls.app {w : World} : ∀ {ps : List Sl} {L : List (List Pg)} {qs : List Sl} {M : List (List Pg)}, Sls w ps L → Sls w qs M → Sls w (ps ++ qs) (L ++ M)
  | [], [], _, _, _, h2 => h2
  | p :: ps, z :: L, _, _, h, h2 => ⟨h.1, Sls.app h.2 h2⟩
  | [], z :: L, _, _, h, _ => False.elim h
  | p :: ps, [], _, _, h, _ => False.elim h
theorem Sls.step {w w' : World} (hb : Below w.heap.size w w') : ∀ {ps : List Sl} {L : List (List Pg)}, Sls w ps L → Sls w' ps L
  | [], [], h => h
  | p :: ps, z :: L, h => ⟨h.1.step hb, Sls.step hb h.2⟩
  | [], z :: L, h => False.elim h
  | p :: ps, [], h => False.elim h
theorem Sls.at_ {w : World} : ∀ {ps : List Sl} {L : List (List Pg)} {i : Nat} {z : List Pg}, Sls w ps L → L[i]? = some z → ∃ p, ps[i]? = some p ∧ slOk w p.a p.n z
  | p :: ps, y :: L, 0, z, h, hi => by simp at hi; subst hi; exact ⟨p, rfl, h.1⟩
  | p :: ps, y :: L, i + 1, z, h, hi => by
    obtain ⟨q, h1, h2⟩ := Sls.at_ (i := i) h.2 (by simpa using hi)
    exact ⟨q, by simpa using h1, h2⟩
  | [], [], i, z, _, hi => by simp at hi
  | [], y :: L, _, _, h, _ => False.elim h
  | p :: ps, [], _, _, h, _ => False.elim h
theorem tag_ne {w : World} {g : Nat} {cs : Array Value} {base n k : Nat} {v : Value} {xs : List Value} (hB : Blk w g 48 cs) (ho : w.ownsRow base 26 k v n xs) : some g ≠ v.ownBlock := by
  intro he
  rcases ho.2 with ⟨rfl, _⟩ | ⟨g', cap, cur, rfl, _, hg, _⟩
  · cases he
  · injection he with he
    subst he
    unfold Blk at hB
    rw [hB] at hg
    injection hg with hg
    injection hg with _ ht _
    cases ht
theorem slOk.grown {w w' : World} {a : Option Addr} {n : Nat} {z : List Pg} {base m k : Nat} {v : Value} {xs : List Value} (h : slOk w a n z) (ho : w.ownsRow base 26 k v m xs) (hg : w.grownBy w' v.ownBlock) : slOk w' a n z :=
  ⟨h.1, h.2.imp id fun ⟨g, cs, h1, h2, h3⟩ => ⟨g, cs, h1, h2.grown hg (tag_ne h2 ho), h3⟩⟩
theorem Sls.grown {w w' : World} {base m k : Nat} {v : Value} {xs : List Value} (ho : w.ownsRow base 26 k v m xs) (hg : w.grownBy w' v.ownBlock) : ∀ {ps : List Sl} {L : List (List Pg)}, Sls w ps L → Sls w' ps L
  | [], [], h => h
  | p :: ps, z :: L, h => ⟨h.1.grown ho hg, Sls.grown ho hg h.2⟩
  | [], z :: L, h => False.elim h
  | p :: ps, [], h => False.elim h
theorem infoSl : (Try.prog.info? 26).map (fun i => (i.zero, i.size, i.bytes)) = some (some (.slice none 0 0), 1, 24) := by kernel_rfl
theorem ext_ne (n : Nat) : ∀ (f : Nat) (o : List Nat), okS n o → o.length + f = n → extO n f o ≠ []
  | 0, o, _, _ => by simp [extO]
  | f + 1, o, h, hl => by
    have : ∃ i, i < n ∧ i ∉ o := by
      apply Classical.byContradiction
      intro hc
      have h1 : ∀ x ∈ List.range n, x ∈ o := fun x hx => by
        apply Classical.byContradiction
        intro hx2
        exact hc ⟨x, List.mem_range.1 hx, hx2⟩
      have := nodup_le (List.range n) o List.nodup_range h1
      simp at this; omega
    obtain ⟨i, hi, hn⟩ := this
    have hc : o.contains i = false := by simpa using hn
    have h2 := ext_ne n f (o ++ [i]) (okS_snoc h hi hc) (by simp; omega)
    intro he
    rw [extO, List.flatMap_eq_nil_iff] at he
    have := he i (List.mem_range.2 hi)
    rw [if_neg (by rw [hc]; simp)] at this
    exact h2 this

set_option maxRecDepth 100000 in
theorem ClonePG_any (a : Addr) (n c : Nat) (zs : List Pg) (w : World) (hz : zs.length = n) (hn : n ≤ 1048576) (hr : Rd encPg 4 w.heap.size w (some a) zs) :
    Calls Try.prog 55 #[.slice (some a) n c] w fun e w' => ∃ v, e = .returned v ∧ w'.ownsRow w.heap.size 48 4 v n (zs.flatMap encPg) ∧ Below w.heap.size w w' := by
  obtain ⟨i0, hi, hz0, hz1, hz2⟩ := info_parts infoPg
  have HZ := hide hz
  obtain ⟨W, hW⟩ : ∃ W, W = w.alloc (.cells #[] 48) := ⟨_, rfl⟩
  have HBW : Hid (Below w.heap.size w W) := hide (by rw [hW]; exact (Below.refl _ _).alloc (Nat.le_refl _) _)
  have HE : Hid (W.ownsRow w.heap.size 48 4 (.slice (some ⟨w.heap.size, 0, none⟩) 0 0) 0 []) := hide (by rw [hW]; exact World.ownsRow_made w #[] 0 (Nat.le_refl _) (by simp [maxLen]) rfl)
  have HF := hide (rd_flat encPg_len (rd_step hr HBW.out))
  have hWs : w.heap.size ≤ W.heap.size := HBW.out.size
  have HW := hide hW
  have hnil := @Lib.run_eql_slice_nil Try.prog
  clear hz hr hW
  go_enter Try.func55, Try.ntmps55
  go_wp2_with (at_builtin; rw [← HW.out]; refine wpList_append_own _ rfl _ _ 26 rfl w.heap.size 48 i0 (.agg #[.int .i64 0, .int .i64 0, .int .i64 0, .int .i64 0]) 4 32 Try.underlying26 hi hz0 hz1 hz2 rfl (by decide) _ 0 [] rfl HE.out a n c (zs.flatMap encPg) rfl ?c0 ?c1 ?c2 ?c3 ?c4 ?c5 ?_)
  case c0 => rw [flat_len encPg_len, HZ.out]
  case c1 => exact HF.out
  case c2 => exact flat_one encPg_one zs
  case c3 => unfold maxLen; omega
  case c4 => omega
  case c5 => exact hWs
  intro v' w3 hown' hgrow _
  have HB3 := hide (bl_grown HBW.out HE.out (Nat.le_refl _) hgrow)
  have HO3 : Hid (w3.ownsRow w.heap.size 48 4 v' n (zs.flatMap encPg)) := hide (by first | exact hown' | (rw [Nat.zero_add, List.nil_append] at hown'; exact hown'))
  clear hown' hgrow
  go_wp2
  go_ret
  exact ⟨_, rfl, HO3.out, HB3.out⟩

/-- slices.Clone on a slice of a call's own, nil too -/
theorem CloneQ_any (bo : Option Addr) (m d : Nat) (z : List Pg) (w : World) (hs : slOk w bo m z) (hnil : bo = none → m = 0 ∧ d = 0) (hm : m ≤ 1000) :
    Calls Try.prog 55 #[.slice bo m d] w fun e w' => ∃ v, e = .returned v ∧ w'.ownsRow w.heap.size 48 4 v m (z.flatMap encPg) ∧ Below w.heap.size w w' := by
  cases bo with
  | some a => exact ClonePG_any a m d z w hs.1 (by omega) hs.rd
  | none =>
    obtain ⟨rfl, rfl⟩ := hnil rfl
    obtain rfl := List.eq_nil_of_length_eq_zero hs.1
    clear hs hnil
    have hnil := @Lib.run_eql_slice_nil Try.prog
    go_enter Try.func55, Try.ntmps55
    go_wp2
    go_ret
    exact ⟨_, rfl, World.ownsRow_nil _ _ _ _, Below.refl _ _⟩

set_option maxRecDepth 100000 in
set_option maxHeartbeats 8000000 in
theorem orders_any (ao : Option Addr) (n c : Nat) (zs : List Pg) (hz : zs.length = n) (hn : n ≤ 6) (ha : atlasB zs = true) : ∀ (f : Nat) (o : List Nat) (bo : Option Addr) (m d : Nat) (w : World) (hr : Rd encPg 4 w.heap.size w ao zs) (ho : okS zs.length o) (hf : o.length + f = n) (hs : slOk w bo m (pgN zs o)) (hnil : bo = none → m = 0 ∧ d = 0),
    Calls Try.prog 51 #[.slice ao n c, .slice bo m d] w fun e w' => ∃ v, ∃ ps : List Sl, e = .returned v ∧ w'.ownsRow w.heap.size 26 1 v ps.length (ps.flatMap encSl) ∧ Sls w' ps ((extO zs.length f o).map (pgN zs)) ∧ Below w.heap.size w w' := by
  have mixed : Try.prog.follows .mixedOrders = true := by kernel_rfl
  intro f
  induction f with
  | zero =>
    intro o bo m d w hr ho hf hs hnil
    have hm : m = n := by have := hs.1; rw [pgN_len] at this; omega
    subst hm
    obtain ⟨W, hW⟩ : ∃ W, W = w.alloc (.cells #[.slice bo m d] 26) := ⟨_, rfl⟩
    have HBW : Hid (Below w.heap.size w W) := hide (by rw [hW]; exact (Below.refl _ _).alloc (Nat.le_refl _) _)
    have HOW : Hid (W.ownsRow w.heap.size 26 1 (.slice (some ⟨w.heap.size, 0, none⟩) 1 1) 1 (([⟨bo, m, d⟩] : List Sl).flatMap encSl)) := hide (by rw [hW]; exact own_lit (enc := encSl) (x := ⟨bo, m, d⟩) ⟨rfl, rfl⟩ (Nat.le_refl _))
    have HSS : Hid (Sls W [⟨bo, m, d⟩] ((extO zs.length 0 o).map (pgN zs))) := hide ⟨hs.step HBW.out, trivial⟩
    have HW := hide hW
    clear hW hr ho hf hs hnil hz ha
    go_enter Try.func51, Try.ntmps51
    go_wp2
    rw [← HW.out]
    go_ret
    exact ⟨_, [⟨bo, m, d⟩], rfl, HOW.out, HSS.out, HBW.out⟩
  | succ f ih =>
    intro o bo m d w hr ho hf hs hnil
    have hm : m = o.length := by have := hs.1; rw [pgN_len] at this; omega
    have hmn : m < n := by omega
    have hne : ((m : Int) == (n : Int)) = false := by simp; omega
    have hne2 : decide ((m : Int) = (n : Int)) = false := decide_eq_false (by omega)
    have hne3 : decide (m = n) = false := decide_eq_false (by omega)
    have HZ := hide hz
    have HR := hide hr
    have HA := hide ha
    have HOO := hide ho
    have HLEN := hide hm
    have HF := hide hf
    have HS := hide hs
    have HNIL := hide hnil
    obtain ⟨i0, hi, hz0, hz1, hz2⟩ := info_parts infoPg
    have HI := hide (And.intro hi (And.intro hz0 (And.intro hz1 hz2)))
    obtain ⟨j0, hj, hy0, hy1, hy2⟩ := info_parts infoSl
    have HJ := hide (And.intro hj (And.intro hy0 (And.intro hy1 hy2)))
    clear hi hz0 hz1 hz2 hj hy0 hy1 hy2 hz hr ha ho hm hf hs hnil
    go_enter Try.func51, Try.ntmps51
    go_wp2
    go_loopg [5, 17] n (fun gk v i wr => ∃ k : Nat, ∃ ps : List Sl, k ≤ n ∧ n - k ≤ gk ∧ i = .int .i64 k ∧ Aside (wr.ownsRow w.heap.size 26 1 v ps.length (ps.flatMap encSl)) ∧ Aside (Sls wr ps ((extK zs.length f o k).map (pgN zs))) ∧ Aside (Below w.heap.size w wr))
    case atStart => exact ⟨0, [], Nat.zero_le _, by omega, rfl, World.ownsRow_nil _ _ _ _, trivial, Below.refl _ _⟩
    case round =>
      obtain ⟨k, ps, hk, hg, rfl, OW, SW, BW⟩ := hrel
      by_cases hlt : k < n
      · have hltz : (k : Int) < (n : Int) := by omega
        obtain ⟨b, off, rfl, hb1, hat⟩ := rdPg HR.out (by rw [HZ.out]; omega)
        obtain ⟨x, hx, hxc⟩ := hat k (by rw [HZ.out]; exact hlt)
        have HXX := hide hx
        have HHP : Hid (hasP (pgN zs o) x = o.contains k) := hide (hasP_eq HA.out HOO.out.2 hx)
        obtain ⟨hbr, c0, c1, c2, c3⟩ := hxc wr BW.out
        obtain ⟨V, hV⟩ : ∃ V, V = wr.alloc (.cells #[.int .i64 x.n, .int .i64 x.r, .int .i64 x.c, .int .i64 x.l] 48) := ⟨_, rfl⟩
        have HBV : Hid (Below wr.heap.size wr V) := hide (by rw [hV]; exact (Below.refl _ _).alloc (Nat.le_refl _) _)
        obtain ⟨P, hP⟩ : ∃ P, P = wr.heap.size := ⟨_, rfl⟩
        have HPV : Hid (Blk V P 48 #[.int .i64 x.n, .int .i64 x.r, .int .i64 x.c, .int .i64 x.l]) := hide (by rw [hV, hP]; exact Blk.new wr _ _)
        have e0 : V.cell? ⟨P, 0, none⟩ = some (.int .i64 x.n) := HPV.out.cell 0
        have e1 : V.cell? ⟨P, 1, none⟩ = some (.int .i64 x.r) := HPV.out.cell 1
        have e2 : V.cell? ⟨P, 2, none⟩ = some (.int .i64 x.c) := HPV.out.cell 2
        have e3 : V.cell? ⟨P, 3, none⟩ = some (.int .i64 x.l) := HPV.out.cell 3
        have gP : P < V.heap.size := HPV.out.lt
        have HC := hide (ContainsPage_any bo m d (pgN zs o) x V (HS.out.1) (by omega) ((HS.out.step (bl_step BW.out HBV.out)).rd))
        have HVV := hide hV
        have HPP := hide hP
        clear hV hP hx hxc hat
        go_wp2_with fail
        rw [← HVV.out, ← HPP.out]
        refine HC.out.mono ?_
        rintro e W ⟨rfl, hb⟩
        have HBW : Hid (Below w.heap.size w W) := hide (bl_step (bl_step BW.out HBV.out) hb)
        have HOW := hide (own_step (own_step OW.out HBV.out) hb)
        have HSL := hide (Sls.step hb (Sls.step HBV.out SW.out))
        have HBP := hide (HPV.out.below' hb)
        have HRW := hide (rd_step HR.out HBW.out)
        have HSB := hide (HS.out.step HBW.out)
        replace e0 := (hb.cell (p := ⟨P, 0, none⟩) gP).trans e0
        replace e1 := (hb.cell (p := ⟨P, 1, none⟩) gP).trans e1
        replace e2 := (hb.cell (p := ⟨P, 2, none⟩) gP).trans e2
        replace e3 := (hb.cell (p := ⟨P, 3, none⟩) gP).trans e3
        replace gP := Nat.lt_of_lt_of_le gP hb.size
        clear hb OW SW HC hbr c0 c1 c2 c3
        cases hc : o.contains k with
        | true =>
          have HQ : Hid (hasP (pgN zs o) x = true) := hide (by rw [HHP.out, hc])
          have HEX : Hid (extK zs.length f o (k + 1) = extK zs.length f o k) := hide (by rw [extK_succ, hc, if_pos rfl, List.append_nil])
          rw [HQ.out]
          clear hc
          go_wp2
          go_roundg (n - (k + 1))
          case measure => omega
          case rel => exact ⟨k + 1, ps, by omega, by omega, by go_num, HOW.out, by rw [HEX.out]; exact HSL.out, HBW.out⟩
        | false =>
          have HQ : Hid (hasP (pgN zs o) x = false) := hide (by rw [HHP.out, hc])
          have HEX : Hid (extK zs.length f o (k + 1) = extK zs.length f o k ++ extO zs.length f (o ++ [k])) := hide (by rw [extK_succ, hc]; rfl)
          have HOK2 : Hid (okS zs.length (o ++ [k])) := hide (okS_snoc HOO.out (by rw [HZ.out]; exact hlt) hc)
          have HPS : Hid (pgN zs (o ++ [k]) = pgN zs o ++ [x]) := hide (by rw [pg_snoc, getB HXX.out])
          have HPL : Hid ((pgN zs (o ++ [k])).length = m + 1) := hide (by rw [pgN_len, List.length_append, HLEN.out]; rfl)
          have HLF : Hid ((o ++ [k]).length + f = n) := hide (by rw [List.length_append]; have := HF.out; simp; omega)
          have hfl : f + 1 ≤ 6 := by have := HF.out; omega
          have HXL : Hid ((extO zs.length f (o ++ [k])).length ≤ 46656) := hide (Nat.le_trans (ext_len _ _ _) (pow_le6 (by rw [HZ.out]; exact hn) (by omega)))
          have HXN : Hid (0 < (extO zs.length f (o ++ [k])).length) := hide (List.length_pos_iff.2 (ext_ne _ _ _ HOK2.out (by rw [HZ.out]; exact HLF.out)))
          have hpl : ps.length ≤ 46656 := by
            have h1 := Sls.len HSL.out
            rw [List.length_map] at h1
            have h2 := extK_len zs.length f o k (by rw [HZ.out]; exact hk)
            have h3 := pow_le6 (n := zs.length) (f := f + 1) (by rw [HZ.out]; exact hn) hfl
            omega
          rw [HQ.out]
          clear hc
          obtain ⟨hi, hz0, hz1, hz2⟩ := HI.out
          obtain ⟨hj, hy0, hy1, hy2⟩ := HJ.out
          go_wp2_with fail
          have q0 : Below W.heap.size W W.drew := (Below.refl _ _).drew
          refine wp_region_held_drew (S := fun w' => w'.cell? ⟨P, 0, none⟩ = some (.int .i64 x.n) ∧ w'.cell? ⟨P, 1, none⟩ = some (.int .i64 x.r) ∧ w'.cell? ⟨P, 2, none⟩ = some (.int .i64 x.c) ∧ w'.cell? ⟨P, 3, none⟩ = some (.int .i64 x.l) ∧ Below w.heap.size w w') (by kernel_rfl) ⟨(q0.cell (p := ⟨P, 0, none⟩) gP).trans e0, (q0.cell (p := ⟨P, 1, none⟩) gP).trans e1, (q0.cell (p := ⟨P, 2, none⟩) gP).trans e2, (q0.cell (p := ⟨P, 3, none⟩) gP).trans e3, bl_step HBW.out q0⟩ (fun hHeld => ?_)
          generalize W.drew = W0 at q0 hHeld ⊢
          refine heldI_take 0 25 ?vv149 rfl (by kernel_rfl) (by kernel_rfl) (by kernel_rfl) rfl (fun _ _ _ h => h) (by rfl) ?hy149 (by assumption) ?rest149
          case hy149 => (intro w hSw; (try dsimp only at hSw); go_simp; try with_reducible rfl)
          try simp only [Act.put, List.setIfInBounds_toArray, List.set_cons_zero, List.set_cons_succ]
          refine heldI_take 1 26 ?vv150 rfl (by kernel_rfl) (by kernel_rfl) (by kernel_rfl) rfl (fun _ _ _ h => h) (by rfl) ?hy150 (by assumption) ?rest150
          case hy150 => (intro w hSw; (try dsimp only at hSw); go_simp; try with_reducible rfl)
          try simp only [Act.put, List.setIfInBounds_toArray, List.set_cons_zero, List.set_cons_succ]
          refine heldI_take 2 27 ?vv151 rfl (by kernel_rfl) (by kernel_rfl) (by kernel_rfl) rfl (fun _ _ _ h => h) (by rfl) ?hy151 (by assumption) ?rest151
          case hy151 => (intro w hSw; (try dsimp only at hSw); go_simp; try with_reducible rfl)
          try simp only [Act.put, List.setIfInBounds_toArray, List.set_cons_zero, List.set_cons_succ]
          refine heldI_take 4 29 ?vv152 rfl (by kernel_rfl) (by kernel_rfl) (by kernel_rfl) rfl (fun _ _ _ h => h) (by rfl) ?hy152 (by assumption) ?rest152
          case hy152 => (intro w hSw; (try dsimp only at hSw); go_simp; try with_reducible rfl)
          try simp only [Act.put, List.setIfInBounds_toArray, List.set_cons_zero, List.set_cons_succ]
          refine wpAnyH_ready (rs := [3, 5]) (by kernel_rfl) (by simp) ?_
          refine AllReadyH.cons rfl (fun K hK => ?_) (AllReadyH.cons rfl (fun K hK => ?_) AllReadyH.nil)
          · go_simp
            refine (CloneQ_any bo m d (pgN zs o) _ (HSB.out.step q0) HNIL.out (by omega)).mono ?_
            rintro e W1 ⟨v3, rfl, ho, hb⟩
            go_wp2_with fail
            have q1 : Below W.heap.size W W1 := bl_step q0 hb
            have ho := own_baseG ho q0.size
            refine hK.out _ _ ⟨(q1.cell (p := ⟨P, 0, none⟩) gP).trans e0, (q1.cell (p := ⟨P, 1, none⟩) gP).trans e1, (q1.cell (p := ⟨P, 2, none⟩) gP).trans e2, (q1.cell (p := ⟨P, 3, none⟩) gP).trans e3, bl_step HBW.out q1⟩ (fun hHeld => ?_)
            clear hK K
            try simp only [Act.put, List.setIfInBounds_toArray, List.set_cons_zero, List.set_cons_succ]
            clear hb
            refine wpAnyH_ready (rs := [5]) (by kernel_rfl) (by simp) ?_
            refine AllReadyH.cons rfl (fun K hK => ?_) AllReadyH.nil
            go_simp
            have hX : Blk (World.alloc W1 (.cells #[.int .i64 x.n, .int .i64 x.r, .int .i64 x.c, .int .i64 x.l] 48)) W1.heap.size 48 #[.int .i64 x.n, .int .i64 x.r, .int .i64 x.c, .int .i64 x.l] := Blk.new W1 _ _
            have q2 : Below W.heap.size W (World.alloc W1 (.cells #[.int .i64 x.n, .int .i64 x.r, .int .i64 x.c, .int .i64 x.l] 48)) := q1.alloc q1.size _
            have ho := ho.alloc (.cells #[.int .i64 x.n, .int .i64 x.r, .int .i64 x.c, .int .i64 x.l] 48)
            obtain ⟨GX, hGX⟩ : ∃ G, G = W1.heap.size := ⟨_, rfl⟩
            rw [← hGX] at hX ⊢
            generalize World.alloc W1 (.cells #[.int .i64 x.n, .int .i64 x.r, .int .i64 x.c, .int .i64 x.l] 48) = W2 at hX q2 ho ⊢
            refine hK.out _ _ ⟨(q2.cell (p := ⟨P, 0, none⟩) gP).trans e0, (q2.cell (p := ⟨P, 1, none⟩) gP).trans e1, (q2.cell (p := ⟨P, 2, none⟩) gP).trans e2, (q2.cell (p := ⟨P, 3, none⟩) gP).trans e3, bl_step HBW.out q2⟩ (fun hHeld => ?_)
            clear hK K
            try simp only [Act.put, List.setIfInBounds_toArray, List.set_cons_zero, List.set_cons_succ]
            clear hGX
            refine wpAnyH_ready (rs := [6]) (by kernel_rfl) (by simp) ?_
            refine AllReadyH.cons rfl (fun K hK => ?_) AllReadyH.nil
            refine step_append_ownJ (by rfl) _ _ _ (by rfl) W.heap.size 48 i0 _ 4 32 Try.underlying26 hi hz0 hz1 hz2 rfl (by omega) _ m _ (by rfl) ho ⟨GX, 0, none⟩ 1 1 [.int .i64 x.n, .int .i64 x.r, .int .i64 x.c, .int .i64 x.l] (by rfl) (by rfl) (World.news_of_block (cs := #[.int .i64 x.n, .int .i64 x.r, .int .i64 x.c, .int .i64 x.l]) (t := 48) (fr := (0, 0)) hX) (by simp [Value.oneCell']) (by unfold maxLen; omega) (by omega) q2.size ?_
            intro v5 W3 hown5 hgrow5
            have q3 : Below W.heap.size W W3 := bl_grown q2 ho (Nat.le_refl _) hgrow5
            have ho5 : W3.ownsRow W.heap.size 48 4 v5 (m + 1) ((pgN zs (o ++ [k])).flatMap encPg) := by rw [HPS.out, flat_snoc]; exact hown5
            clear hown5 hgrow5 hX ho
            rcases own_form encPg_len ho5 HPL.out with ⟨_, hm0, _⟩ | ⟨g5, cap5, cs5, rfl, hg5, hB5, hs5, hnc5, hm5, ht5⟩
            · omega
            refine hK.out _ _ ⟨(q3.cell (p := ⟨P, 0, none⟩) gP).trans e0, (q3.cell (p := ⟨P, 1, none⟩) gP).trans e1, (q3.cell (p := ⟨P, 2, none⟩) gP).trans e2, (q3.cell (p := ⟨P, 3, none⟩) gP).trans e3, bl_step HBW.out q3⟩ (fun hHeld => ?_)
            clear hK K
            try simp only [Act.put, List.setIfInBounds_toArray, List.set_cons_zero, List.set_cons_succ]
            refine wpAnyH_ready (rs := [7]) (by kernel_rfl) (by simp) ?_
            refine AllReadyH.cons rfl (fun K hK => ?_) AllReadyH.nil
            go_simp
            refine (ih (o ++ [k]) (some ⟨g5, 0, none⟩) (m + 1) cap5 W3 (rd_step HRW.out q3) HOK2.out HLF.out ⟨HPL.out, .inr ⟨g5, cs5, rfl, hB5, ht5⟩⟩ (fun h => by cases h)).mono ?_
            rintro e W4 ⟨v6, ps6, rfl, ho6, hs6, hb⟩
            go_wp2_with fail
            have q4 : Below W.heap.size W W4 := bl_step q3 hb
            have own4 := own_step HOW.out q4
            have sls4 := Sls.step q4 HSL.out
            have hl6 := Sls.len hs6
            rw [List.length_map] at hl6
            have hl6b := HXL.out
            have hl6c := HXN.out
            rcases own_form encSl_len ho6 rfl with ⟨_, hm0, _⟩ | ⟨g6, cap6, cs6, rfl, hg6, hB6, hs6b, hnc6, hm6, ht6⟩
            · omega
            clear hb ho5 hB5 hs5 ht5
            refine hK.out _ _ ⟨(q4.cell (p := ⟨P, 0, none⟩) gP).trans e0, (q4.cell (p := ⟨P, 1, none⟩) gP).trans e1, (q4.cell (p := ⟨P, 2, none⟩) gP).trans e2, (q4.cell (p := ⟨P, 3, none⟩) gP).trans e3, bl_step HBW.out q4⟩ (fun hHeld => ?_)
            clear hK K
            try simp only [Act.put, List.setIfInBounds_toArray, List.set_cons_zero, List.set_cons_succ]
            refine wpAnyH_ready (rs := [8]) (by kernel_rfl) (by simp) ?_
            refine AllReadyH.cons rfl (fun K hK => ?_) AllReadyH.nil
            refine step_append_ownJ (by rfl) _ _ _ (by rfl) w.heap.size 26 j0 _ 1 24 Try.underlying64 hj hy0 hy1 hy2 rfl (by omega) _ ps.length _ (by rfl) own4 ⟨g6, 0, none⟩ ps6.length cap6 (ps6.flatMap encSl) (by rfl) (by rw [flat_len encSl_len, Nat.mul_one]) (rd_flat encSl_len (own_rd' encSl_len ho6 rfl)) (flat_one encSl_one _) (by unfold maxLen; omega) (by omega) (bl_step HBW.out q4).size ?_
            intro v7 W5 hown7 hgrow7
            have hBP : Blk W4 P 48 #[.int .i64 x.n, .int .i64 x.r, .int .i64 x.c, .int .i64 x.l] := HBP.out.below' q4
            have q5 : Below w.heap.size w W5 := bl_grown (bl_step HBW.out q4) own4 (Nat.le_refl _) hgrow7
            have hBP5 : Blk W5 P 48 #[.int .i64 x.n, .int .i64 x.r, .int .i64 x.c, .int .i64 x.l] := hBP.grown hgrow7 (tag_ne hBP own4)
            have sls5 := Sls.app (Sls.grown own4 hgrow7 sls4) (Sls.grown own4 hgrow7 hs6)
            rw [← List.flatMap_append, ← List.length_append] at hown7
            refine hK.out _ _ ⟨hBP5.cell 0, hBP5.cell 1, hBP5.cell 2, hBP5.cell 3, q5⟩ (fun hHeld => ?_)
            clear hK K
            try simp only [List.getElem_toArray, List.getElem_cons_succ, List.getElem_cons_zero]
            try simp only [Act.put, List.setIfInBounds_toArray, List.set_cons_zero, List.set_cons_succ]
            refine heldI_take 9 5 ?vv153 rfl (by kernel_rfl) (by kernel_rfl) (by kernel_rfl) rfl (fun _ _ _ h => h) (by rfl) ?hy153 (by assumption) ?rest153
            case hy153 => (intro w hSw; (try dsimp only at hSw); go_simp; try with_reducible rfl)
            try simp only [Act.put, List.setIfInBounds_toArray, List.set_cons_zero, List.set_cons_succ]
            refine wpAnyH_done (by kernel_rfl) ?_ _
            have HO5 := hide hown7
            have HS5 : Hid (Sls W5 (ps ++ ps6) ((extK zs.length f o (k + 1)).map (pgN zs))) := hide (by rw [HEX.out, List.map_append]; exact sls5)
            have HB5 := hide q5
            clear hown7 sls5 q5 hgrow7 hBP hBP5 sls4 own4 hs6 ho6 hB6 hs6b ht6 q4 q3 q2 q1 q0
            try clear hHeld
            go_wp2
            go_roundg (n - (k + 1))
            case measure => omega
            case rel => exact ⟨k + 1, _, by omega, by omega, by go_num, HO5.out, HS5.out, HB5.out⟩
          · go_simp
            have hX : Blk (World.alloc W0 (.cells #[.int .i64 x.n, .int .i64 x.r, .int .i64 x.c, .int .i64 x.l] 48)) W0.heap.size 48 #[.int .i64 x.n, .int .i64 x.r, .int .i64 x.c, .int .i64 x.l] := Blk.new W0 _ _
            have q1 : Below W.heap.size W (World.alloc W0 (.cells #[.int .i64 x.n, .int .i64 x.r, .int .i64 x.c, .int .i64 x.l] 48)) := q0.alloc q0.size _
            obtain ⟨GX, hGX⟩ : ∃ G, G = W0.heap.size := ⟨_, rfl⟩
            rw [← hGX] at hX ⊢
            generalize World.alloc W0 (.cells #[.int .i64 x.n, .int .i64 x.r, .int .i64 x.c, .int .i64 x.l] 48) = W1 at hX q1 ⊢
            refine hK.out _ _ ⟨(q1.cell (p := ⟨P, 0, none⟩) gP).trans e0, (q1.cell (p := ⟨P, 1, none⟩) gP).trans e1, (q1.cell (p := ⟨P, 2, none⟩) gP).trans e2, (q1.cell (p := ⟨P, 3, none⟩) gP).trans e3, bl_step HBW.out q1⟩ (fun hHeld => ?_)
            clear hK K
            try simp only [Act.put, List.setIfInBounds_toArray, List.set_cons_zero, List.set_cons_succ]
            clear hGX
            refine wpAnyH_ready (rs := [3]) (by kernel_rfl) (by simp) ?_
            refine AllReadyH.cons rfl (fun K hK => ?_) AllReadyH.nil
            go_simp
            refine (CloneQ_any bo m d (pgN zs o) _ (HSB.out.step q1) HNIL.out (by omega)).mono ?_
            rintro e W2 ⟨v3, rfl, ho, hb⟩
            go_wp2_with fail
            have q2 : Below W.heap.size W W2 := bl_step q1 hb
            have ho := own_baseG ho q1.size
            have hX := hX.below' hb
            refine hK.out _ _ ⟨(q2.cell (p := ⟨P, 0, none⟩) gP).trans e0, (q2.cell (p := ⟨P, 1, none⟩) gP).trans e1, (q2.cell (p := ⟨P, 2, none⟩) gP).trans e2, (q2.cell (p := ⟨P, 3, none⟩) gP).trans e3, bl_step HBW.out q2⟩ (fun hHeld => ?_)
            clear hK K
            try simp only [Act.put, List.setIfInBounds_toArray, List.set_cons_zero, List.set_cons_succ]
            clear hb
            refine wpAnyH_ready (rs := [6]) (by kernel_rfl) (by simp) ?_
            refine AllReadyH.cons rfl (fun K hK => ?_) AllReadyH.nil
            refine step_append_ownJ (by rfl) _ _ _ (by rfl) W.heap.size 48 i0 _ 4 32 Try.underlying26 hi hz0 hz1 hz2 rfl (by omega) _ m _ (by rfl) ho ⟨GX, 0, none⟩ 1 1 [.int .i64 x.n, .int .i64 x.r, .int .i64 x.c, .int .i64 x.l] (by rfl) (by rfl) (World.news_of_block (cs := #[.int .i64 x.n, .int .i64 x.r, .int .i64 x.c, .int .i64 x.l]) (t := 48) (fr := (0, 0)) hX) (by simp [Value.oneCell']) (by unfold maxLen; omega) (by omega) q2.size ?_
            intro v5 W3 hown5 hgrow5
            have q3 : Below W.heap.size W W3 := bl_grown q2 ho (Nat.le_refl _) hgrow5
            have ho5 : W3.ownsRow W.heap.size 48 4 v5 (m + 1) ((pgN zs (o ++ [k])).flatMap encPg) := by rw [HPS.out, flat_snoc]; exact hown5
            clear hown5 hgrow5 hX ho
            rcases own_form encPg_len ho5 HPL.out with ⟨_, hm0, _⟩ | ⟨g5, cap5, cs5, rfl, hg5, hB5, hs5, hnc5, hm5, ht5⟩
            · omega
            refine hK.out _ _ ⟨(q3.cell (p := ⟨P, 0, none⟩) gP).trans e0, (q3.cell (p := ⟨P, 1, none⟩) gP).trans e1, (q3.cell (p := ⟨P, 2, none⟩) gP).trans e2, (q3.cell (p := ⟨P, 3, none⟩) gP).trans e3, bl_step HBW.out q3⟩ (fun hHeld => ?_)
            clear hK K
            try simp only [Act.put, List.setIfInBounds_toArray, List.set_cons_zero, List.set_cons_succ]
            refine wpAnyH_ready (rs := [7]) (by kernel_rfl) (by simp) ?_
            refine AllReadyH.cons rfl (fun K hK => ?_) AllReadyH.nil
            go_simp
            refine (ih (o ++ [k]) (some ⟨g5, 0, none⟩) (m + 1) cap5 W3 (rd_step HRW.out q3) HOK2.out HLF.out ⟨HPL.out, .inr ⟨g5, cs5, rfl, hB5, ht5⟩⟩ (fun h => by cases h)).mono ?_
            rintro e W4 ⟨v6, ps6, rfl, ho6, hs6, hb⟩
            go_wp2_with fail
            have q4 : Below W.heap.size W W4 := bl_step q3 hb
            have own4 := own_step HOW.out q4
            have sls4 := Sls.step q4 HSL.out
            have hl6 := Sls.len hs6
            rw [List.length_map] at hl6
            have hl6b := HXL.out
            have hl6c := HXN.out
            rcases own_form encSl_len ho6 rfl with ⟨_, hm0, _⟩ | ⟨g6, cap6, cs6, rfl, hg6, hB6, hs6b, hnc6, hm6, ht6⟩
            · omega
            clear hb ho5 hB5 hs5 ht5
            refine hK.out _ _ ⟨(q4.cell (p := ⟨P, 0, none⟩) gP).trans e0, (q4.cell (p := ⟨P, 1, none⟩) gP).trans e1, (q4.cell (p := ⟨P, 2, none⟩) gP).trans e2, (q4.cell (p := ⟨P, 3, none⟩) gP).trans e3, bl_step HBW.out q4⟩ (fun hHeld => ?_)
            clear hK K
            try simp only [Act.put, List.setIfInBounds_toArray, List.set_cons_zero, List.set_cons_succ]
            refine wpAnyH_ready (rs := [8]) (by kernel_rfl) (by simp) ?_
            refine AllReadyH.cons rfl (fun K hK => ?_) AllReadyH.nil
            refine step_append_ownJ (by rfl) _ _ _ (by rfl) w.heap.size 26 j0 _ 1 24 Try.underlying64 hj hy0 hy1 hy2 rfl (by omega) _ ps.length _ (by rfl) own4 ⟨g6, 0, none⟩ ps6.length cap6 (ps6.flatMap encSl) (by rfl) (by rw [flat_len encSl_len, Nat.mul_one]) (rd_flat encSl_len (own_rd' encSl_len ho6 rfl)) (flat_one encSl_one _) (by unfold maxLen; omega) (by omega) (bl_step HBW.out q4).size ?_
            intro v7 W5 hown7 hgrow7
            have hBP : Blk W4 P 48 #[.int .i64 x.n, .int .i64 x.r, .int .i64 x.c, .int .i64 x.l] := HBP.out.below' q4
            have q5 : Below w.heap.size w W5 := bl_grown (bl_step HBW.out q4) own4 (Nat.le_refl _) hgrow7
            have hBP5 : Blk W5 P 48 #[.int .i64 x.n, .int .i64 x.r, .int .i64 x.c, .int .i64 x.l] := hBP.grown hgrow7 (tag_ne hBP own4)
            have sls5 := Sls.app (Sls.grown own4 hgrow7 sls4) (Sls.grown own4 hgrow7 hs6)
            rw [← List.flatMap_append, ← List.length_append] at hown7
            refine hK.out _ _ ⟨hBP5.cell 0, hBP5.cell 1, hBP5.cell 2, hBP5.cell 3, q5⟩ (fun hHeld => ?_)
            clear hK K
            try simp only [List.getElem_toArray, List.getElem_cons_succ, List.getElem_cons_zero]
            try simp only [Act.put, List.setIfInBounds_toArray, List.set_cons_zero, List.set_cons_succ]
            refine heldI_take 9 5 ?vv154 rfl (by kernel_rfl) (by kernel_rfl) (by kernel_rfl) rfl (fun _ _ _ h => h) (by rfl) ?hy154 (by assumption) ?rest154
            case hy154 => (intro w hSw; (try dsimp only at hSw); go_simp; try with_reducible rfl)
            try simp only [Act.put, List.setIfInBounds_toArray, List.set_cons_zero, List.set_cons_succ]
            refine wpAnyH_done (by kernel_rfl) ?_ _
            have HO5 := hide hown7
            have HS5 : Hid (Sls W5 (ps ++ ps6) ((extK zs.length f o (k + 1)).map (pgN zs))) := hide (by rw [HEX.out, List.map_append]; exact sls5)
            have HB5 := hide q5
            clear hown7 sls5 q5 hgrow7 hBP hBP5 sls4 own4 hs6 ho6 hB6 hs6b ht6 q4 q3 q2 q1 q0
            try clear hHeld
            go_wp2
            go_roundg (n - (k + 1))
            case measure => omega
            case rel => exact ⟨k + 1, _, by omega, by omega, by go_num, HO5.out, HS5.out, HB5.out⟩
      · have hltz : ¬ (k : Int) < (n : Int) := by omega
        obtain rfl : k = n := by omega
        have HEX : Hid (extK zs.length f o k = extO zs.length (f + 1) o) := hide (by rw [← extK_end, HZ.out])
        rw [HEX.out] at SW
        go_wp2
        go_ret
        first
          | exact ⟨_, ps, rfl, OW.out, SW.out, BW.out⟩
          | exact ⟨_, rfl, ps, OW.out, SW.out, BW.out⟩
          | exact ⟨_, rfl, ⟨ps, OW.out, SW.out⟩, BW.out⟩

end Go.Proofs.Ytdgalehipgdhiaa
