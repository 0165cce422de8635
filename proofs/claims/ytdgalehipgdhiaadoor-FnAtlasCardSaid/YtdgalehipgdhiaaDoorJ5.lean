/- The text of an atlas: the program. -/
import Derived.Test.YtdgalehipgdhiaaDoorJ1
import Derived.Test.YtdgalehipgdhiaaDoorJ3
import Derived.Test.YtdgalehipgdhiaaDoorA2
import Derived.Test.YtdgalehipgdhiaaDoorFInt
import Derived.Test.YtdgalehipgdhiaaDoorOwn
import Derived.Deep.RegionWith
import Derived.Deep.AppendLies
namespace Go.Proofs.YtdgalehipgdhiaaDoor
open Go.RowKit
set_option linter.unusedVariables false
set_option linter.unusedSimpArgs false

theorem heldI_skip {P : Program} {md : Region.Mode} {ops : Array Oper} {Q : Exit → Act → World → Prop} {S : World → Prop} (i : Nat) (d : Tmp) {oi : Oper} {fuel : Nat} {listed : Array Bool} {a : Act} {w : World} (hi : ops[i]? = some oi)
    (hs : Region.noSelect ops = true) (hf : Region.free md ops listed i = true) (hr : (Region.ready md ops listed).contains i = true) (hd : oi.dst = some d) (hQ : ∀ c a w, Q (.panic c) (a.put (some d) undef) w → Q (.panic c) a w)
    (hw : Region.wanted oi (yielded ops a.tmps) = false) (hS : S w) (h : wpAnyH P md ops Q S fuel (listed.setIfInBounds i true) (a.put (some d) undef) w) : wpAnyH P md ops Q S (fuel + 1) listed a w :=
  wpAnyH_take hi hs hf hr (by rw [hd]; exact hQ) (Or.inr ⟨hw, rfl⟩) hS (by rw [hd]; exact h)
theorem heldI_take {P : Program} {md : Region.Mode} {ops : Array Oper} {Q : Exit → Act → World → Prop} {S : World → Prop} (i : Nat) (d : Tmp) {oi : Oper} (v : Value) {fuel : Nat} {listed : Array Bool} {a : Act} {w : World} (hi : ops[i]? = some oi)
    (hs : Region.noSelect ops = true) (hf : Region.free md ops listed i = true) (hr : (Region.ready md ops listed).contains i = true) (hd : oi.dst = some d) (hQ : ∀ c a w, Q (.panic c) (a.put (some d) v) w → Q (.panic c) a w)
    (hw : Region.wanted oi (yielded ops a.tmps) = true) (hy : ∀ w, S w → (execOp a.eval oi).run P w = .ok (.value v) w) (hS : S w) (h : wpAnyH P md ops Q S fuel (listed.setIfInBounds i true) (a.put (some d) v) w) : wpAnyH P md ops Q S (fuel + 1) listed a w :=
  wpAnyH_take hi hs hf hr (by rw [hd]; exact hQ) (Or.inl ⟨hw, hy⟩) hS (by rw [hd]; exact h)

/-- the address behind the first j -/
def behindJ (g j cap k : Nat) : Addr := if cap = j then ⟨g, 0, none⟩ else ⟨g, j * k, none⟩
section
variable {α : Type} {enc : α → List Value} {k : Nat}
theorem Rd.takeJ {B : Nat} {w : World} {ao : Option Addr} {zs : List α} (j : Nat) (h : Rd enc k B w ao zs) : Rd enc k B w ao (zs.take j) := by
  rcases h with rfl | ⟨b, off, rfl, h1, h2, hc⟩
  · exact .inl (by simp)
  · refine .inr ⟨b, off, rfl, h1, h2, fun i x hx => hc i x ?_⟩
    rw [List.getElem?_take] at hx
    split at hx
    · exact hx
    · cases hx
theorem Rd.behindJ {B : Nat} {w : World} {g n j cap : Nat} {zs : List α} (hz : zs.length = n) (hc : n ≤ cap) (h : Rd enc k B w (some ⟨g, 0, none⟩) zs) : Rd enc k B w (some (behindJ g j cap k)) (zs.drop j) := by
  unfold Go.Proofs.YtdgalehipgdhiaaDoor.behindJ
  split
  · exact .inl (by rw [List.drop_eq_nil_iff]; omega)
  · rcases h with rfl | ⟨b', off', he, h1, h2, hcc⟩
    · exact .inl (by simp)
    · injection he with he; injection he with e1 e2 _; subst e1; subst e2
      refine .inr ⟨g, j * k, rfl, h1, h2, fun i x hx q v hv => ?_⟩
      rw [List.getElem?_drop] at hx
      have := hcc (j + i) x hx q v hv
      rw [show 0 + (j + i) * k + q = j * k + i * k + q from by rw [Nat.add_mul]; omega] at this
      exact this
end
theorem step_append_ownJ {P : Program} {w : World} {ops : Array Oper} {o : Oper} {a : Act} {K : Act → World → Prop} {Q : Exit → Act → World → Prop} {E : Prop} (hgd : o.guard = none) (s x : Operand) (t : TypeId)
    (ho : o.op = .call { callee := .builtin .append, args := #[s, x], argTypes := #[t, t] })
    (base : Nat) (e : TypeId) (i : TypeInfo) (z : Value) (size bytes : Nat) (ht : P.underlying t = some (.slice e)) (hi : P.info? e = some i) (hz : i.zero = some z)
    (hsize : i.size = size) (hby : i.bytes = bytes) (hzs : z.cells.size = size) (hsz : 0 < size)
    (v : Value) (n : Nat) (xs : List Value) (hs : a.eval s = v) (hown : w.ownsRow base e size v n xs)
    (ad : Addr) (m c : Nat) (news : List Value) (hx : a.eval x = .slice (some ad) m c) (hl : news.length = m * size) (hnews : ∀ j u, news[j]? = some u → w.cell? (ad.add j) = some u) (h1 : ∀ u ∈ news, u.oneCell' = true)
    (h63 : n + m ≤ maxLen) (hbytes : (n + m) * bytes ≤ 140737488355328) (hbase : base ≤ w.heap.size)
    (h : ∀ v' w', w'.ownsRow base e size v' (n + m) (xs ++ news) → w.grownBy w' v.ownBlock → K (a.put o.dst v') w') :
    if Region.wanted o (yielded ops a.tmps) = true then Oper.wp P o a w K Q else E := by
  have hw : Region.wanted o (yielded ops a.tmps) = true := by simp [Region.wanted, hgd]
  rw [if_pos hw]
  exact wp_append_own w s x t ho base e i z size bytes ht hi hz hsize hby hzs hsz v n xs hs hown ad m c news hx hl hnews h1 h63 hbytes hbase fun v' w' h2 h3 _ => h v' w' h2 h3
theorem encJ_one {α : Type} {enc : α → List Value} (h : ∀ x, ∀ u ∈ enc x, u.oneCell' = true) (zs : List α) : ∀ u ∈ zs.flatMap enc, u.oneCell' = true := by
  intro u hu
  obtain ⟨x, _, hx⟩ := List.mem_flatMap.1 hu
  exact h x u hx

theorem atlas_bd {zs : List Pg} (h : atlasB zs = true) {k : Nat} {x : Pg} (hx : zs[k]? = some x) : x.n = (k : Int) + 1 ∧ (0 ≤ x.r ∧ x.r ≤ 99) ∧ (0 ≤ x.c ∧ x.c ≤ 99) := by
  unfold atlasB at h; simp only [Bool.and_eq_true] at h
  have := allB_at h.1 k (List.getElem?_eq_some_iff.1 hx).1
  unfold stepPg at this
  rw [getB hx] at this
  unfold okPg at this; simp only [Bool.and_eq_true, decide_eq_true_eq] at this
  exact ⟨this.1.1.1.1, inB_iff.1 this.1.1.1.2, inB_iff.1 this.1.1.2⟩
theorem atlas_len12 {zs : List Pg} (h : atlasB zs = true) : zs.length ≤ 12 := by unfold atlasB at h; simp only [Bool.and_eq_true, decide_eq_true_eq] at h; exact h.2
/-- a page's word -/
def wordP (x : Pg) : ByteArray := itoaB x.n ++ (⟨#[64]⟩ : ByteArray) ++ itoaB x.r ++ (⟨#[44]⟩ : ByteArray) ++ itoaB x.c
def wordsP (zs : List Pg) : List ByteArray := zs.map wordP
/-- the text of an atlas -/
def atlasT (zs : List Pg) : ByteArray := if atlasB zs then (if zs.length = 0 then ⟨#[45]⟩ else joinB (wordsP zs)) else ⟨#[]⟩
theorem ret_sb {a b : ByteArray} {c d : Bool} (h1 : a = b) (h2 : c = d) : Ending.returned (.tuple #[.string a, .bool c]) = .returned (.tuple #[.string b, .bool d]) := by rw [h1, h2]
theorem wordP_size {x : Pg} {k : Nat} (hk : k ≤ 1000) (h : x.n = (k : Int) + 1 ∧ (0 ≤ x.r ∧ x.r ≤ 99) ∧ (0 ≤ x.c ∧ x.c ≤ 99)) : (wordP x).size ≤ 65 := by
  have h1 := itoaB_size x.n (by omega) (by omega)
  have h2 := itoaB_size x.r (by omega) (by omega)
  have h3 := itoaB_size x.c (by omega) (by omega)
  unfold wordP
  simp only [ByteArray.size_append', ByteArray.size_mk', List.size_toArray, List.length_cons, List.length_nil]
  omega
theorem wordsP_size {zs : List Pg} (h : atlasB zs = true) : ∀ y ∈ wordsP zs, y.size ≤ 65 := by
  intro y hy
  obtain ⟨x, hx, rfl⟩ := List.mem_map.1 hy
  obtain ⟨k, hk, hkx⟩ := List.getElem_of_mem hx
  have h12 := atlas_len12 h
  exact wordP_size (k := k) (by omega) (atlas_bd h (List.getElem?_eq_some_iff.2 ⟨hk, hkx⟩))
theorem wordsP_take {zs : List Pg} {k : Nat} {x : Pg} (hx : zs[k]? = some x) : wordsP (zs.take (k + 1)) = wordsP (zs.take k) ++ [wordP x] := by
  unfold wordsP
  rw [List.take_add_one, hx]
  simp
theorem wordsP_len (zs : List Pg) : (wordsP zs).length = zs.length := by simp [wordsP]
theorem joinP_size {zs : List Pg} (h : atlasB zs = true) (k : Nat) : (joinB (wordsP (zs.take k))).size ≤ 800 := by
  have h1 : ∀ y ∈ wordsP (zs.take k), y.size ≤ 65 := fun y hy => wordsP_size h y (by
    unfold wordsP at hy ⊢
    obtain ⟨x, hx, rfl⟩ := List.mem_map.1 hy
    exact List.mem_map.2 ⟨x, List.mem_of_mem_take hx, rfl⟩)
  have h2 := joinB_size h1
  have h3 : (wordsP (zs.take k)).length ≤ 12 := by rw [wordsP_len]; exact Nat.le_trans (List.length_take_le' _ _) (atlas_len12 h)
  have h4 : (wordsP (zs.take k)).length * (65 + 1) ≤ 12 * (65 + 1) := Nat.mul_le_mul_right _ h3
  omega
/-- the next word behind -/
theorem joinP_step {zs : List Pg} {k : Nat} {x : Pg} (hx : zs[k]? = some x) (h0 : 0 < k) : joinB (wordsP (zs.take (k + 1))) = joinB (wordsP (zs.take k)) ++ (⟨#[32]⟩ : ByteArray) ++ wordP x := by
  rw [wordsP_take hx, joinB_snoc _ _ (by rw [wordsP_len, List.length_take]; have := (List.getElem?_eq_some_iff.1 hx).1; omega)]
theorem joinP_one {zs : List Pg} {x : Pg} (hx : zs[0]? = some x) : joinB (wordsP (zs.take 1)) = wordP x := by
  rw [wordsP_take hx]; simp [wordsP, joinB]

set_option maxRecDepth 100000 in
set_option maxHeartbeats 1000000 in
theorem AtlasText_any (ao : Option Addr) (n c : Nat) (zs : List Pg) (w : World) (hz : zs.length = n) (hn : n ≤ 1048576) (hr : Rd encPg 4 w.heap.size w ao zs) (ht : TabW w) :
    Calls Tryd.prog 20 #[.slice ao n c] w fun e w' => e = .returned (.tuple #[.string (atlasT zs), .bool (atlasB zs)]) ∧ Below w.heap.size w w' := by
  have mixed : Tryd.prog.follows .mixedOrders = true := by kernel_rfl
  have HZ := hide hz
  have HR := hide hr
  have HA := hide (IsAtlas_any ao n c zs w hz hn hr)
  have HT := hide ht
  clear ht
  clear hz hr
  cases h1 : atlasB zs with
  | false =>
    have HO : Hid (atlasT zs = ⟨#[]⟩) := hide (by unfold atlasT; rw [h1]; rfl)
    have H1 := hide h1
    clear h1
    go_enter Tryd.func20, Tryd.ntmps20
    go_wp2_with fail
    refine HA.out.mono ?_
    rintro e w1 ⟨rfl, hb⟩
    rw [H1.out]
    have HB := hide hb
    clear hb
    go_wp2
    go_ret2
    exact ⟨ret_sb HO.out.symm rfl, HB.out⟩
  | true =>
    have H1 := hide h1
    have H12 := hide (atlas_len12 h1)
    have h12 : n ≤ 12 := by have := H12.out; rw [HZ.out] at this; exact this
    clear h1
    by_cases hn0 : n = 0
    · subst hn0
      have HO : Hid (atlasT zs = ⟨#[45]⟩) := hide (by unfold atlasT; rw [H1.out, if_pos rfl, if_pos HZ.out])
      go_enter Tryd.func20, Tryd.ntmps20
      go_wp2_with fail
      refine HA.out.mono ?_
      rintro e w1 ⟨rfl, hb⟩
      rw [H1.out]
      have HB := hide hb
      clear hb HA
      go_wp2
      go_ret2
      exact ⟨ret_sb HO.out.symm rfl, HB.out⟩
    · have HO : Hid (atlasT zs = joinB (wordsP zs)) := hide (by unfold atlasT; rw [H1.out, if_pos rfl, if_neg (by rw [HZ.out]; exact hn0)])
      have hnz : ((n : Int) == 0) = false := by simp; omega
      go_enter Tryd.func20, Tryd.ntmps20
      go_wp2_with fail
      refine HA.out.mono ?_
      rintro e w1 ⟨rfl, hb⟩
      rw [H1.out]
      have HB := hide hb
      clear hb HA
      go_wp2
      obtain ⟨i0, hi, hz0, hz1, hz2⟩ := info_parts infoS
      have HI := hide (And.intro hi (And.intro hz0 (And.intro hz1 hz2)))
      clear hi hz0 hz1 hz2
      go_loopg [4, 15] n (fun gk v i wr => ∃ k : Nat, k ≤ n ∧ n - k ≤ gk ∧ i = .int .i64 k ∧ Aside (wr.ownsRow w.heap.size 9 1 v k ((wordsP (zs.take k)).flatMap encS)) ∧ Aside (Below w.heap.size w wr))
      case atStart => exact ⟨0, Nat.zero_le _, by omega, rfl, World.ownsRow_nil _ _ _ _, HB.out⟩
      case round =>
        obtain ⟨k, hk, hg, rfl, OW, BW⟩ := hrel
        by_cases hlt : k < n
        · have hltz : (k : Int) < (n : Int) := by omega
          obtain ⟨b9, off, rfl, hb1, hat⟩ := rdPg HR.out (by rw [HZ.out]; omega)
          obtain ⟨x, hx, hxc⟩ := hat k (by rw [HZ.out]; exact hlt)
          obtain ⟨hbr, c0, c1, c2, c3⟩ := hxc wr BW.out
          obtain ⟨hnk, bd⟩ := atlas_bd H1.out hx
          have bn : 0 ≤ x.n ∧ x.n ≤ 100 := by omega
          clear hnk
          have HWT := hide (wordsP_take hx)
          have HTL : Hid (k ≤ 12) := hide (by omega)
          obtain ⟨V, hV⟩ : ∃ V, V = wr.alloc (.cells #[.int .i64 x.n, .int .i64 x.r, .int .i64 x.c, .int .i64 x.l] 58) := ⟨_, rfl⟩
          have HBV : Hid (Below w.heap.size w V) := hide (by rw [hV]; exact BW.out.alloc BW.out.size _)
          have HOV : Hid (V.ownsRow w.heap.size 9 1 u4 k ((wordsP (zs.take k)).flatMap encS)) := hide (by rw [hV]; exact OW.out.alloc _)
          have HOW := hide OW.out
          have HTV := hide (HT.out.below HBV.out)
          have HSV := hide (show w.heap.size ≤ V.heap.size from HBV.out.size)
          have g0 : wr.heap.size < V.heap.size := by rw [hV]; simp
          have e0 : V.cell? ⟨wr.heap.size, 0, none⟩ = some (.int .i64 x.n) := by rw [hV]; simp
          have e1 : V.cell? ⟨wr.heap.size, 1, none⟩ = some (.int .i64 x.r) := by rw [hV]; simp
          have e2 : V.cell? ⟨wr.heap.size, 2, none⟩ = some (.int .i64 x.c) := by rw [hV]; simp
          have e3 : V.cell? ⟨wr.heap.size, 3, none⟩ = some (.int .i64 x.l) := by rw [hV]; simp
          obtain ⟨a, ha⟩ : ∃ a, itoaB x.n = a := ⟨_, rfl⟩
          obtain ⟨b, hb⟩ : ∃ b, itoaB x.r = b := ⟨_, rfl⟩
          obtain ⟨tc, hc⟩ : ∃ c, itoaB x.c = c := ⟨_, rfl⟩
          have HN := hide ha
          have HR1 := hide hb
          have HC := hide hc
          have za : a.size ≤ 21 := by rw [← ha]; exact itoaB_size _ (by omega) (by omega)
          have zb : b.size ≤ 21 := by rw [← hb]; exact itoaB_size _ (by omega) (by omega)
          have zc : tc.size ≤ 21 := by rw [← hc]; exact itoaB_size _ (by omega) (by omega)
          have s1 : ¬ 9223372036854775807 < a.size + 1 := by omega
          have s2 : ¬ 9223372036854775807 < a.size + 1 + b.size := by omega
          have s3 : ¬ 9223372036854775807 < a.size + 1 + b.size + 1 := by omega
          have s4 : ¬ 9223372036854775807 < a.size + 1 + b.size + 1 + tc.size := by omega
          clear ha hb hc
          go_wp2_with fail
          rw [← hV]
          clear hV hx hxc hat
          obtain ⟨hi, hz0, hz1, hz2⟩ := HI.out
          have qV : Below V.heap.size V V.drew := (Below.refl _ _).drew
          have own := HOV.out.drew
          refine wp_region_held_drew (S := fun w' => w'.cell? ⟨wr.heap.size, 0, none⟩ = some (.int .i64 x.n) ∧ w'.cell? ⟨wr.heap.size, 1, none⟩ = some (.int .i64 x.r) ∧ w'.cell? ⟨wr.heap.size, 2, none⟩ = some (.int .i64 x.c) ∧ Below w.heap.size w w') (by kernel_rfl) ⟨(qV.cell (p := ⟨wr.heap.size, 0, none⟩) g0).trans e0, (qV.cell (p := ⟨wr.heap.size, 1, none⟩) g0).trans e1, (qV.cell (p := ⟨wr.heap.size, 2, none⟩) g0).trans e2, bl_step HBV.out qV⟩ (fun hHeld => ?_)
          first
            | (refine heldI_skip 0 19 rfl (by kernel_rfl) (by kernel_rfl) (by kernel_rfl) rfl (fun _ _ _ h => h) (by rfl) (by assumption) ?_)
            | (refine heldI_take 0 19 ?vv68 rfl (by kernel_rfl) (by kernel_rfl) (by kernel_rfl) rfl (fun _ _ _ h => h) (by rfl) ?hy68 (by assumption) ?rest68
               case hy68 => (intro w hSw; (try dsimp only at hSw); go_simp; try with_reducible rfl))
          try simp only [Act.put, List.setIfInBounds_toArray, List.set_cons_zero, List.set_cons_succ]
          first
            | (refine heldI_skip 1 20 rfl (by kernel_rfl) (by kernel_rfl) (by kernel_rfl) rfl (fun _ _ _ h => h) (by rfl) (by assumption) ?_)
            | (refine heldI_take 1 20 ?vv69 rfl (by kernel_rfl) (by kernel_rfl) (by kernel_rfl) rfl (fun _ _ _ h => h) (by rfl) ?hy69 (by assumption) ?rest69
               case hy69 => (intro w hSw; (try dsimp only at hSw); go_simp; try with_reducible rfl))
          try simp only [Act.put, List.setIfInBounds_toArray, List.set_cons_zero, List.set_cons_succ]
          first
            | (refine heldI_skip 2 21 rfl (by kernel_rfl) (by kernel_rfl) (by kernel_rfl) rfl (fun _ _ _ h => h) (by rfl) (by assumption) ?_)
            | (refine heldI_take 2 21 ?vv70 rfl (by kernel_rfl) (by kernel_rfl) (by kernel_rfl) rfl (fun _ _ _ h => h) (by rfl) ?hy70 (by assumption) ?rest70
               case hy70 => (intro w hSw; (try dsimp only at hSw); go_simp; try with_reducible rfl))
          try simp only [Act.put, List.setIfInBounds_toArray, List.set_cons_zero, List.set_cons_succ]
          first
            | (refine heldI_skip 5 24 rfl (by kernel_rfl) (by kernel_rfl) (by kernel_rfl) rfl (fun _ _ _ h => h) (by rfl) (by assumption) ?_)
            | (refine heldI_take 5 24 ?vv71 rfl (by kernel_rfl) (by kernel_rfl) (by kernel_rfl) rfl (fun _ _ _ h => h) (by rfl) ?hy71 (by assumption) ?rest71
               case hy71 => (intro w hSw; (try dsimp only at hSw); go_simp; try with_reducible rfl))
          try simp only [Act.put, List.setIfInBounds_toArray, List.set_cons_zero, List.set_cons_succ]
          first
            | (refine heldI_skip 6 25 rfl (by kernel_rfl) (by kernel_rfl) (by kernel_rfl) rfl (fun _ _ _ h => h) (by rfl) (by assumption) ?_)
            | (refine heldI_take 6 25 ?vv72 rfl (by kernel_rfl) (by kernel_rfl) (by kernel_rfl) rfl (fun _ _ _ h => h) (by rfl) ?hy72 (by assumption) ?rest72
               case hy72 => (intro w hSw; (try dsimp only at hSw); go_simp; try with_reducible rfl))
          try simp only [Act.put, List.setIfInBounds_toArray, List.set_cons_zero, List.set_cons_succ]
          first
            | (refine heldI_skip 10 29 rfl (by kernel_rfl) (by kernel_rfl) (by kernel_rfl) rfl (fun _ _ _ h => h) (by rfl) (by assumption) ?_)
            | (refine heldI_take 10 29 ?vv73 rfl (by kernel_rfl) (by kernel_rfl) (by kernel_rfl) rfl (fun _ _ _ h => h) (by rfl) ?hy73 (by assumption) ?rest73
               case hy73 => (intro w hSw; (try dsimp only at hSw); go_simp; try with_reducible rfl))
          try simp only [Act.put, List.setIfInBounds_toArray, List.set_cons_zero, List.set_cons_succ]
          first
            | (refine heldI_skip 11 30 rfl (by kernel_rfl) (by kernel_rfl) (by kernel_rfl) rfl (fun _ _ _ h => h) (by rfl) (by assumption) ?_)
            | (refine heldI_take 11 30 ?vv74 rfl (by kernel_rfl) (by kernel_rfl) (by kernel_rfl) rfl (fun _ _ _ h => h) (by rfl) ?hy74 (by assumption) ?rest74
               case hy74 => (intro w hSw; (try dsimp only at hSw); go_simp; try with_reducible rfl))
          try simp only [Act.put, List.setIfInBounds_toArray, List.set_cons_zero, List.set_cons_succ]
          refine wpAnyH_ready (rs := [3]) (by kernel_rfl) (by simp) ?_
          refine AllReadyH.cons rfl (fun K hK => ?_) AllReadyH.nil
          go_simp
          refine (text_any x.n _ (by omega) (by omega) (HTV.out.below qV)).mono ?_
          rintro e w2 ⟨rfl, hb⟩
          rw [HN.out]
          go_wp2_with fail
          have qV := bl_step qV hb
          have own := own_step own hb
          refine hK.out _ _ ⟨(qV.cell (p := ⟨wr.heap.size, 0, none⟩) g0).trans e0, (qV.cell (p := ⟨wr.heap.size, 1, none⟩) g0).trans e1, (qV.cell (p := ⟨wr.heap.size, 2, none⟩) g0).trans e2, bl_step HBV.out qV⟩ (fun hHeld => ?_)
          clear hb hK K
          try simp only [Act.put, List.setIfInBounds_toArray, List.set_cons_zero, List.set_cons_succ]
          first
            | (refine heldI_skip 4 23 rfl (by kernel_rfl) (by kernel_rfl) (by kernel_rfl) rfl (fun _ _ _ h => h) (by rfl) (by assumption) ?_)
            | (refine heldI_take 4 23 ?vv75 rfl (by kernel_rfl) (by kernel_rfl) (by kernel_rfl) rfl (fun _ _ _ h => h) (by rfl) ?hy75 (by assumption) ?rest75
               case hy75 => (intro w hSw; (try dsimp only at hSw); go_simp; try with_reducible rfl))
          try simp only [Act.put, List.setIfInBounds_toArray, List.set_cons_zero, List.set_cons_succ]
          refine wpAnyH_ready (rs := [7]) (by kernel_rfl) (by simp) ?_
          refine AllReadyH.cons rfl (fun K hK => ?_) AllReadyH.nil
          go_simp
          refine (text_any x.r _ (by omega) (by omega) (HTV.out.below qV)).mono ?_
          rintro e w3 ⟨rfl, hb⟩
          rw [HR1.out]
          go_wp2_with fail
          have qV := bl_step qV hb
          have own := own_step own hb
          refine hK.out _ _ ⟨(qV.cell (p := ⟨wr.heap.size, 0, none⟩) g0).trans e0, (qV.cell (p := ⟨wr.heap.size, 1, none⟩) g0).trans e1, (qV.cell (p := ⟨wr.heap.size, 2, none⟩) g0).trans e2, bl_step HBV.out qV⟩ (fun hHeld => ?_)
          clear hb hK K
          try simp only [Act.put, List.setIfInBounds_toArray, List.set_cons_zero, List.set_cons_succ]
          first
            | (refine heldI_skip 8 27 rfl (by kernel_rfl) (by kernel_rfl) (by kernel_rfl) rfl (fun _ _ _ h => h) (by rfl) (by assumption) ?_)
            | (refine heldI_take 8 27 ?vv76 rfl (by kernel_rfl) (by kernel_rfl) (by kernel_rfl) rfl (fun _ _ _ h => h) (by rfl) ?hy76 (by assumption) ?rest76
               case hy76 => (intro w hSw; (try dsimp only at hSw); go_simp; try with_reducible rfl))
          try simp only [Act.put, List.setIfInBounds_toArray, List.set_cons_zero, List.set_cons_succ]
          first
            | (refine heldI_skip 9 28 rfl (by kernel_rfl) (by kernel_rfl) (by kernel_rfl) rfl (fun _ _ _ h => h) (by rfl) (by assumption) ?_)
            | (refine heldI_take 9 28 ?vv77 rfl (by kernel_rfl) (by kernel_rfl) (by kernel_rfl) rfl (fun _ _ _ h => h) (by rfl) ?hy77 (by assumption) ?rest77
               case hy77 => (intro w hSw; (try dsimp only at hSw); go_simp; try with_reducible rfl))
          try simp only [Act.put, List.setIfInBounds_toArray, List.set_cons_zero, List.set_cons_succ]
          refine wpAnyH_ready (rs := [12]) (by kernel_rfl) (by simp) ?_
          refine AllReadyH.cons rfl (fun K hK => ?_) AllReadyH.nil
          go_simp
          refine (text_any x.c _ (by omega) (by omega) (HTV.out.below qV)).mono ?_
          rintro e w4 ⟨rfl, hb⟩
          rw [HC.out]
          go_wp2_with fail
          have qV := bl_step qV hb
          have own := own_step own hb
          refine hK.out _ _ ⟨(qV.cell (p := ⟨wr.heap.size, 0, none⟩) g0).trans e0, (qV.cell (p := ⟨wr.heap.size, 1, none⟩) g0).trans e1, (qV.cell (p := ⟨wr.heap.size, 2, none⟩) g0).trans e2, bl_step HBV.out qV⟩ (fun hHeld => ?_)
          clear hb hK K
          try simp only [Act.put, List.setIfInBounds_toArray, List.set_cons_zero, List.set_cons_succ]
          first
            | (refine heldI_skip 13 32 rfl (by kernel_rfl) (by kernel_rfl) (by kernel_rfl) rfl (fun _ _ _ h => h) (by rfl) (by assumption) ?_)
            | (refine heldI_take 13 32 ?vv78 rfl (by kernel_rfl) (by kernel_rfl) (by kernel_rfl) rfl (fun _ _ _ h => h) (by rfl) ?hy78 (by assumption) ?rest78
               case hy78 => (intro w hSw; (try dsimp only at hSw); go_simp; try with_reducible rfl))
          try simp only [Act.put, List.setIfInBounds_toArray, List.set_cons_zero, List.set_cons_succ]
          have HWD := hide (show (a ++ (⟨#[64]⟩ : ByteArray) ++ b ++ (⟨#[44]⟩ : ByteArray) ++ tc) = wordP x from by unfold wordP; rw [HN.out, HR1.out, HC.out])
          generalize (a ++ (⟨#[64]⟩ : ByteArray) ++ b ++ (⟨#[44]⟩ : ByteArray) ++ tc) = WD at HWD ⊢
          refine wpAnyH_ready (rs := [14]) (by kernel_rfl) (by simp) ?_
          refine AllReadyH.cons rfl (fun K hK => ?_) AllReadyH.nil
          go_simp
          have hX : Blk (World.alloc w4 (.cells #[.string WD] 9)) w4.heap.size 9 #[.string WD] := Blk.new w4 _ _
          have q5 : Below V.heap.size V (World.alloc w4 (.cells #[.string WD] 9)) := qV.alloc qV.size _
          have own5 := own.alloc (.cells #[.string WD] 9)
          generalize World.alloc w4 (.cells #[.string WD] 9) = w5 at hX q5 own5 ⊢
          refine hK.out _ _ ⟨(q5.cell (p := ⟨wr.heap.size, 0, none⟩) g0).trans e0, (q5.cell (p := ⟨wr.heap.size, 1, none⟩) g0).trans e1, (q5.cell (p := ⟨wr.heap.size, 2, none⟩) g0).trans e2, bl_step HBV.out q5⟩ (fun hHeld1 => ?_)
          clear hK K
          try simp only [Act.put, List.setIfInBounds_toArray, List.set_cons_zero, List.set_cons_succ]
          refine wpAnyH_ready (rs := [15]) (by kernel_rfl) (by simp) ?_
          refine AllReadyH.cons rfl (fun K hK => ?_) AllReadyH.nil
          refine step_append_ownJ (by rfl) _ _ _ (by rfl) w.heap.size 9 i0 _ 1 16 Tryd.underlying68 hi hz0 hz1 hz2 rfl (by omega) _ k _ (by rfl) own5 ⟨w4.heap.size, 0, none⟩ 1 1 [.string WD] (by rfl) (by rfl) (World.news_of_block (cs := #[.string WD]) (t := 9) (fr := (0, 0)) hX) (by simp [Value.oneCell']) (by unfold maxLen; omega) (by omega) (Nat.le_trans HSV.out q5.size) ?_
          intro v6 w6 hown6 hgrow6
          have q6 : Below w.heap.size w w6 := bl_grown (bl_step HBV.out q5) own5 (Nat.le_refl _) hgrow6
          have hne : some wr.heap.size ≠ u4.ownBlock := fun h => absurd (HOW.out.lt _ h.symm).2 (Nat.lt_irrefl _)
          refine hK.out _ _ ⟨hgrow6.cell ((q5.cell (p := ⟨wr.heap.size, 0, none⟩) g0).trans e0) hne, hgrow6.cell ((q5.cell (p := ⟨wr.heap.size, 1, none⟩) g0).trans e1) hne, hgrow6.cell ((q5.cell (p := ⟨wr.heap.size, 2, none⟩) g0).trans e2) hne, q6⟩ (fun hHeld2 => ?_)
          clear hK K
          try simp only [List.getElem_toArray, List.getElem_cons_succ, List.getElem_cons_zero]
          try simp only [Act.put, List.setIfInBounds_toArray, List.set_cons_zero, List.set_cons_succ]
          refine heldI_take 16 4 ?vv79 rfl (by kernel_rfl) (by kernel_rfl) (by kernel_rfl) rfl (fun _ _ _ h => h) (by rfl) ?hy79 (by assumption) ?rest79
          case hy79 => (intro w hSw; (try dsimp only at hSw); go_simp; try with_reducible rfl)
          try simp only [Act.put, List.setIfInBounds_toArray, List.set_cons_zero, List.set_cons_succ]
          refine wpAnyH_done (by kernel_rfl) ?_ _
          have HB3 := hide q6
          have HO3 : Hid (w6.ownsRow w.heap.size 9 1 v6 (k + 1) ((wordsP (zs.take (k + 1))).flatMap encS)) := hide (by rw [HWT.out, flat_snoc, ← HWD.out]; exact hown6)
          clear hown6 hgrow6 q6 q5 qV own own5 hX hHeld hHeld1 hHeld2 hi hz0 hz1 hz2 hne e0 e1 e2 e3
          go_wp2
          go_roundg (n - (k + 1))
          case measure => omega
          case rel => exact ⟨k + 1, by omega, by omega, by go_num, HO3.out, HB3.out⟩
        · have hltz : ¬ (k : Int) < (n : Int) := by omega
          obtain rfl : k = n := by omega
          have HTK : Hid (zs.take k = zs) := hide (by rw [List.take_of_length_le (by rw [HZ.out]; exact Nat.le_refl _)])
          have HC := hide (joinOwn_any w.heap.size u4 k (wordsP zs) wr (by rw [wordsP_len, HZ.out]) (by omega) (fun y hy => Nat.le_trans (wordsP_size H1.out y hy) (by omega)) (by have := OW.out; rw [HTK.out] at this; exact this))
          have HB9 := hide BW.out
          clear OW
          go_wp2_with fail
          refine HC.out.mono ?_
          rintro e w9 ⟨rfl, hb⟩
          have HBF := hide (bl_step HB9.out hb)
          clear hb HC
          go_wp2
          go_ret2
          exact ⟨ret_sb HO.out.symm rfl, HBF.out⟩

end Go.Proofs.YtdgalehipgdhiaaDoor
