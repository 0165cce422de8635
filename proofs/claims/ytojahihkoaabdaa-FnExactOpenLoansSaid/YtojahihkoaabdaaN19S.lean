/- A number put to its place: the reference. -/
import Derived.Test.YtojahihkoaabdaaN18
import Derived.Test.YtojahihkoaabdaaN4
import Derived.Test.YtojahihkoaabdaaKit4
import Derived.Deep.RegionWith
import Derived.Deep.AppendLies
namespace Go.Proofs.Ytojahihkoaabdaa
open Go.RowKit
set_option linter.unusedVariables false
set_option linter.unusedSimpArgs false

theorem heldI_skip {P : Program} {md : Region.Mode} {ops : Array Oper} {Q : Exit → Act → World → Prop} {S : World → Prop} (i : Nat) (d : Tmp) {oi : Oper} {fuel : Nat} {listed : Array Bool} {a : Act} {w : World} (hi : ops[i]? = some oi)
    (hs : Region.noSelect ops = true) (hf : Region.free md ops listed i = true) (hr : (Region.ready md ops listed).contains i = true) (hd : oi.dst = some d) (hQ : ∀ c a w, Q (.panic c) (a.put (some d) undef) w → Q (.panic c) a w)
    (hw : Region.wanted oi (yielded ops a.tmps) = false) (hS : S w) (h : wpAnyH P md ops Q S fuel (listed.setIfInBounds i true) (a.put (some d) undef) w) : wpAnyH P md ops Q S (fuel + 1) listed a w :=
  wpAnyH_take hi hs hf hr (by rw [hd]; exact hQ) (Or.inr ⟨hw, rfl⟩) hS (by rw [hd]; exact h)
theorem heldI_take {P : Program} {md : Region.Mode} {ops : Array Oper} {Q : Exit → Act → World → Prop} {S : World → Prop} (i : Nat) (d : Tmp) {oi : Oper} (v : Value) {fuel : Nat} {listed : Array Bool} {a : Act} {w : World} (hi : ops[i]? = some oi)
    (hs : Region.noSelect ops = true) (hf : Region.free md ops listed i = true) (hr : (Region.ready md ops listed).contains i = true) (hd : oi.dst = some d) (hQ : ∀ c a w, Q (.panic c) (a.put (some d) v) w → Q (.panic c) a w)
    (hw : Region.wanted oi (yielded ops a.tmps) = true) (hy : ∀ w, S w → (execOp a.eval oi).run P w = .ok (.value v) w) (hS : S w) (h : wpAnyH P md ops Q S fuel (listed.setIfInBounds i true) (a.put (some d) v) w) : wpAnyH P md ops Q S (fuel + 1) listed a w :=
  wpAnyH_take hi hs hf hr (by rw [hd]; exact hQ) (Or.inl ⟨hw, hy⟩) hS (by rw [hd]; exact h)

/-- the address behind the first j -/
def behindJ (g j cap k : Nat) : Addr := if cap = j then ⟨g, 0, none⟩ else ⟨g, j * k, none⟩
section
variable {α : Type} {enc : α → List Value} {k : Nat}
theorem Rd.takeJ {B : Nat} {w : World} {ao : Option Addr} {zs : List α} (j : Nat) (h : Rd enc k B w ao zs) : Rd enc k B w ao (zs.take j) := by
  rcases h with rfl | ⟨b, off, rfl, h1, h2, hc⟩
  · exact .inl (by simp)
  · refine .inr ⟨b, off, rfl, h1, h2, fun i x hx => hc i x ?_⟩
    rw [List.getElem?_take] at hx
    split at hx
    · exact hx
    · cases hx
theorem Rd.behindJ {B : Nat} {w : World} {g n j cap : Nat} {zs : List α} (hz : zs.length = n) (hc : n ≤ cap) (h : Rd enc k B w (some ⟨g, 0, none⟩) zs) : Rd enc k B w (some (behindJ g j cap k)) (zs.drop j) := by
  unfold Go.Proofs.Ytojahihkoaabdaa.behindJ
  split
  · exact .inl (by rw [List.drop_eq_nil_iff]; omega)
  · rcases h with rfl | ⟨b', off', he, h1, h2, hcc⟩
    · exact .inl (by simp)
    · injection he with he; injection he with e1 e2 _; subst e1; subst e2
      refine .inr ⟨g, j * k, rfl, h1, h2, fun i x hx q v hv => ?_⟩
      rw [List.getElem?_drop] at hx
      have := hcc (j + i) x hx q v hv
      rw [show 0 + (j + i) * k + q = j * k + i * k + q from by rw [Nat.add_mul]; omega] at this
      exact this
end
theorem step_append_ownJ {P : Program} {w : World} {ops : Array Oper} {o : Oper} {a : Act} {K : Act → World → Prop} {Q : Exit → Act → World → Prop} {E : Prop} (hgd : o.guard = none) (s x : Operand) (t : TypeId)
    (ho : o.op = .call { callee := .builtin .append, args := #[s, x], argTypes := #[t, t] })
    (base : Nat) (e : TypeId) (i : TypeInfo) (z : Value) (size bytes : Nat) (ht : P.underlying t = some (.slice e)) (hi : P.info? e = some i) (hz : i.zero = some z)
    (hsize : i.size = size) (hby : i.bytes = bytes) (hzs : z.cells.size = size) (hsz : 0 < size)
    (v : Value) (n : Nat) (xs : List Value) (hs : a.eval s = v) (hown : w.ownsRow base e size v n xs)
    (ad : Addr) (m c : Nat) (news : List Value) (hx : a.eval x = .slice (some ad) m c) (hl : news.length = m * size) (hnews : ∀ j u, news[j]? = some u → w.cell? (ad.add j) = some u) (h1 : ∀ u ∈ news, u.oneCell' = true)
    (h63 : n + m ≤ maxLen) (hbytes : (n + m) * bytes ≤ 140737488355328) (hbase : base ≤ w.heap.size)
    (h : ∀ v' w', w'.ownsRow base e size v' (n + m) (xs ++ news) → w.grownBy w' v.ownBlock → K (a.put o.dst v') w') :
    if Region.wanted o (yielded ops a.tmps) = true then Oper.wp P o a w K Q else E := by
  have hw : Region.wanted o (yielded ops a.tmps) = true := by simp [Region.wanted, hgd]
  rw [if_pos hw]
  exact wp_append_own w s x t ho base e i z size bytes ht hi hz hsize hby hzs hsz v n xs hs hown ad m c news hx hl hnews h1 h63 hbytes hbase fun v' w' h2 h3 _ => h v' w' h2 h3
theorem encJ_one {α : Type} {enc : α → List Value} (h : ∀ x, ∀ u ∈ enc x, u.oneCell' = true) (zs : List α) : ∀ u ∈ zs.flatMap enc, u.oneCell' = true := by
  intro u hu
  obtain ⟨x, _, hx⟩ := List.mem_flatMap.1 hu
  exact h x u hx

def rowE {α : Type} (ord : List α) (x : α) (rest : List α) (j : Nat) : List α := ord.take j ++ x :: (ord.drop j ++ rest)
theorem rowE_lenL {α : Type} (ord : List α) (x : α) (j : Nat) : (rowE ord x [] j).length = ord.length + 1 := by unfold rowE; simp; omega
theorem put_rowE {l : List Int} {x : Int} (h : ¬ l[putK l x]? = some x) : putL l x = rowE l x [] (putK l x) := by rw [put_new h]; unfold rowE; simp
set_option maxRecDepth 100000 in
set_option maxHeartbeats 4000000 in
theorem l1Put_any (base g N cap : Nat) (ord : List Int) (x : Int) (w : World) (hN : ord.length = N) (N1 : N ≤ 1000000) (hNc : N ≤ cap) (hcm : cap ≤ maxLen) (ho : w.ownsRow base 3 1 (.slice (some ⟨g, 0, none⟩) N cap) N (ord.flatMap encI)) (hbase : base ≤ w.heap.size) :
    Calls Try.prog 25 #[.slice (some ⟨g, 0, none⟩) N cap, .int .i64 x] w fun e w' => ∃ n' : Nat × Nat, e = .returned (.slice (some ⟨n'.1, 0, none⟩) (putL ord x).length n'.2) ∧ (putL ord x).length ≤ n'.2 ∧ n'.2 ≤ maxLen ∧ w'.ownsRow base 3 1 (.slice (some ⟨n'.1, 0, none⟩) (putL ord x).length n'.2) (putL ord x).length ((putL ord x).flatMap encI) ∧ Below w.heap.size w w' := by
  suffices H : Calls Try.prog 25 #[.slice (some ⟨g, 0, none⟩) N cap, .int .i64 x] w fun e w' => ∃ v, e = .returned v ∧ ∃ g' cap', (v = .slice (some ⟨g', 0, none⟩) (putL ord x).length cap') ∧ (putL ord x).length ≤ cap' ∧ cap' ≤ maxLen ∧ w'.ownsRow base 3 1 v (putL ord x).length ((putL ord x).flatMap encI) ∧ Below w.heap.size w w' by
    refine H.mono ?_
    rintro e w' ⟨v, rfl, g', cap', rfl, h1, h2, h3, h4⟩
    exact ⟨(g', cap'), rfl, h1, h2, h3, h4⟩
  have HON := hide hN
  have HOW := hide ho
  have HRO := hide (own_rd' encI_len ho hN)
  have hinf := infoI
  obtain ⟨i0, hi, hz0, hz1, hz2⟩ := info_parts hinf
  clear hinf
  have HI := hide (And.intro hi (And.intro hz0 (And.intro hz1 hz2)))
  clear hi hz0 hz1 hz2 ho hN
  go_enter Try.func25, Try.ntmps25
  go_wp2
  go_loopg [5] N (fun gk i wr => ∃ j : Nat, j ≤ N ∧ N - j ≤ gk ∧ i = .int .i64 j ∧ wr = w ∧ Aside (∀ q y, q < j → ord[q]? = some y → y < x))
  case atStart => exact ⟨0, Nat.zero_le _, by omega, rfl, rfl, fun q y hq => absurd hq (Nat.not_lt_zero _)⟩
  case round =>
    obtain ⟨j, hjN, hgk, rfl, rfl, A⟩ := hrel
    have kq1 : (j : Int) ≤ (cap : Int) := by omega
    have kq2 : (0 : Int) ≤ (j : Int) := by omega
    have kq3 : (j : Int) ≤ (N : Int) := by omega
    by_cases hlt : j < N
    · have hltz : (j : Int) < (N : Int) := by omega
      obtain ⟨b', off', he, hb', hat⟩ := rdI HRO.out (by rw [HON.out]; omega)
      cases he
      obtain ⟨y, hy, hyc⟩ := hat j (by rw [HON.out]; exact hlt)
      obtain ⟨_, cy⟩ := hyc wr (Below.refl _ _)
      rw [Nat.zero_add] at cy
      have HY := hide hy
      clear hy hyc hat
      by_cases hyx : y < x
      · have HYX := hide hyx
        go_wp2
        go_roundg (N - (j + 1))
        case measure => omega
        case rel => exact ⟨j + 1, by omega, by omega, by go_num, rfl, fun q z hq hz => by
          rcases Nat.lt_succ_iff_lt_or_eq.1 hq with h | h
          · exact A.out q z h hz
          · subst h; rw [HY.out] at hz; injection hz with hz; rw [← hz]; exact HYX.out⟩
      · have HPK : Hid (putK ord x = j) := hide (putK_at (by rw [HON.out]; exact hjN) (fun q z hq hz => A.out q z hq hz) (fun z hz => by rw [HY.out] at hz; injection hz with hz; rw [← hz]; exact hyx))
        by_cases hex : y = x
        · have HPL : Hid (putL ord x = ord) := hide (put_in (by rw [HPK.out, HY.out, hex]))
          subst hex
          go_wp2
          go_ret
          refine ⟨.slice (some ⟨g, 0, none⟩) N cap, rfl, ?_⟩
          exact ⟨g, cap, by rw [HPL.out, HON.out], by rw [HPL.out, HON.out]; exact hNc, hcm, by rw [HPL.out, HON.out]; exact HOW.out, Below.refl _ _⟩
        · have HPL : Hid (putL ord x = rowE ord x [] j) := hide (by rw [put_rowE (by rw [HPK.out, HY.out]; intro h; injection h with h; exact hex h), HPK.out])
          obtain ⟨hi, hz0, hz1, hz2⟩ := HI.out
          obtain ⟨W, hW⟩ : ∃ W, W = wr := ⟨_, rfl⟩
          subst hW
          have HBr := hide (Below.refl W.heap.size W)
          have hwW : W.heap.size ≤ W.heap.size := Nat.le_refl _
          clear A
          go_wp2_with fail
          refine wp_region_held_drew (S := fun w' => Below W.heap.size W w') (by kernel_rfl) (show Below W.heap.size W W.drew from (Below.refl _ _).drew) (fun hHeld => ?_)
          refine heldI_take 1 34 ?vv29 rfl (by kernel_rfl) (by kernel_rfl) (by kernel_rfl) rfl (fun _ _ _ h => h) (by rfl) ?hy29 (by assumption) ?rest29
          case hy29 => (intro w hSw; (try dsimp only at hSw); go_simp; try with_reducible rfl)
          try simp only [Act.put, List.setIfInBounds_toArray, List.set_cons_zero, List.set_cons_succ]
          refine heldI_take 2 35 ?vv30 rfl (by kernel_rfl) (by kernel_rfl) (by kernel_rfl) rfl (fun _ _ _ h => h) (by rfl) ?hy30 (by assumption) ?rest30
          case hy30 => (intro w hSw; (try dsimp only at hSw); go_simp; try with_reducible rfl)
          try simp only [Act.put, List.setIfInBounds_toArray, List.set_cons_zero, List.set_cons_succ]
          refine heldI_take 3 36 (.slice (some ⟨g, 0, none⟩) j cap) rfl (by kernel_rfl) (by kernel_rfl) (by kernel_rfl) rfl (fun _ _ _ h => h) (by rfl) ?hy31 (by assumption) ?rest31
          case hy31 => (intro w hSw; (try dsimp only at hSw); go_simp; first | done | (with_reducible rfl) | (unfold behindJ; by_cases hcc : cap = j <;> simp [hcc]))
          try simp only [Act.put, List.setIfInBounds_toArray, List.set_cons_zero, List.set_cons_succ]
          refine heldI_take 5 38 ?vv32 rfl (by kernel_rfl) (by kernel_rfl) (by kernel_rfl) rfl (fun _ _ _ h => h) (by rfl) ?hy32 (by assumption) ?rest32
          case hy32 => (intro w hSw; (try dsimp only at hSw); go_simp; try with_reducible rfl)
          try simp only [Act.put, List.setIfInBounds_toArray, List.set_cons_zero, List.set_cons_succ]
          refine heldI_take 8 41 ?vv33 rfl (by kernel_rfl) (by kernel_rfl) (by kernel_rfl) rfl (fun _ _ _ h => h) (by rfl) ?hy33 (by assumption) ?rest33
          case hy33 => (intro w hSw; (try dsimp only at hSw); go_simp; try with_reducible rfl)
          try simp only [Act.put, List.setIfInBounds_toArray, List.set_cons_zero, List.set_cons_succ]
          refine heldI_take 9 42 ?vv34 rfl (by kernel_rfl) (by kernel_rfl) (by kernel_rfl) rfl (fun _ _ _ h => h) (by rfl) ?hy34 (by assumption) ?rest34
          case hy34 => (intro w hSw; (try dsimp only at hSw); go_simp; try with_reducible rfl)
          try simp only [Act.put, List.setIfInBounds_toArray, List.set_cons_zero, List.set_cons_succ]
          refine heldI_take 10 43 (.slice (some (behindJ g j cap 1)) (N - j) (cap - j)) rfl (by kernel_rfl) (by kernel_rfl) (by kernel_rfl) rfl (fun _ _ _ h => h) (by rfl) ?hy35 (by assumption) ?rest35
          case hy35 => (intro w hSw; (try dsimp only at hSw); go_simp; first | done | (with_reducible rfl) | (unfold behindJ; by_cases hcc : cap = j <;> simp [hcc]))
          try simp only [Act.put, List.setIfInBounds_toArray, List.set_cons_zero, List.set_cons_succ]
          refine wpAnyH_ready (rs := [0, 6]) (by kernel_rfl) (by simp) ?_
          refine AllReadyH.cons rfl (fun K hK => ?_) (AllReadyH.cons rfl (fun K hK => ?_) AllReadyH.nil)
          · go_simp
            have own0 : ((World.alloc W (.cells #[] 3)).drew).ownsRow W.heap.size 3 1 (.slice (some ⟨W.heap.size, 0, none⟩) 0 0) 0 [] := World.ownsRow_made W.drew #[] 0 (Nat.le_refl _) (by simp [maxLen]) rfl
            have q1 : Below W.heap.size W ((World.alloc W (.cells #[] 3)).drew) := (Below.drew (Below.refl W.heap.size W)).alloc (Nat.le_refl _) _
            have gE : W.heap.size < ((World.alloc W (.cells #[] 3)).drew).heap.size := by simp
            generalize (World.alloc W (.cells #[] 3)).drew = u1 at own0 q1 gE ⊢
            refine hK.out _ _ q1 (fun hHeld1 => ?_)
            clear hK K
            try simp only [Act.put, List.setIfInBounds_toArray, List.set_cons_zero, List.set_cons_succ]
            refine wpAnyH_ready (rs := [4, 6]) (by kernel_rfl) (by simp) ?_
            refine AllReadyH.cons rfl (fun K hK => ?_) (AllReadyH.cons rfl (fun K hK => ?_) AllReadyH.nil)
            · refine step_append_ownJ (by rfl) _ _ _ (by rfl) W.heap.size 3 i0 _ 1 8 Try.underlying30 hi hz0 hz1 hz2 rfl (by omega) _ 0 [] (by rfl) own0 ⟨g, 0, none⟩ j cap ((ord.take j).flatMap encI) (by rfl) (by rw [flat_len encI_len, List.length_take, HON.out, Nat.min_eq_left hjN]) (rd_flat encI_len ((rd_at0 HRO.out q1).takeJ j)) (encJ_one (fun x u hu => by simp [encI] at hu; subst hu; rfl) _) (by unfold maxLen; omega) (by omega) q1.size ?_
              intro v3 w3 hown3 hgrow3
              have q3 : Below W.heap.size W w3 := bl_grown q1 own0 (Nat.le_refl _) hgrow3
              have ho3 : w3.ownsRow W.heap.size 3 1 v3 j ((ord.take j).flatMap encI) := by first | exact hown3 | (rw [Nat.zero_add, List.nil_append] at hown3; exact hown3)
              clear hown3
              refine hK.out _ _ q3 (fun hHeld2 => ?_)
              clear hK K
              try simp only [Act.put, List.setIfInBounds_toArray, List.set_cons_zero, List.set_cons_succ]
              refine wpAnyH_ready (rs := [6]) (by kernel_rfl) (by simp) ?_
              refine AllReadyH.cons rfl (fun K hK => ?_) AllReadyH.nil
              go_simp
              have hX : Blk (World.alloc w3 (.cells #[.int .i64 x] 3)) w3.heap.size 3 #[.int .i64 x] := Blk.new w3 _ _
              have q2 : Below W.heap.size W (World.alloc w3 (.cells #[.int .i64 x] 3)) := q3.alloc q3.size _
              have gX : w3.heap.size < (World.alloc w3 (.cells #[.int .i64 x] 3)).heap.size := by simp
              have ho3 := ho3.alloc (.cells #[.int .i64 x] 3)
              generalize World.alloc w3 (.cells #[.int .i64 x] 3) = u2 at ho3 hX q2 gX ⊢
              refine hK.out _ _ q2 (fun hHeld3 => ?_)
              clear hK K
              try simp only [Act.put, List.setIfInBounds_toArray, List.set_cons_zero, List.set_cons_succ]
              refine wpAnyH_ready (rs := [7]) (by kernel_rfl) (by simp) ?_
              refine AllReadyH.cons rfl (fun K hK => ?_) AllReadyH.nil
              refine step_append_ownJ (by rfl) _ _ _ (by rfl) W.heap.size 3 i0 _ 1 8 Try.underlying30 hi hz0 hz1 hz2 rfl (by omega) _ j _ (by rfl) ho3 ⟨w3.heap.size, 0, none⟩ 1 1 ([.int .i64 x]) (by rfl) (by rfl) (World.news_of_block (cs := #[.int .i64 x]) (t := 3) (fr := (0, 0)) hX) (by simp [Value.oneCell']) (by unfold maxLen; omega) (by omega) q2.size ?_
              intro v4 w4 hown4 hgrow4
              have q4 : Below W.heap.size W w4 := bl_grown q2 ho3 (Nat.le_refl _) hgrow4
              refine hK.out _ _ q4 (fun hHeld4 => ?_)
              clear hK K
              try simp only [Act.put, List.setIfInBounds_toArray, List.set_cons_zero, List.set_cons_succ]
              clear hgrow4
              refine wpAnyH_ready (rs := [11]) (by kernel_rfl) (by simp) ?_
              refine AllReadyH.cons rfl (fun K hK => ?_) AllReadyH.nil
              refine step_append_ownJ (by rfl) _ _ _ (by rfl) W.heap.size 3 i0 _ 1 8 Try.underlying30 hi hz0 hz1 hz2 rfl (by omega) _ (j + 1) _ (by rfl) hown4 (behindJ g j cap 1) (N - j) (cap - j) ((ord.drop j).flatMap encI) (by rfl) (by rw [flat_len encI_len, List.length_drop, HON.out]) (rd_flat encI_len (Rd.behindJ HON.out hNc (rd_at0 HRO.out q4))) (encJ_one (fun x u hu => by simp [encI] at hu; subst hu; rfl) _) (by unfold maxLen; omega) (by omega) q4.size ?_
              intro v5 w5 hown5 hgrow5
              have q5 : Below W.heap.size W w5 := bl_grown q4 hown4 (Nat.le_refl _) hgrow5
              refine hK.out _ _ q5 (fun hHeld5 => ?_)
              clear hK K
              try simp only [Act.put, List.setIfInBounds_toArray, List.set_cons_zero, List.set_cons_succ]
              try simp only [List.getElem_toArray, List.getElem_cons_succ, List.getElem_cons_zero]
              try simp only [Act.put, List.setIfInBounds_toArray, List.set_cons_zero, List.set_cons_succ]
              refine heldI_take 12 4 ?vv36 rfl (by kernel_rfl) (by kernel_rfl) (by kernel_rfl) rfl (fun _ _ _ h => h) (by rfl) ?hy36 (by assumption) ?rest36
              case hy36 => (intro w hSw; (try dsimp only at hSw); go_simp; try with_reducible rfl)
              try simp only [Act.put, List.setIfInBounds_toArray, List.set_cons_zero, List.set_cons_succ]
              refine wpAnyH_done (by kernel_rfl) ?_ _
              have ho5 : w5.ownsRow W.heap.size 3 1 v5 (N + 1) ((rowE ord x [] j).flatMap encI) := by
                have e1 : j + 1 + (N - j) = N + 1 := by omega
                have h9 := hown5
                rw [e1] at h9
                have e2 : (rowE ord x [] j).flatMap encI = (ord.take j).flatMap encI ++ [.int .i64 x] ++ (ord.drop j).flatMap encI := by unfold rowE; simp [encI]
                rw [e2]; exact h9
              have HO5 := hide ho5
              have HB5 := hide q5
              clear ho5 hown5 hgrow5 q5 hown4 q4 ho3
              try clear q3
              try clear q2
              try clear q1
              try clear own0
              try clear hX
              try clear gX
              try clear gE
              try clear hgrow3
              clear hi hz0 hz1 hz2
              have hlen : (rowE ord x [] j).length = N + 1 := by rw [rowE_lenL, HON.out]
              rcases own_form encI_len HO5.out hlen with ⟨_, h0, _⟩ | ⟨g', cap', cs, rfl, hg', hB', hs', hnc', hm', ht'⟩
              · omega
              have HO6 := hide (own_baseL HO5.out (Nat.le_trans hbase hwW))
              clear hB' hs' ht' hg' hlen
              go_wp2
              go_ret
              refine ⟨.slice (some ⟨g', 0, none⟩) (N + 1) cap', rfl, ?_⟩
              exact ⟨g', cap', by rw [HPL.out, rowE_lenL, HON.out], by rw [HPL.out, rowE_lenL, HON.out]; exact hnc', hm', by rw [HPL.out, rowE_lenL, HON.out]; exact HO6.out, HBr.out.trans (HB5.out.mono HBr.out.size)⟩
            · go_simp
              have hX : Blk (World.alloc u1 (.cells #[.int .i64 x] 3)) u1.heap.size 3 #[.int .i64 x] := Blk.new u1 _ _
              have q2 : Below W.heap.size W (World.alloc u1 (.cells #[.int .i64 x] 3)) := q1.alloc q1.size _
              have gX : u1.heap.size < (World.alloc u1 (.cells #[.int .i64 x] 3)).heap.size := by simp
              have own0 := own0.alloc (.cells #[.int .i64 x] 3)
              generalize World.alloc u1 (.cells #[.int .i64 x] 3) = u2 at own0 hX q2 gX ⊢
              refine hK.out _ _ q2 (fun hHeld6 => ?_)
              clear hK K
              try simp only [Act.put, List.setIfInBounds_toArray, List.set_cons_zero, List.set_cons_succ]
              refine wpAnyH_ready (rs := [4]) (by kernel_rfl) (by simp) ?_
              refine AllReadyH.cons rfl (fun K hK => ?_) AllReadyH.nil
              refine step_append_ownJ (by rfl) _ _ _ (by rfl) W.heap.size 3 i0 _ 1 8 Try.underlying30 hi hz0 hz1 hz2 rfl (by omega) _ 0 [] (by rfl) own0 ⟨g, 0, none⟩ j cap ((ord.take j).flatMap encI) (by rfl) (by rw [flat_len encI_len, List.length_take, HON.out, Nat.min_eq_left hjN]) (rd_flat encI_len ((rd_at0 HRO.out q2).takeJ j)) (encJ_one (fun x u hu => by simp [encI] at hu; subst hu; rfl) _) (by unfold maxLen; omega) (by omega) q2.size ?_
              intro v3 w3 hown3 hgrow3
              have q3 : Below W.heap.size W w3 := bl_grown q2 own0 (Nat.le_refl _) hgrow3
              have ho3 : w3.ownsRow W.heap.size 3 1 v3 j ((ord.take j).flatMap encI) := by first | exact hown3 | (rw [Nat.zero_add, List.nil_append] at hown3; exact hown3)
              clear hown3
              have hX := hX.grown hgrow3 (by simp [Value.ownBlock]; omega)
              refine hK.out _ _ q3 (fun hHeld7 => ?_)
              clear hK K
              try simp only [Act.put, List.setIfInBounds_toArray, List.set_cons_zero, List.set_cons_succ]
              refine wpAnyH_ready (rs := [7]) (by kernel_rfl) (by simp) ?_
              refine AllReadyH.cons rfl (fun K hK => ?_) AllReadyH.nil
              refine step_append_ownJ (by rfl) _ _ _ (by rfl) W.heap.size 3 i0 _ 1 8 Try.underlying30 hi hz0 hz1 hz2 rfl (by omega) _ j _ (by rfl) ho3 ⟨u1.heap.size, 0, none⟩ 1 1 ([.int .i64 x]) (by rfl) (by rfl) (World.news_of_block (cs := #[.int .i64 x]) (t := 3) (fr := (0, 0)) hX) (by simp [Value.oneCell']) (by unfold maxLen; omega) (by omega) q3.size ?_
              intro v4 w4 hown4 hgrow4
              have q4 : Below W.heap.size W w4 := bl_grown q3 ho3 (Nat.le_refl _) hgrow4
              refine hK.out _ _ q4 (fun hHeld8 => ?_)
              clear hK K
              try simp only [Act.put, List.setIfInBounds_toArray, List.set_cons_zero, List.set_cons_succ]
              clear hgrow4
              refine wpAnyH_ready (rs := [11]) (by kernel_rfl) (by simp) ?_
              refine AllReadyH.cons rfl (fun K hK => ?_) AllReadyH.nil
              refine step_append_ownJ (by rfl) _ _ _ (by rfl) W.heap.size 3 i0 _ 1 8 Try.underlying30 hi hz0 hz1 hz2 rfl (by omega) _ (j + 1) _ (by rfl) hown4 (behindJ g j cap 1) (N - j) (cap - j) ((ord.drop j).flatMap encI) (by rfl) (by rw [flat_len encI_len, List.length_drop, HON.out]) (rd_flat encI_len (Rd.behindJ HON.out hNc (rd_at0 HRO.out q4))) (encJ_one (fun x u hu => by simp [encI] at hu; subst hu; rfl) _) (by unfold maxLen; omega) (by omega) q4.size ?_
              intro v5 w5 hown5 hgrow5
              have q5 : Below W.heap.size W w5 := bl_grown q4 hown4 (Nat.le_refl _) hgrow5
              refine hK.out _ _ q5 (fun hHeld9 => ?_)
              clear hK K
              try simp only [Act.put, List.setIfInBounds_toArray, List.set_cons_zero, List.set_cons_succ]
              try simp only [List.getElem_toArray, List.getElem_cons_succ, List.getElem_cons_zero]
              try simp only [Act.put, List.setIfInBounds_toArray, List.set_cons_zero, List.set_cons_succ]
              refine heldI_take 12 4 ?vv37 rfl (by kernel_rfl) (by kernel_rfl) (by kernel_rfl) rfl (fun _ _ _ h => h) (by rfl) ?hy37 (by assumption) ?rest37
              case hy37 => (intro w hSw; (try dsimp only at hSw); go_simp; try with_reducible rfl)
              try simp only [Act.put, List.setIfInBounds_toArray, List.set_cons_zero, List.set_cons_succ]
              refine wpAnyH_done (by kernel_rfl) ?_ _
              have ho5 : w5.ownsRow W.heap.size 3 1 v5 (N + 1) ((rowE ord x [] j).flatMap encI) := by
                have e1 : j + 1 + (N - j) = N + 1 := by omega
                have h9 := hown5
                rw [e1] at h9
                have e2 : (rowE ord x [] j).flatMap encI = (ord.take j).flatMap encI ++ [.int .i64 x] ++ (ord.drop j).flatMap encI := by unfold rowE; simp [encI]
                rw [e2]; exact h9
              have HO5 := hide ho5
              have HB5 := hide q5
              clear ho5 hown5 hgrow5 q5 hown4 q4 ho3
              try clear q3
              try clear q2
              try clear q1
              try clear own0
              try clear hX
              try clear gX
              try clear gE
              try clear hgrow3
              clear hi hz0 hz1 hz2
              have hlen : (rowE ord x [] j).length = N + 1 := by rw [rowE_lenL, HON.out]
              rcases own_form encI_len HO5.out hlen with ⟨_, h0, _⟩ | ⟨g', cap', cs, rfl, hg', hB', hs', hnc', hm', ht'⟩
              · omega
              have HO6 := hide (own_baseL HO5.out (Nat.le_trans hbase hwW))
              clear hB' hs' ht' hg' hlen
              go_wp2
              go_ret
              refine ⟨.slice (some ⟨g', 0, none⟩) (N + 1) cap', rfl, ?_⟩
              exact ⟨g', cap', by rw [HPL.out, rowE_lenL, HON.out], by rw [HPL.out, rowE_lenL, HON.out]; exact hnc', hm', by rw [HPL.out, rowE_lenL, HON.out]; exact HO6.out, HBr.out.trans (HB5.out.mono HBr.out.size)⟩
          · go_simp
            have hX : Blk ((World.alloc W (.cells #[.int .i64 x] 3)).drew) W.heap.size 3 #[.int .i64 x] := Blk.new W.drew _ _
            have q1 : Below W.heap.size W ((World.alloc W (.cells #[.int .i64 x] 3)).drew) := (Below.drew (Below.refl W.heap.size W)).alloc (Nat.le_refl _) _
            have gX : W.heap.size < ((World.alloc W (.cells #[.int .i64 x] 3)).drew).heap.size := by simp
            generalize (World.alloc W (.cells #[.int .i64 x] 3)).drew = u1 at hX q1 gX ⊢
            refine hK.out _ _ q1 (fun hHeld10 => ?_)
            clear hK K
            try simp only [Act.put, List.setIfInBounds_toArray, List.set_cons_zero, List.set_cons_succ]
            refine wpAnyH_ready (rs := [0]) (by kernel_rfl) (by simp) ?_
            refine AllReadyH.cons rfl (fun K hK => ?_) AllReadyH.nil
            go_simp
            have own0 : (World.alloc u1 (.cells #[] 3)).ownsRow W.heap.size 3 1 (.slice (some ⟨u1.heap.size, 0, none⟩) 0 0) 0 [] := World.ownsRow_made u1 #[] 0 q1.size (by simp [maxLen]) rfl
            have q2 : Below W.heap.size W (World.alloc u1 (.cells #[] 3)) := q1.alloc q1.size _
            have gE : u1.heap.size < (World.alloc u1 (.cells #[] 3)).heap.size := by simp
            have hX := hX.alloc (.cells #[] 3)
            generalize World.alloc u1 (.cells #[] 3) = u2 at own0 hX q2 gE ⊢
            refine hK.out _ _ q2 (fun hHeld11 => ?_)
            clear hK K
            try simp only [Act.put, List.setIfInBounds_toArray, List.set_cons_zero, List.set_cons_succ]
            refine wpAnyH_ready (rs := [4]) (by kernel_rfl) (by simp) ?_
            refine AllReadyH.cons rfl (fun K hK => ?_) AllReadyH.nil
            refine step_append_ownJ (by rfl) _ _ _ (by rfl) W.heap.size 3 i0 _ 1 8 Try.underlying30 hi hz0 hz1 hz2 rfl (by omega) _ 0 [] (by rfl) own0 ⟨g, 0, none⟩ j cap ((ord.take j).flatMap encI) (by rfl) (by rw [flat_len encI_len, List.length_take, HON.out, Nat.min_eq_left hjN]) (rd_flat encI_len ((rd_at0 HRO.out q2).takeJ j)) (encJ_one (fun x u hu => by simp [encI] at hu; subst hu; rfl) _) (by unfold maxLen; omega) (by omega) q2.size ?_
            intro v3 w3 hown3 hgrow3
            have q3 : Below W.heap.size W w3 := bl_grown q2 own0 (Nat.le_refl _) hgrow3
            have ho3 : w3.ownsRow W.heap.size 3 1 v3 j ((ord.take j).flatMap encI) := by first | exact hown3 | (rw [Nat.zero_add, List.nil_append] at hown3; exact hown3)
            clear hown3
            have hX := hX.grown hgrow3 (by simp [Value.ownBlock]; omega)
            refine hK.out _ _ q3 (fun hHeld12 => ?_)
            clear hK K
            try simp only [Act.put, List.setIfInBounds_toArray, List.set_cons_zero, List.set_cons_succ]
            refine wpAnyH_ready (rs := [7]) (by kernel_rfl) (by simp) ?_
            refine AllReadyH.cons rfl (fun K hK => ?_) AllReadyH.nil
            refine step_append_ownJ (by rfl) _ _ _ (by rfl) W.heap.size 3 i0 _ 1 8 Try.underlying30 hi hz0 hz1 hz2 rfl (by omega) _ j _ (by rfl) ho3 ⟨W.heap.size, 0, none⟩ 1 1 ([.int .i64 x]) (by rfl) (by rfl) (World.news_of_block (cs := #[.int .i64 x]) (t := 3) (fr := (0, 0)) hX) (by simp [Value.oneCell']) (by unfold maxLen; omega) (by omega) q3.size ?_
            intro v4 w4 hown4 hgrow4
            have q4 : Below W.heap.size W w4 := bl_grown q3 ho3 (Nat.le_refl _) hgrow4
            refine hK.out _ _ q4 (fun hHeld13 => ?_)
            clear hK K
            try simp only [Act.put, List.setIfInBounds_toArray, List.set_cons_zero, List.set_cons_succ]
            clear hgrow4
            refine wpAnyH_ready (rs := [11]) (by kernel_rfl) (by simp) ?_
            refine AllReadyH.cons rfl (fun K hK => ?_) AllReadyH.nil
            refine step_append_ownJ (by rfl) _ _ _ (by rfl) W.heap.size 3 i0 _ 1 8 Try.underlying30 hi hz0 hz1 hz2 rfl (by omega) _ (j + 1) _ (by rfl) hown4 (behindJ g j cap 1) (N - j) (cap - j) ((ord.drop j).flatMap encI) (by rfl) (by rw [flat_len encI_len, List.length_drop, HON.out]) (rd_flat encI_len (Rd.behindJ HON.out hNc (rd_at0 HRO.out q4))) (encJ_one (fun x u hu => by simp [encI] at hu; subst hu; rfl) _) (by unfold maxLen; omega) (by omega) q4.size ?_
            intro v5 w5 hown5 hgrow5
            have q5 : Below W.heap.size W w5 := bl_grown q4 hown4 (Nat.le_refl _) hgrow5
            refine hK.out _ _ q5 (fun hHeld14 => ?_)
            clear hK K
            try simp only [Act.put, List.setIfInBounds_toArray, List.set_cons_zero, List.set_cons_succ]
            try simp only [List.getElem_toArray, List.getElem_cons_succ, List.getElem_cons_zero]
            try simp only [Act.put, List.setIfInBounds_toArray, List.set_cons_zero, List.set_cons_succ]
            refine heldI_take 12 4 ?vv38 rfl (by kernel_rfl) (by kernel_rfl) (by kernel_rfl) rfl (fun _ _ _ h => h) (by rfl) ?hy38 (by assumption) ?rest38
            case hy38 => (intro w hSw; (try dsimp only at hSw); go_simp; try with_reducible rfl)
            try simp only [Act.put, List.setIfInBounds_toArray, List.set_cons_zero, List.set_cons_succ]
            refine wpAnyH_done (by kernel_rfl) ?_ _
            have ho5 : w5.ownsRow W.heap.size 3 1 v5 (N + 1) ((rowE ord x [] j).flatMap encI) := by
              have e1 : j + 1 + (N - j) = N + 1 := by omega
              have h9 := hown5
              rw [e1] at h9
              have e2 : (rowE ord x [] j).flatMap encI = (ord.take j).flatMap encI ++ [.int .i64 x] ++ (ord.drop j).flatMap encI := by unfold rowE; simp [encI]
              rw [e2]; exact h9
            have HO5 := hide ho5
            have HB5 := hide q5
            clear ho5 hown5 hgrow5 q5 hown4 q4 ho3
            try clear q3
            try clear q2
            try clear q1
            try clear own0
            try clear hX
            try clear gX
            try clear gE
            try clear hgrow3
            clear hi hz0 hz1 hz2
            have hlen : (rowE ord x [] j).length = N + 1 := by rw [rowE_lenL, HON.out]
            rcases own_form encI_len HO5.out hlen with ⟨_, h0, _⟩ | ⟨g', cap', cs, rfl, hg', hB', hs', hnc', hm', ht'⟩
            · omega
            have HO6 := hide (own_baseL HO5.out (Nat.le_trans hbase hwW))
            clear hB' hs' ht' hg' hlen
            go_wp2
            go_ret
            refine ⟨.slice (some ⟨g', 0, none⟩) (N + 1) cap', rfl, ?_⟩
            exact ⟨g', cap', by rw [HPL.out, rowE_lenL, HON.out], by rw [HPL.out, rowE_lenL, HON.out]; exact hnc', hm', by rw [HPL.out, rowE_lenL, HON.out]; exact HO6.out, HBr.out.trans (HB5.out.mono HBr.out.size)⟩
    · have hltz : ¬ (j : Int) < (N : Int) := by omega
      have HPK : Hid (putK ord x = j) := hide (putK_at (by rw [HON.out]; exact hjN) (fun q z hq hz => A.out q z hq hz) (fun z hz => by rw [List.getElem?_eq_none (by rw [HON.out]; omega)] at hz; cases hz))
      have HPL : Hid (putL ord x = rowE ord x [] j) := hide (by rw [put_rowE (by rw [HPK.out, List.getElem?_eq_none (by rw [HON.out]; omega)]; simp), HPK.out])
      obtain ⟨hi, hz0, hz1, hz2⟩ := HI.out
      obtain ⟨W, hW⟩ : ∃ W, W = wr := ⟨_, rfl⟩
      subst hW
      have HBr := hide (Below.refl W.heap.size W)
      have hwW : W.heap.size ≤ W.heap.size := Nat.le_refl _
      clear A
      go_wp2_with fail
      refine wp_region_held_drew (S := fun w' => Below W.heap.size W w') (by kernel_rfl) (show Below W.heap.size W W.drew from (Below.refl _ _).drew) (fun hHeld => ?_)
      refine heldI_take 1 34 ?vv39 rfl (by kernel_rfl) (by kernel_rfl) (by kernel_rfl) rfl (fun _ _ _ h => h) (by rfl) ?hy39 (by assumption) ?rest39
      case hy39 => (intro w hSw; (try dsimp only at hSw); go_simp; try with_reducible rfl)
      try simp only [Act.put, List.setIfInBounds_toArray, List.set_cons_zero, List.set_cons_succ]
      refine heldI_take 2 35 ?vv40 rfl (by kernel_rfl) (by kernel_rfl) (by kernel_rfl) rfl (fun _ _ _ h => h) (by rfl) ?hy40 (by assumption) ?rest40
      case hy40 => (intro w hSw; (try dsimp only at hSw); go_simp; try with_reducible rfl)
      try simp only [Act.put, List.setIfInBounds_toArray, List.set_cons_zero, List.set_cons_succ]
      refine heldI_take 3 36 (.slice (some ⟨g, 0, none⟩) j cap) rfl (by kernel_rfl) (by kernel_rfl) (by kernel_rfl) rfl (fun _ _ _ h => h) (by rfl) ?hy41 (by assumption) ?rest41
      case hy41 => (intro w hSw; (try dsimp only at hSw); go_simp; first | done | (with_reducible rfl) | (unfold behindJ; by_cases hcc : cap = j <;> simp [hcc]))
      try simp only [Act.put, List.setIfInBounds_toArray, List.set_cons_zero, List.set_cons_succ]
      refine heldI_take 5 38 ?vv42 rfl (by kernel_rfl) (by kernel_rfl) (by kernel_rfl) rfl (fun _ _ _ h => h) (by rfl) ?hy42 (by assumption) ?rest42
      case hy42 => (intro w hSw; (try dsimp only at hSw); go_simp; try with_reducible rfl)
      try simp only [Act.put, List.setIfInBounds_toArray, List.set_cons_zero, List.set_cons_succ]
      refine heldI_take 8 41 ?vv43 rfl (by kernel_rfl) (by kernel_rfl) (by kernel_rfl) rfl (fun _ _ _ h => h) (by rfl) ?hy43 (by assumption) ?rest43
      case hy43 => (intro w hSw; (try dsimp only at hSw); go_simp; try with_reducible rfl)
      try simp only [Act.put, List.setIfInBounds_toArray, List.set_cons_zero, List.set_cons_succ]
      refine heldI_take 9 42 ?vv44 rfl (by kernel_rfl) (by kernel_rfl) (by kernel_rfl) rfl (fun _ _ _ h => h) (by rfl) ?hy44 (by assumption) ?rest44
      case hy44 => (intro w hSw; (try dsimp only at hSw); go_simp; try with_reducible rfl)
      try simp only [Act.put, List.setIfInBounds_toArray, List.set_cons_zero, List.set_cons_succ]
      refine heldI_take 10 43 (.slice (some (behindJ g j cap 1)) (N - j) (cap - j)) rfl (by kernel_rfl) (by kernel_rfl) (by kernel_rfl) rfl (fun _ _ _ h => h) (by rfl) ?hy45 (by assumption) ?rest45
      case hy45 => (intro w hSw; (try dsimp only at hSw); go_simp; first | done | (with_reducible rfl) | (unfold behindJ; by_cases hcc : cap = j <;> simp [hcc]))
      try simp only [Act.put, List.setIfInBounds_toArray, List.set_cons_zero, List.set_cons_succ]
      refine wpAnyH_ready (rs := [0, 6]) (by kernel_rfl) (by simp) ?_
      refine AllReadyH.cons rfl (fun K hK => ?_) (AllReadyH.cons rfl (fun K hK => ?_) AllReadyH.nil)
      · go_simp
        have own0 : ((World.alloc W (.cells #[] 3)).drew).ownsRow W.heap.size 3 1 (.slice (some ⟨W.heap.size, 0, none⟩) 0 0) 0 [] := World.ownsRow_made W.drew #[] 0 (Nat.le_refl _) (by simp [maxLen]) rfl
        have q1 : Below W.heap.size W ((World.alloc W (.cells #[] 3)).drew) := (Below.drew (Below.refl W.heap.size W)).alloc (Nat.le_refl _) _
        have gE : W.heap.size < ((World.alloc W (.cells #[] 3)).drew).heap.size := by simp
        generalize (World.alloc W (.cells #[] 3)).drew = u1 at own0 q1 gE ⊢
        refine hK.out _ _ q1 (fun hHeld1 => ?_)
        clear hK K
        try simp only [Act.put, List.setIfInBounds_toArray, List.set_cons_zero, List.set_cons_succ]
        refine wpAnyH_ready (rs := [4, 6]) (by kernel_rfl) (by simp) ?_
        refine AllReadyH.cons rfl (fun K hK => ?_) (AllReadyH.cons rfl (fun K hK => ?_) AllReadyH.nil)
        · refine step_append_ownJ (by rfl) _ _ _ (by rfl) W.heap.size 3 i0 _ 1 8 Try.underlying30 hi hz0 hz1 hz2 rfl (by omega) _ 0 [] (by rfl) own0 ⟨g, 0, none⟩ j cap ((ord.take j).flatMap encI) (by rfl) (by rw [flat_len encI_len, List.length_take, HON.out, Nat.min_eq_left hjN]) (rd_flat encI_len ((rd_at0 HRO.out q1).takeJ j)) (encJ_one (fun x u hu => by simp [encI] at hu; subst hu; rfl) _) (by unfold maxLen; omega) (by omega) q1.size ?_
          intro v3 w3 hown3 hgrow3
          have q3 : Below W.heap.size W w3 := bl_grown q1 own0 (Nat.le_refl _) hgrow3
          have ho3 : w3.ownsRow W.heap.size 3 1 v3 j ((ord.take j).flatMap encI) := by first | exact hown3 | (rw [Nat.zero_add, List.nil_append] at hown3; exact hown3)
          clear hown3
          refine hK.out _ _ q3 (fun hHeld2 => ?_)
          clear hK K
          try simp only [Act.put, List.setIfInBounds_toArray, List.set_cons_zero, List.set_cons_succ]
          refine wpAnyH_ready (rs := [6]) (by kernel_rfl) (by simp) ?_
          refine AllReadyH.cons rfl (fun K hK => ?_) AllReadyH.nil
          go_simp
          have hX : Blk (World.alloc w3 (.cells #[.int .i64 x] 3)) w3.heap.size 3 #[.int .i64 x] := Blk.new w3 _ _
          have q2 : Below W.heap.size W (World.alloc w3 (.cells #[.int .i64 x] 3)) := q3.alloc q3.size _
          have gX : w3.heap.size < (World.alloc w3 (.cells #[.int .i64 x] 3)).heap.size := by simp
          have ho3 := ho3.alloc (.cells #[.int .i64 x] 3)
          generalize World.alloc w3 (.cells #[.int .i64 x] 3) = u2 at ho3 hX q2 gX ⊢
          refine hK.out _ _ q2 (fun hHeld3 => ?_)
          clear hK K
          try simp only [Act.put, List.setIfInBounds_toArray, List.set_cons_zero, List.set_cons_succ]
          refine wpAnyH_ready (rs := [7]) (by kernel_rfl) (by simp) ?_
          refine AllReadyH.cons rfl (fun K hK => ?_) AllReadyH.nil
          refine step_append_ownJ (by rfl) _ _ _ (by rfl) W.heap.size 3 i0 _ 1 8 Try.underlying30 hi hz0 hz1 hz2 rfl (by omega) _ j _ (by rfl) ho3 ⟨w3.heap.size, 0, none⟩ 1 1 ([.int .i64 x]) (by rfl) (by rfl) (World.news_of_block (cs := #[.int .i64 x]) (t := 3) (fr := (0, 0)) hX) (by simp [Value.oneCell']) (by unfold maxLen; omega) (by omega) q2.size ?_
          intro v4 w4 hown4 hgrow4
          have q4 : Below W.heap.size W w4 := bl_grown q2 ho3 (Nat.le_refl _) hgrow4
          refine hK.out _ _ q4 (fun hHeld4 => ?_)
          clear hK K
          try simp only [Act.put, List.setIfInBounds_toArray, List.set_cons_zero, List.set_cons_succ]
          clear hgrow4
          refine wpAnyH_ready (rs := [11]) (by kernel_rfl) (by simp) ?_
          refine AllReadyH.cons rfl (fun K hK => ?_) AllReadyH.nil
          refine step_append_ownJ (by rfl) _ _ _ (by rfl) W.heap.size 3 i0 _ 1 8 Try.underlying30 hi hz0 hz1 hz2 rfl (by omega) _ (j + 1) _ (by rfl) hown4 (behindJ g j cap 1) (N - j) (cap - j) ((ord.drop j).flatMap encI) (by rfl) (by rw [flat_len encI_len, List.length_drop, HON.out]) (rd_flat encI_len (Rd.behindJ HON.out hNc (rd_at0 HRO.out q4))) (encJ_one (fun x u hu => by simp [encI] at hu; subst hu; rfl) _) (by unfold maxLen; omega) (by omega) q4.size ?_
          intro v5 w5 hown5 hgrow5
          have q5 : Below W.heap.size W w5 := bl_grown q4 hown4 (Nat.le_refl _) hgrow5
          refine hK.out _ _ q5 (fun hHeld5 => ?_)
          clear hK K
          try simp only [Act.put, List.setIfInBounds_toArray, List.set_cons_zero, List.set_cons_succ]
          try simp only [List.getElem_toArray, List.getElem_cons_succ, List.getElem_cons_zero]
          try simp only [Act.put, List.setIfInBounds_toArray, List.set_cons_zero, List.set_cons_succ]
          refine heldI_take 12 4 ?vv46 rfl (by kernel_rfl) (by kernel_rfl) (by kernel_rfl) rfl (fun _ _ _ h => h) (by rfl) ?hy46 (by assumption) ?rest46
          case hy46 => (intro w hSw; (try dsimp only at hSw); go_simp; try with_reducible rfl)
          try simp only [Act.put, List.setIfInBounds_toArray, List.set_cons_zero, List.set_cons_succ]
          refine wpAnyH_done (by kernel_rfl) ?_ _
          have ho5 : w5.ownsRow W.heap.size 3 1 v5 (N + 1) ((rowE ord x [] j).flatMap encI) := by
            have e1 : j + 1 + (N - j) = N + 1 := by omega
            have h9 := hown5
            rw [e1] at h9
            have e2 : (rowE ord x [] j).flatMap encI = (ord.take j).flatMap encI ++ [.int .i64 x] ++ (ord.drop j).flatMap encI := by unfold rowE; simp [encI]
            rw [e2]; exact h9
          have HO5 := hide ho5
          have HB5 := hide q5
          clear ho5 hown5 hgrow5 q5 hown4 q4 ho3
          try clear q3
          try clear q2
          try clear q1
          try clear own0
          try clear hX
          try clear gX
          try clear gE
          try clear hgrow3
          clear hi hz0 hz1 hz2
          have hlen : (rowE ord x [] j).length = N + 1 := by rw [rowE_lenL, HON.out]
          rcases own_form encI_len HO5.out hlen with ⟨_, h0, _⟩ | ⟨g', cap', cs, rfl, hg', hB', hs', hnc', hm', ht'⟩
          · omega
          have HO6 := hide (own_baseL HO5.out (Nat.le_trans hbase hwW))
          clear hB' hs' ht' hg' hlen
          go_wp2
          go_ret
          refine ⟨.slice (some ⟨g', 0, none⟩) (N + 1) cap', rfl, ?_⟩
          exact ⟨g', cap', by rw [HPL.out, rowE_lenL, HON.out], by rw [HPL.out, rowE_lenL, HON.out]; exact hnc', hm', by rw [HPL.out, rowE_lenL, HON.out]; exact HO6.out, HBr.out.trans (HB5.out.mono HBr.out.size)⟩
        · go_simp
          have hX : Blk (World.alloc u1 (.cells #[.int .i64 x] 3)) u1.heap.size 3 #[.int .i64 x] := Blk.new u1 _ _
          have q2 : Below W.heap.size W (World.alloc u1 (.cells #[.int .i64 x] 3)) := q1.alloc q1.size _
          have gX : u1.heap.size < (World.alloc u1 (.cells #[.int .i64 x] 3)).heap.size := by simp
          have own0 := own0.alloc (.cells #[.int .i64 x] 3)
          generalize World.alloc u1 (.cells #[.int .i64 x] 3) = u2 at own0 hX q2 gX ⊢
          refine hK.out _ _ q2 (fun hHeld6 => ?_)
          clear hK K
          try simp only [Act.put, List.setIfInBounds_toArray, List.set_cons_zero, List.set_cons_succ]
          refine wpAnyH_ready (rs := [4]) (by kernel_rfl) (by simp) ?_
          refine AllReadyH.cons rfl (fun K hK => ?_) AllReadyH.nil
          refine step_append_ownJ (by rfl) _ _ _ (by rfl) W.heap.size 3 i0 _ 1 8 Try.underlying30 hi hz0 hz1 hz2 rfl (by omega) _ 0 [] (by rfl) own0 ⟨g, 0, none⟩ j cap ((ord.take j).flatMap encI) (by rfl) (by rw [flat_len encI_len, List.length_take, HON.out, Nat.min_eq_left hjN]) (rd_flat encI_len ((rd_at0 HRO.out q2).takeJ j)) (encJ_one (fun x u hu => by simp [encI] at hu; subst hu; rfl) _) (by unfold maxLen; omega) (by omega) q2.size ?_
          intro v3 w3 hown3 hgrow3
          have q3 : Below W.heap.size W w3 := bl_grown q2 own0 (Nat.le_refl _) hgrow3
          have ho3 : w3.ownsRow W.heap.size 3 1 v3 j ((ord.take j).flatMap encI) := by first | exact hown3 | (rw [Nat.zero_add, List.nil_append] at hown3; exact hown3)
          clear hown3
          have hX := hX.grown hgrow3 (by simp [Value.ownBlock]; omega)
          refine hK.out _ _ q3 (fun hHeld7 => ?_)
          clear hK K
          try simp only [Act.put, List.setIfInBounds_toArray, List.set_cons_zero, List.set_cons_succ]
          refine wpAnyH_ready (rs := [7]) (by kernel_rfl) (by simp) ?_
          refine AllReadyH.cons rfl (fun K hK => ?_) AllReadyH.nil
          refine step_append_ownJ (by rfl) _ _ _ (by rfl) W.heap.size 3 i0 _ 1 8 Try.underlying30 hi hz0 hz1 hz2 rfl (by omega) _ j _ (by rfl) ho3 ⟨u1.heap.size, 0, none⟩ 1 1 ([.int .i64 x]) (by rfl) (by rfl) (World.news_of_block (cs := #[.int .i64 x]) (t := 3) (fr := (0, 0)) hX) (by simp [Value.oneCell']) (by unfold maxLen; omega) (by omega) q3.size ?_
          intro v4 w4 hown4 hgrow4
          have q4 : Below W.heap.size W w4 := bl_grown q3 ho3 (Nat.le_refl _) hgrow4
          refine hK.out _ _ q4 (fun hHeld8 => ?_)
          clear hK K
          try simp only [Act.put, List.setIfInBounds_toArray, List.set_cons_zero, List.set_cons_succ]
          clear hgrow4
          refine wpAnyH_ready (rs := [11]) (by kernel_rfl) (by simp) ?_
          refine AllReadyH.cons rfl (fun K hK => ?_) AllReadyH.nil
          refine step_append_ownJ (by rfl) _ _ _ (by rfl) W.heap.size 3 i0 _ 1 8 Try.underlying30 hi hz0 hz1 hz2 rfl (by omega) _ (j + 1) _ (by rfl) hown4 (behindJ g j cap 1) (N - j) (cap - j) ((ord.drop j).flatMap encI) (by rfl) (by rw [flat_len encI_len, List.length_drop, HON.out]) (rd_flat encI_len (Rd.behindJ HON.out hNc (rd_at0 HRO.out q4))) (encJ_one (fun x u hu => by simp [encI] at hu; subst hu; rfl) _) (by unfold maxLen; omega) (by omega) q4.size ?_
          intro v5 w5 hown5 hgrow5
          have q5 : Below W.heap.size W w5 := bl_grown q4 hown4 (Nat.le_refl _) hgrow5
          refine hK.out _ _ q5 (fun hHeld9 => ?_)
          clear hK K
          try simp only [Act.put, List.setIfInBounds_toArray, List.set_cons_zero, List.set_cons_succ]
          try simp only [List.getElem_toArray, List.getElem_cons_succ, List.getElem_cons_zero]
          try simp only [Act.put, List.setIfInBounds_toArray, List.set_cons_zero, List.set_cons_succ]
          refine heldI_take 12 4 ?vv47 rfl (by kernel_rfl) (by kernel_rfl) (by kernel_rfl) rfl (fun _ _ _ h => h) (by rfl) ?hy47 (by assumption) ?rest47
          case hy47 => (intro w hSw; (try dsimp only at hSw); go_simp; try with_reducible rfl)
          try simp only [Act.put, List.setIfInBounds_toArray, List.set_cons_zero, List.set_cons_succ]
          refine wpAnyH_done (by kernel_rfl) ?_ _
          have ho5 : w5.ownsRow W.heap.size 3 1 v5 (N + 1) ((rowE ord x [] j).flatMap encI) := by
            have e1 : j + 1 + (N - j) = N + 1 := by omega
            have h9 := hown5
            rw [e1] at h9
            have e2 : (rowE ord x [] j).flatMap encI = (ord.take j).flatMap encI ++ [.int .i64 x] ++ (ord.drop j).flatMap encI := by unfold rowE; simp [encI]
            rw [e2]; exact h9
          have HO5 := hide ho5
          have HB5 := hide q5
          clear ho5 hown5 hgrow5 q5 hown4 q4 ho3
          try clear q3
          try clear q2
          try clear q1
          try clear own0
          try clear hX
          try clear gX
          try clear gE
          try clear hgrow3
          clear hi hz0 hz1 hz2
          have hlen : (rowE ord x [] j).length = N + 1 := by rw [rowE_lenL, HON.out]
          rcases own_form encI_len HO5.out hlen with ⟨_, h0, _⟩ | ⟨g', cap', cs, rfl, hg', hB', hs', hnc', hm', ht'⟩
          · omega
          have HO6 := hide (own_baseL HO5.out (Nat.le_trans hbase hwW))
          clear hB' hs' ht' hg' hlen
          go_wp2
          go_ret
          refine ⟨.slice (some ⟨g', 0, none⟩) (N + 1) cap', rfl, ?_⟩
          exact ⟨g', cap', by rw [HPL.out, rowE_lenL, HON.out], by rw [HPL.out, rowE_lenL, HON.out]; exact hnc', hm', by rw [HPL.out, rowE_lenL, HON.out]; exact HO6.out, HBr.out.trans (HB5.out.mono HBr.out.size)⟩
      · go_simp
        have hX : Blk ((World.alloc W (.cells #[.int .i64 x] 3)).drew) W.heap.size 3 #[.int .i64 x] := Blk.new W.drew _ _
        have q1 : Below W.heap.size W ((World.alloc W (.cells #[.int .i64 x] 3)).drew) := (Below.drew (Below.refl W.heap.size W)).alloc (Nat.le_refl _) _
        have gX : W.heap.size < ((World.alloc W (.cells #[.int .i64 x] 3)).drew).heap.size := by simp
        generalize (World.alloc W (.cells #[.int .i64 x] 3)).drew = u1 at hX q1 gX ⊢
        refine hK.out _ _ q1 (fun hHeld10 => ?_)
        clear hK K
        try simp only [Act.put, List.setIfInBounds_toArray, List.set_cons_zero, List.set_cons_succ]
        refine wpAnyH_ready (rs := [0]) (by kernel_rfl) (by simp) ?_
        refine AllReadyH.cons rfl (fun K hK => ?_) AllReadyH.nil
        go_simp
        have own0 : (World.alloc u1 (.cells #[] 3)).ownsRow W.heap.size 3 1 (.slice (some ⟨u1.heap.size, 0, none⟩) 0 0) 0 [] := World.ownsRow_made u1 #[] 0 q1.size (by simp [maxLen]) rfl
        have q2 : Below W.heap.size W (World.alloc u1 (.cells #[] 3)) := q1.alloc q1.size _
        have gE : u1.heap.size < (World.alloc u1 (.cells #[] 3)).heap.size := by simp
        have hX := hX.alloc (.cells #[] 3)
        generalize World.alloc u1 (.cells #[] 3) = u2 at own0 hX q2 gE ⊢
        refine hK.out _ _ q2 (fun hHeld11 => ?_)
        clear hK K
        try simp only [Act.put, List.setIfInBounds_toArray, List.set_cons_zero, List.set_cons_succ]
        refine wpAnyH_ready (rs := [4]) (by kernel_rfl) (by simp) ?_
        refine AllReadyH.cons rfl (fun K hK => ?_) AllReadyH.nil
        refine step_append_ownJ (by rfl) _ _ _ (by rfl) W.heap.size 3 i0 _ 1 8 Try.underlying30 hi hz0 hz1 hz2 rfl (by omega) _ 0 [] (by rfl) own0 ⟨g, 0, none⟩ j cap ((ord.take j).flatMap encI) (by rfl) (by rw [flat_len encI_len, List.length_take, HON.out, Nat.min_eq_left hjN]) (rd_flat encI_len ((rd_at0 HRO.out q2).takeJ j)) (encJ_one (fun x u hu => by simp [encI] at hu; subst hu; rfl) _) (by unfold maxLen; omega) (by omega) q2.size ?_
        intro v3 w3 hown3 hgrow3
        have q3 : Below W.heap.size W w3 := bl_grown q2 own0 (Nat.le_refl _) hgrow3
        have ho3 : w3.ownsRow W.heap.size 3 1 v3 j ((ord.take j).flatMap encI) := by first | exact hown3 | (rw [Nat.zero_add, List.nil_append] at hown3; exact hown3)
        clear hown3
        have hX := hX.grown hgrow3 (by simp [Value.ownBlock]; omega)
        refine hK.out _ _ q3 (fun hHeld12 => ?_)
        clear hK K
        try simp only [Act.put, List.setIfInBounds_toArray, List.set_cons_zero, List.set_cons_succ]
        refine wpAnyH_ready (rs := [7]) (by kernel_rfl) (by simp) ?_
        refine AllReadyH.cons rfl (fun K hK => ?_) AllReadyH.nil
        refine step_append_ownJ (by rfl) _ _ _ (by rfl) W.heap.size 3 i0 _ 1 8 Try.underlying30 hi hz0 hz1 hz2 rfl (by omega) _ j _ (by rfl) ho3 ⟨W.heap.size, 0, none⟩ 1 1 ([.int .i64 x]) (by rfl) (by rfl) (World.news_of_block (cs := #[.int .i64 x]) (t := 3) (fr := (0, 0)) hX) (by simp [Value.oneCell']) (by unfold maxLen; omega) (by omega) q3.size ?_
        intro v4 w4 hown4 hgrow4
        have q4 : Below W.heap.size W w4 := bl_grown q3 ho3 (Nat.le_refl _) hgrow4
        refine hK.out _ _ q4 (fun hHeld13 => ?_)
        clear hK K
        try simp only [Act.put, List.setIfInBounds_toArray, List.set_cons_zero, List.set_cons_succ]
        clear hgrow4
        refine wpAnyH_ready (rs := [11]) (by kernel_rfl) (by simp) ?_
        refine AllReadyH.cons rfl (fun K hK => ?_) AllReadyH.nil
        refine step_append_ownJ (by rfl) _ _ _ (by rfl) W.heap.size 3 i0 _ 1 8 Try.underlying30 hi hz0 hz1 hz2 rfl (by omega) _ (j + 1) _ (by rfl) hown4 (behindJ g j cap 1) (N - j) (cap - j) ((ord.drop j).flatMap encI) (by rfl) (by rw [flat_len encI_len, List.length_drop, HON.out]) (rd_flat encI_len (Rd.behindJ HON.out hNc (rd_at0 HRO.out q4))) (encJ_one (fun x u hu => by simp [encI] at hu; subst hu; rfl) _) (by unfold maxLen; omega) (by omega) q4.size ?_
        intro v5 w5 hown5 hgrow5
        have q5 : Below W.heap.size W w5 := bl_grown q4 hown4 (Nat.le_refl _) hgrow5
        refine hK.out _ _ q5 (fun hHeld14 => ?_)
        clear hK K
        try simp only [Act.put, List.setIfInBounds_toArray, List.set_cons_zero, List.set_cons_succ]
        try simp only [List.getElem_toArray, List.getElem_cons_succ, List.getElem_cons_zero]
        try simp only [Act.put, List.setIfInBounds_toArray, List.set_cons_zero, List.set_cons_succ]
        refine heldI_take 12 4 ?vv48 rfl (by kernel_rfl) (by kernel_rfl) (by kernel_rfl) rfl (fun _ _ _ h => h) (by rfl) ?hy48 (by assumption) ?rest48
        case hy48 => (intro w hSw; (try dsimp only at hSw); go_simp; try with_reducible rfl)
        try simp only [Act.put, List.setIfInBounds_toArray, List.set_cons_zero, List.set_cons_succ]
        refine wpAnyH_done (by kernel_rfl) ?_ _
        have ho5 : w5.ownsRow W.heap.size 3 1 v5 (N + 1) ((rowE ord x [] j).flatMap encI) := by
          have e1 : j + 1 + (N - j) = N + 1 := by omega
          have h9 := hown5
          rw [e1] at h9
          have e2 : (rowE ord x [] j).flatMap encI = (ord.take j).flatMap encI ++ [.int .i64 x] ++ (ord.drop j).flatMap encI := by unfold rowE; simp [encI]
          rw [e2]; exact h9
        have HO5 := hide ho5
        have HB5 := hide q5
        clear ho5 hown5 hgrow5 q5 hown4 q4 ho3
        try clear q3
        try clear q2
        try clear q1
        try clear own0
        try clear hX
        try clear gX
        try clear gE
        try clear hgrow3
        clear hi hz0 hz1 hz2
        have hlen : (rowE ord x [] j).length = N + 1 := by rw [rowE_lenL, HON.out]
        rcases own_form encI_len HO5.out hlen with ⟨_, h0, _⟩ | ⟨g', cap', cs, rfl, hg', hB', hs', hnc', hm', ht'⟩
        · omega
        have HO6 := hide (own_baseL HO5.out (Nat.le_trans hbase hwW))
        clear hB' hs' ht' hg' hlen
        go_wp2
        go_ret
        refine ⟨.slice (some ⟨g', 0, none⟩) (N + 1) cap', rfl, ?_⟩
        exact ⟨g', cap', by rw [HPL.out, rowE_lenL, HON.out], by rw [HPL.out, rowE_lenL, HON.out]; exact hnc', hm', by rw [HPL.out, rowE_lenL, HON.out]; exact HO6.out, HBr.out.trans (HB5.out.mono HBr.out.size)⟩

end Go.Proofs.Ytojahihkoaabdaa
