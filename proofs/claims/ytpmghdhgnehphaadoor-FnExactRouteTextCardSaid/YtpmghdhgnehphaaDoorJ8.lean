/- The text of a route: the program. -/
import Derived.Test.YtpmghdhgnehphaaDoorJ7
import Derived.Deep.RegionWith
import Derived.Deep.AppendLies
namespace Go.Proofs.YtpmghdhgnehphaaDoor
open Go.RowKit
set_option linter.unusedVariables false
set_option linter.unusedSimpArgs false

theorem heldI_skip {P : Program} {md : Region.Mode} {ops : Array Oper} {Q : Exit → Act → World → Prop} {S : World → Prop} (i : Nat) (d : Tmp) {oi : Oper} {fuel : Nat} {listed : Array Bool} {a : Act} {w : World} (hi : ops[i]? = some oi)
    (hs : Region.noSelect ops = true) (hf : Region.free md ops listed i = true) (hr : (Region.ready md ops listed).contains i = true) (hd : oi.dst = some d) (hQ : ∀ c a w, Q (.panic c) (a.put (some d) undef) w → Q (.panic c) a w)
    (hw : Region.wanted oi (yielded ops a.tmps) = false) (hS : S w) (h : wpAnyH P md ops Q S fuel (listed.setIfInBounds i true) (a.put (some d) undef) w) : wpAnyH P md ops Q S (fuel + 1) listed a w :=
  wpAnyH_take hi hs hf hr (by rw [hd]; exact hQ) (Or.inr ⟨hw, rfl⟩) hS (by rw [hd]; exact h)
theorem heldI_take {P : Program} {md : Region.Mode} {ops : Array Oper} {Q : Exit → Act → World → Prop} {S : World → Prop} (i : Nat) (d : Tmp) {oi : Oper} (v : Value) {fuel : Nat} {listed : Array Bool} {a : Act} {w : World} (hi : ops[i]? = some oi)
    (hs : Region.noSelect ops = true) (hf : Region.free md ops listed i = true) (hr : (Region.ready md ops listed).contains i = true) (hd : oi.dst = some d) (hQ : ∀ c a w, Q (.panic c) (a.put (some d) v) w → Q (.panic c) a w)
    (hw : Region.wanted oi (yielded ops a.tmps) = true) (hy : ∀ w, S w → (execOp a.eval oi).run P w = .ok (.value v) w) (hS : S w) (h : wpAnyH P md ops Q S fuel (listed.setIfInBounds i true) (a.put (some d) v) w) : wpAnyH P md ops Q S (fuel + 1) listed a w :=
  wpAnyH_take hi hs hf hr (by rw [hd]; exact hQ) (Or.inl ⟨hw, hy⟩) hS (by rw [hd]; exact h)

set_option maxRecDepth 100000 in
set_option maxHeartbeats 1000000 in
theorem RouteText_any (ao : Option Addr) (n c : Nat) (zs : List Lg) (w : World) (hz : zs.length = n) (hn : n ≤ 1048576) (hr : Rd encLg 3 w.heap.size w ao zs) (ht : TabW w) :
    Calls Tryd.prog 7 #[.slice ao n c] w fun e w' => e = .returned (.tuple #[.string (routeT zs), .bool (routeB zs)]) ∧ Below w.heap.size w w' := by
  have mixed : Tryd.prog.follows .mixedOrders = true := by kernel_rfl
  have HZ := hide hz
  have HR := hide hr
  have HA := hide (IsRoute_any ao n c zs w hz hn hr)
  have HT := hide ht
  clear ht
  clear hz hr
  cases h1 : routeB zs with
  | false =>
    have HO : Hid (routeT zs = ⟨#[]⟩) := hide (by unfold routeT; rw [h1]; rfl)
    have H1 := hide h1
    clear h1
    go_enter Tryd.func7, Tryd.ntmps7
    go_wp2_with fail
    refine HA.out.mono ?_
    rintro e w1 ⟨rfl, hb⟩
    rw [H1.out]
    have HB := hide hb
    clear hb
    go_wp2
    go_ret2
    exact ⟨ret_sb HO.out.symm rfl, HB.out⟩
  | true =>
    have H1 := hide h1
    have H12 := hide (route_12 h1)
    have h12 : n ≤ 12 := by have := H12.out; rw [HZ.out] at this; exact this
    clear h1
    by_cases hn0 : n = 0
    · subst hn0
      have HO : Hid (routeT zs = ⟨#[45]⟩) := hide (by unfold routeT; rw [H1.out, if_pos rfl, if_pos HZ.out])
      go_enter Tryd.func7, Tryd.ntmps7
      go_wp2_with fail
      refine HA.out.mono ?_
      rintro e w1 ⟨rfl, hb⟩
      rw [H1.out]
      have HB := hide hb
      clear hb HA
      go_wp2
      go_ret2
      exact ⟨ret_sb HO.out.symm rfl, HB.out⟩
    · have HO : Hid (routeT zs = joinB (wordsL zs)) := hide (by unfold routeT; rw [H1.out, if_pos rfl, if_neg (by rw [HZ.out]; exact hn0)])
      have hnz : ((n : Int) == 0) = false := by simp; omega
      go_enter Tryd.func7, Tryd.ntmps7
      go_wp2_with fail
      refine HA.out.mono ?_
      rintro e w1 ⟨rfl, hb⟩
      rw [H1.out]
      have HB := hide hb
      clear hb HA
      go_wp2
      obtain ⟨i0, hi, hz0, hz1, hz2⟩ := info_parts infoS
      have HI := hide (And.intro hi (And.intro hz0 (And.intro hz1 hz2)))
      clear hi hz0 hz1 hz2
      go_loopg [4, 16] n (fun gk v i wr => ∃ k : Nat, k ≤ n ∧ n - k ≤ gk ∧ i = .int .i64 k ∧ Aside (wr.ownsRow w.heap.size 9 1 v k ((wordsL (zs.take k)).flatMap encS)) ∧ Aside (Below w.heap.size w wr))
      case atStart => exact ⟨0, Nat.zero_le _, by omega, rfl, World.ownsRow_nil _ _ _ _, HB.out⟩
      case round =>
        obtain ⟨k, hk, hg, rfl, OW, BW⟩ := hrel
        by_cases hlt : k < n
        · have hltz : (k : Int) < (n : Int) := by omega
          obtain ⟨b9, off, rfl, hb1, hat⟩ := rdLg HR.out (by rw [HZ.out]; omega)
          obtain ⟨x, hx, hxc⟩ := hat k (by rw [HZ.out]; exact hlt)
          obtain ⟨hbr, c0, c1, c2⟩ := hxc wr BW.out
          have bd := route_bd H1.out hx
          have HWT := hide (wordsL_take hx)
          obtain ⟨V, hV⟩ : ∃ V, V = wr.alloc (.cells #[.int .i64 x.w, .int .i64 x.u, .int .i64 x.c] 33) := ⟨_, rfl⟩
          have HBV : Hid (Below w.heap.size w V) := hide (by rw [hV]; exact BW.out.alloc BW.out.size _)
          have HOV : Hid (V.ownsRow w.heap.size 9 1 u4 k ((wordsL (zs.take k)).flatMap encS)) := hide (by rw [hV]; exact OW.out.alloc _)
          have HTV := hide (HT.out.below HBV.out)
          have g0 : wr.heap.size < V.heap.size := by rw [hV]; simp
          have e0 : V.cell? ⟨wr.heap.size, 0, none⟩ = some (.int .i64 x.w) := by rw [hV]; simp
          have e1 : V.cell? ⟨wr.heap.size, 1, none⟩ = some (.int .i64 x.u) := by rw [hV]; simp
          have e2 : V.cell? ⟨wr.heap.size, 2, none⟩ = some (.int .i64 x.c) := by rw [hV]; simp
          have HVV := hide hV
          clear hV hx hxc hat
          obtain ⟨kw, hkw⟩ : ∃ kw : Nat, x.w = kw := ⟨x.w.toNat, by omega⟩
          have hk7 : kw ≤ 7 := by omega
          have hk8 : (kw : Int) < 8 := by omega
          have hk0 : (0 : Int) ≤ (kw : Int) := by omega
          rw [hkw] at e0
          obtain ⟨a, ha⟩ : ∃ a, wayB kw = a := ⟨_, rfl⟩
          obtain ⟨b, hb2⟩ : ∃ b, itoaB x.u = b := ⟨_, rfl⟩
          obtain ⟨t, ht⟩ : ∃ t, itoaB x.c = t := ⟨_, rfl⟩
          have za : a.size ≤ 2 := by rw [← ha]; exact way_size kw
          have zb : b.size ≤ 21 := by rw [← hb2]; exact itoaB_size _ (by omega) (by omega)
          have zt : t.size ≤ 21 := by rw [← ht]; exact itoaB_size _ (by omega) (by omega)
          have HAW := hide ha
          have HBU := hide hb2
          have HTC := hide ht
          have s1 : ¬ 9223372036854775807 < a.size + b.size := by omega
          have s2 : ¬ 9223372036854775807 < a.size + b.size + 1 := by omega
          have s3 : ¬ 9223372036854775807 < a.size + b.size + 1 + t.size := by omega
          have s4 : ¬ 9223372036854775807 < a.size + b.size + t.size := by omega
          have h3 : 0 < x.c ∨ x.c = 0 ∨ x.c < 0 := by omega
          rcases h3 with hp | hp | hp
          · have HWD : Hid (wordL x = a ++ b ++ (⟨#[43]⟩ : ByteArray) ++ t) := hide (by unfold wordL signT; rw [if_pos hp, hkw, Int.toNat_natCast, ha, hb2, ht])
            clear ha hb2 ht hkw
            have HP := hide hp
            have p1 : decide (x.c = 0) = false := decide_eq_false (by omega)
            have p2 : (x.c == 0) = false := by simp; omega
            have p3 : (x.c != 0) = true := by simp; omega
            obtain ⟨hi, hz0, hz1, hz2⟩ := HI.out
            go_wp2_with fail
            rw [← HVV.out]
            have q0 : Below V.heap.size V V.drew := (Below.refl _ _).drew
            refine wp_region_held_drew (S := fun w' => w'.cell? ⟨wr.heap.size, 0, none⟩ = some (.int .i64 kw) ∧ w'.cell? ⟨wr.heap.size, 1, none⟩ = some (.int .i64 x.u) ∧ Below V.heap.size V w') (by kernel_rfl) ⟨(q0.cell (p := ⟨wr.heap.size, 0, none⟩) g0).trans e0, (q0.cell (p := ⟨wr.heap.size, 1, none⟩) g0).trans e1, q0⟩ (fun hHeld => ?_)
            generalize V.drew = V0 at q0 hHeld ⊢
            refine heldI_take 1 21 ?vv104 rfl (by kernel_rfl) (by kernel_rfl) (by kernel_rfl) rfl (fun _ _ _ h => h) (by rfl) ?hy104 (by assumption) ?rest104
            case hy104 => (intro w hSw; (try dsimp only at hSw); go_simp; try with_reducible rfl)
            try simp only [Act.put, List.setIfInBounds_toArray, List.set_cons_zero, List.set_cons_succ]
            refine heldI_take 2 22 ?vv105 rfl (by kernel_rfl) (by kernel_rfl) (by kernel_rfl) rfl (fun _ _ _ h => h) (by rfl) ?hy105 (by assumption) ?rest105
            case hy105 => (intro w hSw; (try dsimp only at hSw); go_simp; try with_reducible rfl)
            try simp only [Act.put, List.setIfInBounds_toArray, List.set_cons_zero, List.set_cons_succ]
            refine heldI_take 5 25 ?vv106 rfl (by kernel_rfl) (by kernel_rfl) (by kernel_rfl) rfl (fun _ _ _ h => h) (by rfl) ?hy106 (by assumption) ?rest106
            case hy106 => (intro w hSw; (try dsimp only at hSw); go_simp; try with_reducible rfl)
            try simp only [Act.put, List.setIfInBounds_toArray, List.set_cons_zero, List.set_cons_succ]
            refine heldI_take 6 26 ?vv107 rfl (by kernel_rfl) (by kernel_rfl) (by kernel_rfl) rfl (fun _ _ _ h => h) (by rfl) ?hy107 (by assumption) ?rest107
            case hy107 => (intro w hSw; (try dsimp only at hSw); go_simp; try with_reducible rfl)
            try simp only [Act.put, List.setIfInBounds_toArray, List.set_cons_zero, List.set_cons_succ]
            refine wpAnyH_ready (rs := [0, 7]) (by kernel_rfl) (by simp) ?_
            refine AllReadyH.cons rfl (fun K hK => ?_) (AllReadyH.cons rfl (fun K hK => ?_) AllReadyH.nil)
            · go_simp
              have z1 : (World.alloc V0 (.cells #[.string ⟨#[110]⟩, .string ⟨#[110, 101]⟩, .string ⟨#[101]⟩, .string ⟨#[115, 101]⟩, .string ⟨#[115]⟩, .string ⟨#[115, 119]⟩, .string ⟨#[119]⟩, .string ⟨#[110, 119]⟩] 9)).cell? ⟨V0.heap.size, kw, none⟩ = some (.string a) := by rw [← HAW.out]; exact way_cell V0 kw hk7
              have y1 : V0.heap.size < (World.alloc V0 (.cells #[.string ⟨#[110]⟩, .string ⟨#[110, 101]⟩, .string ⟨#[101]⟩, .string ⟨#[115, 101]⟩, .string ⟨#[115]⟩, .string ⟨#[115, 119]⟩, .string ⟨#[119]⟩, .string ⟨#[110, 119]⟩] 9)).heap.size := by simp
              have q1 : Below V.heap.size V (World.alloc V0 (.cells #[.string ⟨#[110]⟩, .string ⟨#[110, 101]⟩, .string ⟨#[101]⟩, .string ⟨#[115, 101]⟩, .string ⟨#[115]⟩, .string ⟨#[115, 119]⟩, .string ⟨#[119]⟩, .string ⟨#[110, 119]⟩] 9)) := q0.alloc q0.size _
              generalize World.alloc V0 (.cells #[.string ⟨#[110]⟩, .string ⟨#[110, 101]⟩, .string ⟨#[101]⟩, .string ⟨#[115, 101]⟩, .string ⟨#[115]⟩, .string ⟨#[115, 119]⟩, .string ⟨#[119]⟩, .string ⟨#[110, 119]⟩] 9) = V1 at z1 y1 q1 ⊢
              refine hK.out _ _ ⟨(q1.cell (p := ⟨wr.heap.size, 0, none⟩) g0).trans e0, (q1.cell (p := ⟨wr.heap.size, 1, none⟩) g0).trans e1, q1⟩ (fun hHeld => ?_)
              clear hK K
              try simp only [Act.put, List.setIfInBounds_toArray, List.set_cons_zero, List.set_cons_succ]
              refine heldI_take 3 23 ?vv108 rfl (by kernel_rfl) (by kernel_rfl) (by kernel_rfl) rfl (fun _ _ _ h => h) (by rfl) ?hy108 (by assumption) ?rest108
              case hy108 => (intro w hSw; (try dsimp only at hSw); go_simp; try with_reducible rfl)
              try simp only [Act.put, List.setIfInBounds_toArray, List.set_cons_zero, List.set_cons_succ]
              refine wpAnyH_ready (rs := [4, 7]) (by kernel_rfl) (by simp) ?_
              refine AllReadyH.cons rfl (fun K hK => ?_) (AllReadyH.cons rfl (fun K hK => ?_) AllReadyH.nil)
              · go_simp
                refine hK.out _ _ ⟨(q1.cell (p := ⟨wr.heap.size, 0, none⟩) g0).trans e0, (q1.cell (p := ⟨wr.heap.size, 1, none⟩) g0).trans e1, q1⟩ (fun hHeld => ?_)
                clear hK K
                try simp only [Act.put, List.setIfInBounds_toArray, List.set_cons_zero, List.set_cons_succ]
                refine wpAnyH_ready (rs := [7]) (by kernel_rfl) (by simp) ?_
                refine AllReadyH.cons rfl (fun K hK => ?_) AllReadyH.nil
                go_simp
                refine (text_any x.u _ (by omega) (by omega) (HTV.out.below q1)).mono ?_
                rintro e V2 ⟨rfl, hb⟩
                rw [HBU.out]
                go_wp2_with fail
                have q2 : Below V.heap.size V V2 := bl_step q1 hb
                replace z1 := (hb.cell (p := ⟨V0.heap.size, kw, none⟩) y1).trans z1
                refine hK.out _ _ ⟨(q2.cell (p := ⟨wr.heap.size, 0, none⟩) g0).trans e0, (q2.cell (p := ⟨wr.heap.size, 1, none⟩) g0).trans e1, q2⟩ (fun hHeld => ?_)
                clear hb hK K
                try simp only [Act.put, List.setIfInBounds_toArray, List.set_cons_zero, List.set_cons_succ]
                try simp only [List.getElem_toArray, List.getElem_cons_succ, List.getElem_cons_zero]
                try simp only [Act.put, List.setIfInBounds_toArray, List.set_cons_zero, List.set_cons_succ]
                refine heldI_take 8 28 ?vv109 rfl (by kernel_rfl) (by kernel_rfl) (by kernel_rfl) rfl (fun _ _ _ h => h) (by rfl) ?hy109 (by assumption) ?rest109
                case hy109 => (intro w hSw; (try dsimp only at hSw); go_simp; try with_reducible rfl)
                try simp only [Act.put, List.setIfInBounds_toArray, List.set_cons_zero, List.set_cons_succ]
                refine heldI_take 9 7 ?vv110 rfl (by kernel_rfl) (by kernel_rfl) (by kernel_rfl) rfl (fun _ _ _ h => h) (by rfl) ?hy110 (by assumption) ?rest110
                case hy110 => (intro w hSw; (try dsimp only at hSw); go_simp; try with_reducible rfl)
                try simp only [Act.put, List.setIfInBounds_toArray, List.set_cons_zero, List.set_cons_succ]
                refine wpAnyH_done (by kernel_rfl) ?_ _
                have HQ9 : Hid (Below V.heap.size V V2) := hide q2
                clear z1 q0 q1 hHeld
                try clear q2
                try clear y1
                generalize V2 = V9 at HQ9 ⊢
                have k2 := (HQ9.out.cell (p := ⟨wr.heap.size, 2, none⟩) g0).trans e2
                have HB9 := hide (bl_step HBV.out HQ9.out)
                have HO9 := hide (own_step HOV.out HQ9.out)
                have HT9 := hide (HTV.out.below HQ9.out)
                clear e0 e1 e2
                go_wp2_with fail
                refine (text_any x.c _ (by omega) (by omega) HT9.out).mono ?_
                rintro e V8 ⟨rfl, hb⟩
                rw [HTC.out]
                have HB8 := hide (bl_step HB9.out hb)
                have HO8 := hide (own_step HO9.out hb)
                clear hb
                obtain ⟨WD, hWD⟩ : ∃ WD, WD = a ++ b ++ (⟨#[43]⟩ : ByteArray) ++ t := ⟨_, rfl⟩
                have HWD2 : Hid (wordL x = WD) := hide (by rw [HWD.out, hWD])
                have HWDX := hide hWD
                clear hWD
                have hsz := HB8.out.size
                go_wp2_with (at_builtin; rw [← HWDX.out]; refine wpList_append_own _ rfl _ _ 36 rfl w.heap.size 9 i0 _ 1 16 Tryd.underlying36 hi hz0 hz1 hz2 rfl (by decide) _ k _ rfl (HO8.out.alloc _) ⟨V8.heap.size, 0, none⟩ 1 1 [.string WD] rfl rfl ?c1 ?c2 ?c3 ?c4 ?c5 ?_)
                case c1 => exact news_at #[.string WD]
                case c2 => intro u hu; simp at hu; subst hu; rfl
                case c3 => unfold maxLen; omega
                case c4 => omega
                case c5 => simp; omega
                intro v' w3 hown' hgrow _
                have HB3 := hide (bl_grown (HB8.out.alloc hsz _) (HO8.out.alloc _) (Nat.le_refl _) hgrow)
                have HO3 : Hid (w3.ownsRow w.heap.size 9 1 v' (k + 1) ((wordsL (zs.take (k + 1))).flatMap encS)) := hide (by rw [HWT.out, flat_snoc, HWD2.out]; exact hown')
                clear hown' hgrow hi hz0 hz1 hz2
                go_wp2
                go_roundg (n - (k + 1))
                case measure => omega
                case rel => exact ⟨k + 1, by omega, by omega, by go_num, HO3.out, HB3.out⟩
              · go_simp
                refine (text_any x.u _ (by omega) (by omega) (HTV.out.below q1)).mono ?_
                rintro e V2 ⟨rfl, hb⟩
                rw [HBU.out]
                go_wp2_with fail
                have q2 : Below V.heap.size V V2 := bl_step q1 hb
                replace z1 := (hb.cell (p := ⟨V0.heap.size, kw, none⟩) y1).trans z1
                refine hK.out _ _ ⟨(q2.cell (p := ⟨wr.heap.size, 0, none⟩) g0).trans e0, (q2.cell (p := ⟨wr.heap.size, 1, none⟩) g0).trans e1, q2⟩ (fun hHeld => ?_)
                clear hb hK K
                try simp only [Act.put, List.setIfInBounds_toArray, List.set_cons_zero, List.set_cons_succ]
                refine wpAnyH_ready (rs := [4]) (by kernel_rfl) (by simp) ?_
                refine AllReadyH.cons rfl (fun K hK => ?_) AllReadyH.nil
                go_simp
                refine hK.out _ _ ⟨(q2.cell (p := ⟨wr.heap.size, 0, none⟩) g0).trans e0, (q2.cell (p := ⟨wr.heap.size, 1, none⟩) g0).trans e1, q2⟩ (fun hHeld => ?_)
                clear hK K
                try simp only [Act.put, List.setIfInBounds_toArray, List.set_cons_zero, List.set_cons_succ]
                try simp only [List.getElem_toArray, List.getElem_cons_succ, List.getElem_cons_zero]
                try simp only [Act.put, List.setIfInBounds_toArray, List.set_cons_zero, List.set_cons_succ]
                refine heldI_take 8 28 ?vv111 rfl (by kernel_rfl) (by kernel_rfl) (by kernel_rfl) rfl (fun _ _ _ h => h) (by rfl) ?hy111 (by assumption) ?rest111
                case hy111 => (intro w hSw; (try dsimp only at hSw); go_simp; try with_reducible rfl)
                try simp only [Act.put, List.setIfInBounds_toArray, List.set_cons_zero, List.set_cons_succ]
                refine heldI_take 9 7 ?vv112 rfl (by kernel_rfl) (by kernel_rfl) (by kernel_rfl) rfl (fun _ _ _ h => h) (by rfl) ?hy112 (by assumption) ?rest112
                case hy112 => (intro w hSw; (try dsimp only at hSw); go_simp; try with_reducible rfl)
                try simp only [Act.put, List.setIfInBounds_toArray, List.set_cons_zero, List.set_cons_succ]
                refine wpAnyH_done (by kernel_rfl) ?_ _
                have HQ9 : Hid (Below V.heap.size V V2) := hide q2
                clear z1 q0 q1 hHeld
                try clear q2
                try clear y1
                generalize V2 = V9 at HQ9 ⊢
                have k2 := (HQ9.out.cell (p := ⟨wr.heap.size, 2, none⟩) g0).trans e2
                have HB9 := hide (bl_step HBV.out HQ9.out)
                have HO9 := hide (own_step HOV.out HQ9.out)
                have HT9 := hide (HTV.out.below HQ9.out)
                clear e0 e1 e2
                go_wp2_with fail
                refine (text_any x.c _ (by omega) (by omega) HT9.out).mono ?_
                rintro e V8 ⟨rfl, hb⟩
                rw [HTC.out]
                have HB8 := hide (bl_step HB9.out hb)
                have HO8 := hide (own_step HO9.out hb)
                clear hb
                obtain ⟨WD, hWD⟩ : ∃ WD, WD = a ++ b ++ (⟨#[43]⟩ : ByteArray) ++ t := ⟨_, rfl⟩
                have HWD2 : Hid (wordL x = WD) := hide (by rw [HWD.out, hWD])
                have HWDX := hide hWD
                clear hWD
                have hsz := HB8.out.size
                go_wp2_with (at_builtin; rw [← HWDX.out]; refine wpList_append_own _ rfl _ _ 36 rfl w.heap.size 9 i0 _ 1 16 Tryd.underlying36 hi hz0 hz1 hz2 rfl (by decide) _ k _ rfl (HO8.out.alloc _) ⟨V8.heap.size, 0, none⟩ 1 1 [.string WD] rfl rfl ?c1 ?c2 ?c3 ?c4 ?c5 ?_)
                case c1 => exact news_at #[.string WD]
                case c2 => intro u hu; simp at hu; subst hu; rfl
                case c3 => unfold maxLen; omega
                case c4 => omega
                case c5 => simp; omega
                intro v' w3 hown' hgrow _
                have HB3 := hide (bl_grown (HB8.out.alloc hsz _) (HO8.out.alloc _) (Nat.le_refl _) hgrow)
                have HO3 : Hid (w3.ownsRow w.heap.size 9 1 v' (k + 1) ((wordsL (zs.take (k + 1))).flatMap encS)) := hide (by rw [HWT.out, flat_snoc, HWD2.out]; exact hown')
                clear hown' hgrow hi hz0 hz1 hz2
                go_wp2
                go_roundg (n - (k + 1))
                case measure => omega
                case rel => exact ⟨k + 1, by omega, by omega, by go_num, HO3.out, HB3.out⟩
            · go_simp
              refine (text_any x.u _ (by omega) (by omega) (HTV.out.below q0)).mono ?_
              rintro e V1 ⟨rfl, hb⟩
              rw [HBU.out]
              go_wp2_with fail
              have q1 : Below V.heap.size V V1 := bl_step q0 hb
              refine hK.out _ _ ⟨(q1.cell (p := ⟨wr.heap.size, 0, none⟩) g0).trans e0, (q1.cell (p := ⟨wr.heap.size, 1, none⟩) g0).trans e1, q1⟩ (fun hHeld => ?_)
              clear hb hK K
              try simp only [Act.put, List.setIfInBounds_toArray, List.set_cons_zero, List.set_cons_succ]
              refine wpAnyH_ready (rs := [0]) (by kernel_rfl) (by simp) ?_
              refine AllReadyH.cons rfl (fun K hK => ?_) AllReadyH.nil
              go_simp
              have z1 : (World.alloc V1 (.cells #[.string ⟨#[110]⟩, .string ⟨#[110, 101]⟩, .string ⟨#[101]⟩, .string ⟨#[115, 101]⟩, .string ⟨#[115]⟩, .string ⟨#[115, 119]⟩, .string ⟨#[119]⟩, .string ⟨#[110, 119]⟩] 9)).cell? ⟨V1.heap.size, kw, none⟩ = some (.string a) := by rw [← HAW.out]; exact way_cell V1 kw hk7
              have y1 : V1.heap.size < (World.alloc V1 (.cells #[.string ⟨#[110]⟩, .string ⟨#[110, 101]⟩, .string ⟨#[101]⟩, .string ⟨#[115, 101]⟩, .string ⟨#[115]⟩, .string ⟨#[115, 119]⟩, .string ⟨#[119]⟩, .string ⟨#[110, 119]⟩] 9)).heap.size := by simp
              have q2 : Below V.heap.size V (World.alloc V1 (.cells #[.string ⟨#[110]⟩, .string ⟨#[110, 101]⟩, .string ⟨#[101]⟩, .string ⟨#[115, 101]⟩, .string ⟨#[115]⟩, .string ⟨#[115, 119]⟩, .string ⟨#[119]⟩, .string ⟨#[110, 119]⟩] 9)) := q1.alloc q1.size _
              generalize World.alloc V1 (.cells #[.string ⟨#[110]⟩, .string ⟨#[110, 101]⟩, .string ⟨#[101]⟩, .string ⟨#[115, 101]⟩, .string ⟨#[115]⟩, .string ⟨#[115, 119]⟩, .string ⟨#[119]⟩, .string ⟨#[110, 119]⟩] 9) = V2 at z1 y1 q2 ⊢
              refine hK.out _ _ ⟨(q2.cell (p := ⟨wr.heap.size, 0, none⟩) g0).trans e0, (q2.cell (p := ⟨wr.heap.size, 1, none⟩) g0).trans e1, q2⟩ (fun hHeld => ?_)
              clear hK K
              try simp only [Act.put, List.setIfInBounds_toArray, List.set_cons_zero, List.set_cons_succ]
              refine heldI_take 3 23 ?vv113 rfl (by kernel_rfl) (by kernel_rfl) (by kernel_rfl) rfl (fun _ _ _ h => h) (by rfl) ?hy113 (by assumption) ?rest113
              case hy113 => (intro w hSw; (try dsimp only at hSw); go_simp; try with_reducible rfl)
              try simp only [Act.put, List.setIfInBounds_toArray, List.set_cons_zero, List.set_cons_succ]
              refine wpAnyH_ready (rs := [4]) (by kernel_rfl) (by simp) ?_
              refine AllReadyH.cons rfl (fun K hK => ?_) AllReadyH.nil
              go_simp
              refine hK.out _ _ ⟨(q2.cell (p := ⟨wr.heap.size, 0, none⟩) g0).trans e0, (q2.cell (p := ⟨wr.heap.size, 1, none⟩) g0).trans e1, q2⟩ (fun hHeld => ?_)
              clear hK K
              try simp only [Act.put, List.setIfInBounds_toArray, List.set_cons_zero, List.set_cons_succ]
              try simp only [List.getElem_toArray, List.getElem_cons_succ, List.getElem_cons_zero]
              try simp only [Act.put, List.setIfInBounds_toArray, List.set_cons_zero, List.set_cons_succ]
              refine heldI_take 8 28 ?vv114 rfl (by kernel_rfl) (by kernel_rfl) (by kernel_rfl) rfl (fun _ _ _ h => h) (by rfl) ?hy114 (by assumption) ?rest114
              case hy114 => (intro w hSw; (try dsimp only at hSw); go_simp; try with_reducible rfl)
              try simp only [Act.put, List.setIfInBounds_toArray, List.set_cons_zero, List.set_cons_succ]
              refine heldI_take 9 7 ?vv115 rfl (by kernel_rfl) (by kernel_rfl) (by kernel_rfl) rfl (fun _ _ _ h => h) (by rfl) ?hy115 (by assumption) ?rest115
              case hy115 => (intro w hSw; (try dsimp only at hSw); go_simp; try with_reducible rfl)
              try simp only [Act.put, List.setIfInBounds_toArray, List.set_cons_zero, List.set_cons_succ]
              refine wpAnyH_done (by kernel_rfl) ?_ _
              have HQ9 : Hid (Below V.heap.size V V2) := hide q2
              clear z1 q0 q1 hHeld
              try clear q2
              try clear y1
              generalize V2 = V9 at HQ9 ⊢
              have k2 := (HQ9.out.cell (p := ⟨wr.heap.size, 2, none⟩) g0).trans e2
              have HB9 := hide (bl_step HBV.out HQ9.out)
              have HO9 := hide (own_step HOV.out HQ9.out)
              have HT9 := hide (HTV.out.below HQ9.out)
              clear e0 e1 e2
              go_wp2_with fail
              refine (text_any x.c _ (by omega) (by omega) HT9.out).mono ?_
              rintro e V8 ⟨rfl, hb⟩
              rw [HTC.out]
              have HB8 := hide (bl_step HB9.out hb)
              have HO8 := hide (own_step HO9.out hb)
              clear hb
              obtain ⟨WD, hWD⟩ : ∃ WD, WD = a ++ b ++ (⟨#[43]⟩ : ByteArray) ++ t := ⟨_, rfl⟩
              have HWD2 : Hid (wordL x = WD) := hide (by rw [HWD.out, hWD])
              have HWDX := hide hWD
              clear hWD
              have hsz := HB8.out.size
              go_wp2_with (at_builtin; rw [← HWDX.out]; refine wpList_append_own _ rfl _ _ 36 rfl w.heap.size 9 i0 _ 1 16 Tryd.underlying36 hi hz0 hz1 hz2 rfl (by decide) _ k _ rfl (HO8.out.alloc _) ⟨V8.heap.size, 0, none⟩ 1 1 [.string WD] rfl rfl ?c1 ?c2 ?c3 ?c4 ?c5 ?_)
              case c1 => exact news_at #[.string WD]
              case c2 => intro u hu; simp at hu; subst hu; rfl
              case c3 => unfold maxLen; omega
              case c4 => omega
              case c5 => simp; omega
              intro v' w3 hown' hgrow _
              have HB3 := hide (bl_grown (HB8.out.alloc hsz _) (HO8.out.alloc _) (Nat.le_refl _) hgrow)
              have HO3 : Hid (w3.ownsRow w.heap.size 9 1 v' (k + 1) ((wordsL (zs.take (k + 1))).flatMap encS)) := hide (by rw [HWT.out, flat_snoc, HWD2.out]; exact hown')
              clear hown' hgrow hi hz0 hz1 hz2
              go_wp2
              go_roundg (n - (k + 1))
              case measure => omega
              case rel => exact ⟨k + 1, by omega, by omega, by go_num, HO3.out, HB3.out⟩
          · have HWD : Hid (wordL x = a ++ b) := hide (by unfold wordL signT; rw [if_neg (by omega), if_pos hp, hkw, Int.toNat_natCast, ha, hb2])
            clear ha hb2 ht hkw
            have HP := hide hp
            rw [hp] at e2
            clear hp
            obtain ⟨hi, hz0, hz1, hz2⟩ := HI.out
            go_wp2_with fail
            rw [← HVV.out]
            have q0 : Below V.heap.size V V.drew := (Below.refl _ _).drew
            refine wp_region_held_drew (S := fun w' => w'.cell? ⟨wr.heap.size, 0, none⟩ = some (.int .i64 kw) ∧ w'.cell? ⟨wr.heap.size, 1, none⟩ = some (.int .i64 x.u) ∧ Below V.heap.size V w') (by kernel_rfl) ⟨(q0.cell (p := ⟨wr.heap.size, 0, none⟩) g0).trans e0, (q0.cell (p := ⟨wr.heap.size, 1, none⟩) g0).trans e1, q0⟩ (fun hHeld => ?_)
            generalize V.drew = V0 at q0 hHeld ⊢
            refine heldI_take 1 21 ?vv116 rfl (by kernel_rfl) (by kernel_rfl) (by kernel_rfl) rfl (fun _ _ _ h => h) (by rfl) ?hy116 (by assumption) ?rest116
            case hy116 => (intro w hSw; (try dsimp only at hSw); go_simp; try with_reducible rfl)
            try simp only [Act.put, List.setIfInBounds_toArray, List.set_cons_zero, List.set_cons_succ]
            refine heldI_take 2 22 ?vv117 rfl (by kernel_rfl) (by kernel_rfl) (by kernel_rfl) rfl (fun _ _ _ h => h) (by rfl) ?hy117 (by assumption) ?rest117
            case hy117 => (intro w hSw; (try dsimp only at hSw); go_simp; try with_reducible rfl)
            try simp only [Act.put, List.setIfInBounds_toArray, List.set_cons_zero, List.set_cons_succ]
            refine heldI_take 5 25 ?vv118 rfl (by kernel_rfl) (by kernel_rfl) (by kernel_rfl) rfl (fun _ _ _ h => h) (by rfl) ?hy118 (by assumption) ?rest118
            case hy118 => (intro w hSw; (try dsimp only at hSw); go_simp; try with_reducible rfl)
            try simp only [Act.put, List.setIfInBounds_toArray, List.set_cons_zero, List.set_cons_succ]
            refine heldI_take 6 26 ?vv119 rfl (by kernel_rfl) (by kernel_rfl) (by kernel_rfl) rfl (fun _ _ _ h => h) (by rfl) ?hy119 (by assumption) ?rest119
            case hy119 => (intro w hSw; (try dsimp only at hSw); go_simp; try with_reducible rfl)
            try simp only [Act.put, List.setIfInBounds_toArray, List.set_cons_zero, List.set_cons_succ]
            refine wpAnyH_ready (rs := [0, 7]) (by kernel_rfl) (by simp) ?_
            refine AllReadyH.cons rfl (fun K hK => ?_) (AllReadyH.cons rfl (fun K hK => ?_) AllReadyH.nil)
            · go_simp
              have z1 : (World.alloc V0 (.cells #[.string ⟨#[110]⟩, .string ⟨#[110, 101]⟩, .string ⟨#[101]⟩, .string ⟨#[115, 101]⟩, .string ⟨#[115]⟩, .string ⟨#[115, 119]⟩, .string ⟨#[119]⟩, .string ⟨#[110, 119]⟩] 9)).cell? ⟨V0.heap.size, kw, none⟩ = some (.string a) := by rw [← HAW.out]; exact way_cell V0 kw hk7
              have y1 : V0.heap.size < (World.alloc V0 (.cells #[.string ⟨#[110]⟩, .string ⟨#[110, 101]⟩, .string ⟨#[101]⟩, .string ⟨#[115, 101]⟩, .string ⟨#[115]⟩, .string ⟨#[115, 119]⟩, .string ⟨#[119]⟩, .string ⟨#[110, 119]⟩] 9)).heap.size := by simp
              have q1 : Below V.heap.size V (World.alloc V0 (.cells #[.string ⟨#[110]⟩, .string ⟨#[110, 101]⟩, .string ⟨#[101]⟩, .string ⟨#[115, 101]⟩, .string ⟨#[115]⟩, .string ⟨#[115, 119]⟩, .string ⟨#[119]⟩, .string ⟨#[110, 119]⟩] 9)) := q0.alloc q0.size _
              generalize World.alloc V0 (.cells #[.string ⟨#[110]⟩, .string ⟨#[110, 101]⟩, .string ⟨#[101]⟩, .string ⟨#[115, 101]⟩, .string ⟨#[115]⟩, .string ⟨#[115, 119]⟩, .string ⟨#[119]⟩, .string ⟨#[110, 119]⟩] 9) = V1 at z1 y1 q1 ⊢
              refine hK.out _ _ ⟨(q1.cell (p := ⟨wr.heap.size, 0, none⟩) g0).trans e0, (q1.cell (p := ⟨wr.heap.size, 1, none⟩) g0).trans e1, q1⟩ (fun hHeld => ?_)
              clear hK K
              try simp only [Act.put, List.setIfInBounds_toArray, List.set_cons_zero, List.set_cons_succ]
              refine heldI_take 3 23 ?vv120 rfl (by kernel_rfl) (by kernel_rfl) (by kernel_rfl) rfl (fun _ _ _ h => h) (by rfl) ?hy120 (by assumption) ?rest120
              case hy120 => (intro w hSw; (try dsimp only at hSw); go_simp; try with_reducible rfl)
              try simp only [Act.put, List.setIfInBounds_toArray, List.set_cons_zero, List.set_cons_succ]
              refine wpAnyH_ready (rs := [4, 7]) (by kernel_rfl) (by simp) ?_
              refine AllReadyH.cons rfl (fun K hK => ?_) (AllReadyH.cons rfl (fun K hK => ?_) AllReadyH.nil)
              · go_simp
                refine hK.out _ _ ⟨(q1.cell (p := ⟨wr.heap.size, 0, none⟩) g0).trans e0, (q1.cell (p := ⟨wr.heap.size, 1, none⟩) g0).trans e1, q1⟩ (fun hHeld => ?_)
                clear hK K
                try simp only [Act.put, List.setIfInBounds_toArray, List.set_cons_zero, List.set_cons_succ]
                refine wpAnyH_ready (rs := [7]) (by kernel_rfl) (by simp) ?_
                refine AllReadyH.cons rfl (fun K hK => ?_) AllReadyH.nil
                go_simp
                refine (text_any x.u _ (by omega) (by omega) (HTV.out.below q1)).mono ?_
                rintro e V2 ⟨rfl, hb⟩
                rw [HBU.out]
                go_wp2_with fail
                have q2 : Below V.heap.size V V2 := bl_step q1 hb
                replace z1 := (hb.cell (p := ⟨V0.heap.size, kw, none⟩) y1).trans z1
                refine hK.out _ _ ⟨(q2.cell (p := ⟨wr.heap.size, 0, none⟩) g0).trans e0, (q2.cell (p := ⟨wr.heap.size, 1, none⟩) g0).trans e1, q2⟩ (fun hHeld => ?_)
                clear hb hK K
                try simp only [Act.put, List.setIfInBounds_toArray, List.set_cons_zero, List.set_cons_succ]
                try simp only [List.getElem_toArray, List.getElem_cons_succ, List.getElem_cons_zero]
                try simp only [Act.put, List.setIfInBounds_toArray, List.set_cons_zero, List.set_cons_succ]
                refine heldI_take 8 28 ?vv121 rfl (by kernel_rfl) (by kernel_rfl) (by kernel_rfl) rfl (fun _ _ _ h => h) (by rfl) ?hy121 (by assumption) ?rest121
                case hy121 => (intro w hSw; (try dsimp only at hSw); go_simp; try with_reducible rfl)
                try simp only [Act.put, List.setIfInBounds_toArray, List.set_cons_zero, List.set_cons_succ]
                refine heldI_take 9 7 ?vv122 rfl (by kernel_rfl) (by kernel_rfl) (by kernel_rfl) rfl (fun _ _ _ h => h) (by rfl) ?hy122 (by assumption) ?rest122
                case hy122 => (intro w hSw; (try dsimp only at hSw); go_simp; try with_reducible rfl)
                try simp only [Act.put, List.setIfInBounds_toArray, List.set_cons_zero, List.set_cons_succ]
                refine wpAnyH_done (by kernel_rfl) ?_ _
                have HQ9 : Hid (Below V.heap.size V V2) := hide q2
                clear z1 q0 q1 hHeld
                try clear q2
                try clear y1
                generalize V2 = V9 at HQ9 ⊢
                have k2 := (HQ9.out.cell (p := ⟨wr.heap.size, 2, none⟩) g0).trans e2
                have HB9 := hide (bl_step HBV.out HQ9.out)
                have HO9 := hide (own_step HOV.out HQ9.out)
                have HT9 := hide (HTV.out.below HQ9.out)
                clear e0 e1 e2
                obtain ⟨WD, hWD⟩ : ∃ WD, WD = a ++ b := ⟨_, rfl⟩
                have HWD2 : Hid (wordL x = WD) := hide (by rw [HWD.out, hWD])
                have HWDX := hide hWD
                clear hWD
                have hsz := HB9.out.size
                go_wp2_with (at_builtin; rw [← HWDX.out]; refine wpList_append_own _ rfl _ _ 36 rfl w.heap.size 9 i0 _ 1 16 Tryd.underlying36 hi hz0 hz1 hz2 rfl (by decide) _ k _ rfl (HO9.out.alloc _) ⟨V9.heap.size, 0, none⟩ 1 1 [.string WD] rfl rfl ?c1 ?c2 ?c3 ?c4 ?c5 ?_)
                case c1 => exact news_at #[.string WD]
                case c2 => intro u hu; simp at hu; subst hu; rfl
                case c3 => unfold maxLen; omega
                case c4 => omega
                case c5 => simp; omega
                intro v' w3 hown' hgrow _
                have HB3 := hide (bl_grown (HB9.out.alloc hsz _) (HO9.out.alloc _) (Nat.le_refl _) hgrow)
                have HO3 : Hid (w3.ownsRow w.heap.size 9 1 v' (k + 1) ((wordsL (zs.take (k + 1))).flatMap encS)) := hide (by rw [HWT.out, flat_snoc, HWD2.out]; exact hown')
                clear hown' hgrow hi hz0 hz1 hz2
                go_wp2
                go_roundg (n - (k + 1))
                case measure => omega
                case rel => exact ⟨k + 1, by omega, by omega, by go_num, HO3.out, HB3.out⟩
              · go_simp
                refine (text_any x.u _ (by omega) (by omega) (HTV.out.below q1)).mono ?_
                rintro e V2 ⟨rfl, hb⟩
                rw [HBU.out]
                go_wp2_with fail
                have q2 : Below V.heap.size V V2 := bl_step q1 hb
                replace z1 := (hb.cell (p := ⟨V0.heap.size, kw, none⟩) y1).trans z1
                refine hK.out _ _ ⟨(q2.cell (p := ⟨wr.heap.size, 0, none⟩) g0).trans e0, (q2.cell (p := ⟨wr.heap.size, 1, none⟩) g0).trans e1, q2⟩ (fun hHeld => ?_)
                clear hb hK K
                try simp only [Act.put, List.setIfInBounds_toArray, List.set_cons_zero, List.set_cons_succ]
                refine wpAnyH_ready (rs := [4]) (by kernel_rfl) (by simp) ?_
                refine AllReadyH.cons rfl (fun K hK => ?_) AllReadyH.nil
                go_simp
                refine hK.out _ _ ⟨(q2.cell (p := ⟨wr.heap.size, 0, none⟩) g0).trans e0, (q2.cell (p := ⟨wr.heap.size, 1, none⟩) g0).trans e1, q2⟩ (fun hHeld => ?_)
                clear hK K
                try simp only [Act.put, List.setIfInBounds_toArray, List.set_cons_zero, List.set_cons_succ]
                try simp only [List.getElem_toArray, List.getElem_cons_succ, List.getElem_cons_zero]
                try simp only [Act.put, List.setIfInBounds_toArray, List.set_cons_zero, List.set_cons_succ]
                refine heldI_take 8 28 ?vv123 rfl (by kernel_rfl) (by kernel_rfl) (by kernel_rfl) rfl (fun _ _ _ h => h) (by rfl) ?hy123 (by assumption) ?rest123
                case hy123 => (intro w hSw; (try dsimp only at hSw); go_simp; try with_reducible rfl)
                try simp only [Act.put, List.setIfInBounds_toArray, List.set_cons_zero, List.set_cons_succ]
                refine heldI_take 9 7 ?vv124 rfl (by kernel_rfl) (by kernel_rfl) (by kernel_rfl) rfl (fun _ _ _ h => h) (by rfl) ?hy124 (by assumption) ?rest124
                case hy124 => (intro w hSw; (try dsimp only at hSw); go_simp; try with_reducible rfl)
                try simp only [Act.put, List.setIfInBounds_toArray, List.set_cons_zero, List.set_cons_succ]
                refine wpAnyH_done (by kernel_rfl) ?_ _
                have HQ9 : Hid (Below V.heap.size V V2) := hide q2
                clear z1 q0 q1 hHeld
                try clear q2
                try clear y1
                generalize V2 = V9 at HQ9 ⊢
                have k2 := (HQ9.out.cell (p := ⟨wr.heap.size, 2, none⟩) g0).trans e2
                have HB9 := hide (bl_step HBV.out HQ9.out)
                have HO9 := hide (own_step HOV.out HQ9.out)
                have HT9 := hide (HTV.out.below HQ9.out)
                clear e0 e1 e2
                obtain ⟨WD, hWD⟩ : ∃ WD, WD = a ++ b := ⟨_, rfl⟩
                have HWD2 : Hid (wordL x = WD) := hide (by rw [HWD.out, hWD])
                have HWDX := hide hWD
                clear hWD
                have hsz := HB9.out.size
                go_wp2_with (at_builtin; rw [← HWDX.out]; refine wpList_append_own _ rfl _ _ 36 rfl w.heap.size 9 i0 _ 1 16 Tryd.underlying36 hi hz0 hz1 hz2 rfl (by decide) _ k _ rfl (HO9.out.alloc _) ⟨V9.heap.size, 0, none⟩ 1 1 [.string WD] rfl rfl ?c1 ?c2 ?c3 ?c4 ?c5 ?_)
                case c1 => exact news_at #[.string WD]
                case c2 => intro u hu; simp at hu; subst hu; rfl
                case c3 => unfold maxLen; omega
                case c4 => omega
                case c5 => simp; omega
                intro v' w3 hown' hgrow _
                have HB3 := hide (bl_grown (HB9.out.alloc hsz _) (HO9.out.alloc _) (Nat.le_refl _) hgrow)
                have HO3 : Hid (w3.ownsRow w.heap.size 9 1 v' (k + 1) ((wordsL (zs.take (k + 1))).flatMap encS)) := hide (by rw [HWT.out, flat_snoc, HWD2.out]; exact hown')
                clear hown' hgrow hi hz0 hz1 hz2
                go_wp2
                go_roundg (n - (k + 1))
                case measure => omega
                case rel => exact ⟨k + 1, by omega, by omega, by go_num, HO3.out, HB3.out⟩
            · go_simp
              refine (text_any x.u _ (by omega) (by omega) (HTV.out.below q0)).mono ?_
              rintro e V1 ⟨rfl, hb⟩
              rw [HBU.out]
              go_wp2_with fail
              have q1 : Below V.heap.size V V1 := bl_step q0 hb
              refine hK.out _ _ ⟨(q1.cell (p := ⟨wr.heap.size, 0, none⟩) g0).trans e0, (q1.cell (p := ⟨wr.heap.size, 1, none⟩) g0).trans e1, q1⟩ (fun hHeld => ?_)
              clear hb hK K
              try simp only [Act.put, List.setIfInBounds_toArray, List.set_cons_zero, List.set_cons_succ]
              refine wpAnyH_ready (rs := [0]) (by kernel_rfl) (by simp) ?_
              refine AllReadyH.cons rfl (fun K hK => ?_) AllReadyH.nil
              go_simp
              have z1 : (World.alloc V1 (.cells #[.string ⟨#[110]⟩, .string ⟨#[110, 101]⟩, .string ⟨#[101]⟩, .string ⟨#[115, 101]⟩, .string ⟨#[115]⟩, .string ⟨#[115, 119]⟩, .string ⟨#[119]⟩, .string ⟨#[110, 119]⟩] 9)).cell? ⟨V1.heap.size, kw, none⟩ = some (.string a) := by rw [← HAW.out]; exact way_cell V1 kw hk7
              have y1 : V1.heap.size < (World.alloc V1 (.cells #[.string ⟨#[110]⟩, .string ⟨#[110, 101]⟩, .string ⟨#[101]⟩, .string ⟨#[115, 101]⟩, .string ⟨#[115]⟩, .string ⟨#[115, 119]⟩, .string ⟨#[119]⟩, .string ⟨#[110, 119]⟩] 9)).heap.size := by simp
              have q2 : Below V.heap.size V (World.alloc V1 (.cells #[.string ⟨#[110]⟩, .string ⟨#[110, 101]⟩, .string ⟨#[101]⟩, .string ⟨#[115, 101]⟩, .string ⟨#[115]⟩, .string ⟨#[115, 119]⟩, .string ⟨#[119]⟩, .string ⟨#[110, 119]⟩] 9)) := q1.alloc q1.size _
              generalize World.alloc V1 (.cells #[.string ⟨#[110]⟩, .string ⟨#[110, 101]⟩, .string ⟨#[101]⟩, .string ⟨#[115, 101]⟩, .string ⟨#[115]⟩, .string ⟨#[115, 119]⟩, .string ⟨#[119]⟩, .string ⟨#[110, 119]⟩] 9) = V2 at z1 y1 q2 ⊢
              refine hK.out _ _ ⟨(q2.cell (p := ⟨wr.heap.size, 0, none⟩) g0).trans e0, (q2.cell (p := ⟨wr.heap.size, 1, none⟩) g0).trans e1, q2⟩ (fun hHeld => ?_)
              clear hK K
              try simp only [Act.put, List.setIfInBounds_toArray, List.set_cons_zero, List.set_cons_succ]
              refine heldI_take 3 23 ?vv125 rfl (by kernel_rfl) (by kernel_rfl) (by kernel_rfl) rfl (fun _ _ _ h => h) (by rfl) ?hy125 (by assumption) ?rest125
              case hy125 => (intro w hSw; (try dsimp only at hSw); go_simp; try with_reducible rfl)
              try simp only [Act.put, List.setIfInBounds_toArray, List.set_cons_zero, List.set_cons_succ]
              refine wpAnyH_ready (rs := [4]) (by kernel_rfl) (by simp) ?_
              refine AllReadyH.cons rfl (fun K hK => ?_) AllReadyH.nil
              go_simp
              refine hK.out _ _ ⟨(q2.cell (p := ⟨wr.heap.size, 0, none⟩) g0).trans e0, (q2.cell (p := ⟨wr.heap.size, 1, none⟩) g0).trans e1, q2⟩ (fun hHeld => ?_)
              clear hK K
              try simp only [Act.put, List.setIfInBounds_toArray, List.set_cons_zero, List.set_cons_succ]
              try simp only [List.getElem_toArray, List.getElem_cons_succ, List.getElem_cons_zero]
              try simp only [Act.put, List.setIfInBounds_toArray, List.set_cons_zero, List.set_cons_succ]
              refine heldI_take 8 28 ?vv126 rfl (by kernel_rfl) (by kernel_rfl) (by kernel_rfl) rfl (fun _ _ _ h => h) (by rfl) ?hy126 (by assumption) ?rest126
              case hy126 => (intro w hSw; (try dsimp only at hSw); go_simp; try with_reducible rfl)
              try simp only [Act.put, List.setIfInBounds_toArray, List.set_cons_zero, List.set_cons_succ]
              refine heldI_take 9 7 ?vv127 rfl (by kernel_rfl) (by kernel_rfl) (by kernel_rfl) rfl (fun _ _ _ h => h) (by rfl) ?hy127 (by assumption) ?rest127
              case hy127 => (intro w hSw; (try dsimp only at hSw); go_simp; try with_reducible rfl)
              try simp only [Act.put, List.setIfInBounds_toArray, List.set_cons_zero, List.set_cons_succ]
              refine wpAnyH_done (by kernel_rfl) ?_ _
              have HQ9 : Hid (Below V.heap.size V V2) := hide q2
              clear z1 q0 q1 hHeld
              try clear q2
              try clear y1
              generalize V2 = V9 at HQ9 ⊢
              have k2 := (HQ9.out.cell (p := ⟨wr.heap.size, 2, none⟩) g0).trans e2
              have HB9 := hide (bl_step HBV.out HQ9.out)
              have HO9 := hide (own_step HOV.out HQ9.out)
              have HT9 := hide (HTV.out.below HQ9.out)
              clear e0 e1 e2
              obtain ⟨WD, hWD⟩ : ∃ WD, WD = a ++ b := ⟨_, rfl⟩
              have HWD2 : Hid (wordL x = WD) := hide (by rw [HWD.out, hWD])
              have HWDX := hide hWD
              clear hWD
              have hsz := HB9.out.size
              go_wp2_with (at_builtin; rw [← HWDX.out]; refine wpList_append_own _ rfl _ _ 36 rfl w.heap.size 9 i0 _ 1 16 Tryd.underlying36 hi hz0 hz1 hz2 rfl (by decide) _ k _ rfl (HO9.out.alloc _) ⟨V9.heap.size, 0, none⟩ 1 1 [.string WD] rfl rfl ?c1 ?c2 ?c3 ?c4 ?c5 ?_)
              case c1 => exact news_at #[.string WD]
              case c2 => intro u hu; simp at hu; subst hu; rfl
              case c3 => unfold maxLen; omega
              case c4 => omega
              case c5 => simp; omega
              intro v' w3 hown' hgrow _
              have HB3 := hide (bl_grown (HB9.out.alloc hsz _) (HO9.out.alloc _) (Nat.le_refl _) hgrow)
              have HO3 : Hid (w3.ownsRow w.heap.size 9 1 v' (k + 1) ((wordsL (zs.take (k + 1))).flatMap encS)) := hide (by rw [HWT.out, flat_snoc, HWD2.out]; exact hown')
              clear hown' hgrow hi hz0 hz1 hz2
              go_wp2
              go_roundg (n - (k + 1))
              case measure => omega
              case rel => exact ⟨k + 1, by omega, by omega, by go_num, HO3.out, HB3.out⟩
          · have HWD : Hid (wordL x = a ++ b ++ t) := hide (by unfold wordL signT; rw [if_neg (by omega), if_neg (by omega), hkw, Int.toNat_natCast, ha, hb2, ht])
            clear ha hb2 ht hkw
            have HP := hide hp
            have p0 : ¬ 0 < x.c := by omega
            have p0' : decide (0 < x.c) = false := decide_eq_false (by omega)
            have p1 : decide (x.c = 0) = false := decide_eq_false (by omega)
            have p2 : (x.c == 0) = false := by simp; omega
            have p3 : (x.c != 0) = true := by simp; omega
            clear hp
            obtain ⟨hi, hz0, hz1, hz2⟩ := HI.out
            go_wp2_with fail
            rw [← HVV.out]
            have q0 : Below V.heap.size V V.drew := (Below.refl _ _).drew
            refine wp_region_held_drew (S := fun w' => w'.cell? ⟨wr.heap.size, 0, none⟩ = some (.int .i64 kw) ∧ w'.cell? ⟨wr.heap.size, 1, none⟩ = some (.int .i64 x.u) ∧ Below V.heap.size V w') (by kernel_rfl) ⟨(q0.cell (p := ⟨wr.heap.size, 0, none⟩) g0).trans e0, (q0.cell (p := ⟨wr.heap.size, 1, none⟩) g0).trans e1, q0⟩ (fun hHeld => ?_)
            generalize V.drew = V0 at q0 hHeld ⊢
            refine heldI_take 1 21 ?vv128 rfl (by kernel_rfl) (by kernel_rfl) (by kernel_rfl) rfl (fun _ _ _ h => h) (by rfl) ?hy128 (by assumption) ?rest128
            case hy128 => (intro w hSw; (try dsimp only at hSw); go_simp; try with_reducible rfl)
            try simp only [Act.put, List.setIfInBounds_toArray, List.set_cons_zero, List.set_cons_succ]
            refine heldI_take 2 22 ?vv129 rfl (by kernel_rfl) (by kernel_rfl) (by kernel_rfl) rfl (fun _ _ _ h => h) (by rfl) ?hy129 (by assumption) ?rest129
            case hy129 => (intro w hSw; (try dsimp only at hSw); go_simp; try with_reducible rfl)
            try simp only [Act.put, List.setIfInBounds_toArray, List.set_cons_zero, List.set_cons_succ]
            refine heldI_take 5 25 ?vv130 rfl (by kernel_rfl) (by kernel_rfl) (by kernel_rfl) rfl (fun _ _ _ h => h) (by rfl) ?hy130 (by assumption) ?rest130
            case hy130 => (intro w hSw; (try dsimp only at hSw); go_simp; try with_reducible rfl)
            try simp only [Act.put, List.setIfInBounds_toArray, List.set_cons_zero, List.set_cons_succ]
            refine heldI_take 6 26 ?vv131 rfl (by kernel_rfl) (by kernel_rfl) (by kernel_rfl) rfl (fun _ _ _ h => h) (by rfl) ?hy131 (by assumption) ?rest131
            case hy131 => (intro w hSw; (try dsimp only at hSw); go_simp; try with_reducible rfl)
            try simp only [Act.put, List.setIfInBounds_toArray, List.set_cons_zero, List.set_cons_succ]
            refine wpAnyH_ready (rs := [0, 7]) (by kernel_rfl) (by simp) ?_
            refine AllReadyH.cons rfl (fun K hK => ?_) (AllReadyH.cons rfl (fun K hK => ?_) AllReadyH.nil)
            · go_simp
              have z1 : (World.alloc V0 (.cells #[.string ⟨#[110]⟩, .string ⟨#[110, 101]⟩, .string ⟨#[101]⟩, .string ⟨#[115, 101]⟩, .string ⟨#[115]⟩, .string ⟨#[115, 119]⟩, .string ⟨#[119]⟩, .string ⟨#[110, 119]⟩] 9)).cell? ⟨V0.heap.size, kw, none⟩ = some (.string a) := by rw [← HAW.out]; exact way_cell V0 kw hk7
              have y1 : V0.heap.size < (World.alloc V0 (.cells #[.string ⟨#[110]⟩, .string ⟨#[110, 101]⟩, .string ⟨#[101]⟩, .string ⟨#[115, 101]⟩, .string ⟨#[115]⟩, .string ⟨#[115, 119]⟩, .string ⟨#[119]⟩, .string ⟨#[110, 119]⟩] 9)).heap.size := by simp
              have q1 : Below V.heap.size V (World.alloc V0 (.cells #[.string ⟨#[110]⟩, .string ⟨#[110, 101]⟩, .string ⟨#[101]⟩, .string ⟨#[115, 101]⟩, .string ⟨#[115]⟩, .string ⟨#[115, 119]⟩, .string ⟨#[119]⟩, .string ⟨#[110, 119]⟩] 9)) := q0.alloc q0.size _
              generalize World.alloc V0 (.cells #[.string ⟨#[110]⟩, .string ⟨#[110, 101]⟩, .string ⟨#[101]⟩, .string ⟨#[115, 101]⟩, .string ⟨#[115]⟩, .string ⟨#[115, 119]⟩, .string ⟨#[119]⟩, .string ⟨#[110, 119]⟩] 9) = V1 at z1 y1 q1 ⊢
              refine hK.out _ _ ⟨(q1.cell (p := ⟨wr.heap.size, 0, none⟩) g0).trans e0, (q1.cell (p := ⟨wr.heap.size, 1, none⟩) g0).trans e1, q1⟩ (fun hHeld => ?_)
              clear hK K
              try simp only [Act.put, List.setIfInBounds_toArray, List.set_cons_zero, List.set_cons_succ]
              refine heldI_take 3 23 ?vv132 rfl (by kernel_rfl) (by kernel_rfl) (by kernel_rfl) rfl (fun _ _ _ h => h) (by rfl) ?hy132 (by assumption) ?rest132
              case hy132 => (intro w hSw; (try dsimp only at hSw); go_simp; try with_reducible rfl)
              try simp only [Act.put, List.setIfInBounds_toArray, List.set_cons_zero, List.set_cons_succ]
              refine wpAnyH_ready (rs := [4, 7]) (by kernel_rfl) (by simp) ?_
              refine AllReadyH.cons rfl (fun K hK => ?_) (AllReadyH.cons rfl (fun K hK => ?_) AllReadyH.nil)
              · go_simp
                refine hK.out _ _ ⟨(q1.cell (p := ⟨wr.heap.size, 0, none⟩) g0).trans e0, (q1.cell (p := ⟨wr.heap.size, 1, none⟩) g0).trans e1, q1⟩ (fun hHeld => ?_)
                clear hK K
                try simp only [Act.put, List.setIfInBounds_toArray, List.set_cons_zero, List.set_cons_succ]
                refine wpAnyH_ready (rs := [7]) (by kernel_rfl) (by simp) ?_
                refine AllReadyH.cons rfl (fun K hK => ?_) AllReadyH.nil
                go_simp
                refine (text_any x.u _ (by omega) (by omega) (HTV.out.below q1)).mono ?_
                rintro e V2 ⟨rfl, hb⟩
                rw [HBU.out]
                go_wp2_with fail
                have q2 : Below V.heap.size V V2 := bl_step q1 hb
                replace z1 := (hb.cell (p := ⟨V0.heap.size, kw, none⟩) y1).trans z1
                refine hK.out _ _ ⟨(q2.cell (p := ⟨wr.heap.size, 0, none⟩) g0).trans e0, (q2.cell (p := ⟨wr.heap.size, 1, none⟩) g0).trans e1, q2⟩ (fun hHeld => ?_)
                clear hb hK K
                try simp only [Act.put, List.setIfInBounds_toArray, List.set_cons_zero, List.set_cons_succ]
                try simp only [List.getElem_toArray, List.getElem_cons_succ, List.getElem_cons_zero]
                try simp only [Act.put, List.setIfInBounds_toArray, List.set_cons_zero, List.set_cons_succ]
                refine heldI_take 8 28 ?vv133 rfl (by kernel_rfl) (by kernel_rfl) (by kernel_rfl) rfl (fun _ _ _ h => h) (by rfl) ?hy133 (by assumption) ?rest133
                case hy133 => (intro w hSw; (try dsimp only at hSw); go_simp; try with_reducible rfl)
                try simp only [Act.put, List.setIfInBounds_toArray, List.set_cons_zero, List.set_cons_succ]
                refine heldI_take 9 7 ?vv134 rfl (by kernel_rfl) (by kernel_rfl) (by kernel_rfl) rfl (fun _ _ _ h => h) (by rfl) ?hy134 (by assumption) ?rest134
                case hy134 => (intro w hSw; (try dsimp only at hSw); go_simp; try with_reducible rfl)
                try simp only [Act.put, List.setIfInBounds_toArray, List.set_cons_zero, List.set_cons_succ]
                refine wpAnyH_done (by kernel_rfl) ?_ _
                have HQ9 : Hid (Below V.heap.size V V2) := hide q2
                clear z1 q0 q1 hHeld
                try clear q2
                try clear y1
                generalize V2 = V9 at HQ9 ⊢
                have k2 := (HQ9.out.cell (p := ⟨wr.heap.size, 2, none⟩) g0).trans e2
                have HB9 := hide (bl_step HBV.out HQ9.out)
                have HO9 := hide (own_step HOV.out HQ9.out)
                have HT9 := hide (HTV.out.below HQ9.out)
                clear e0 e1 e2
                go_wp2_with fail
                refine (text_any x.c _ (by omega) (by omega) HT9.out).mono ?_
                rintro e V8 ⟨rfl, hb⟩
                rw [HTC.out]
                have HB8 := hide (bl_step HB9.out hb)
                have HO8 := hide (own_step HO9.out hb)
                clear hb
                obtain ⟨WD, hWD⟩ : ∃ WD, WD = a ++ b ++ t := ⟨_, rfl⟩
                have HWD2 : Hid (wordL x = WD) := hide (by rw [HWD.out, hWD])
                have HWDX := hide hWD
                clear hWD
                have hsz := HB8.out.size
                go_wp2_with (at_builtin; rw [← HWDX.out]; refine wpList_append_own _ rfl _ _ 36 rfl w.heap.size 9 i0 _ 1 16 Tryd.underlying36 hi hz0 hz1 hz2 rfl (by decide) _ k _ rfl (HO8.out.alloc _) ⟨V8.heap.size, 0, none⟩ 1 1 [.string WD] rfl rfl ?c1 ?c2 ?c3 ?c4 ?c5 ?_)
                case c1 => exact news_at #[.string WD]
                case c2 => intro u hu; simp at hu; subst hu; rfl
                case c3 => unfold maxLen; omega
                case c4 => omega
                case c5 => simp; omega
                intro v' w3 hown' hgrow _
                have HB3 := hide (bl_grown (HB8.out.alloc hsz _) (HO8.out.alloc _) (Nat.le_refl _) hgrow)
                have HO3 : Hid (w3.ownsRow w.heap.size 9 1 v' (k + 1) ((wordsL (zs.take (k + 1))).flatMap encS)) := hide (by rw [HWT.out, flat_snoc, HWD2.out]; exact hown')
                clear hown' hgrow hi hz0 hz1 hz2
                go_wp2
                go_roundg (n - (k + 1))
                case measure => omega
                case rel => exact ⟨k + 1, by omega, by omega, by go_num, HO3.out, HB3.out⟩
              · go_simp
                refine (text_any x.u _ (by omega) (by omega) (HTV.out.below q1)).mono ?_
                rintro e V2 ⟨rfl, hb⟩
                rw [HBU.out]
                go_wp2_with fail
                have q2 : Below V.heap.size V V2 := bl_step q1 hb
                replace z1 := (hb.cell (p := ⟨V0.heap.size, kw, none⟩) y1).trans z1
                refine hK.out _ _ ⟨(q2.cell (p := ⟨wr.heap.size, 0, none⟩) g0).trans e0, (q2.cell (p := ⟨wr.heap.size, 1, none⟩) g0).trans e1, q2⟩ (fun hHeld => ?_)
                clear hb hK K
                try simp only [Act.put, List.setIfInBounds_toArray, List.set_cons_zero, List.set_cons_succ]
                refine wpAnyH_ready (rs := [4]) (by kernel_rfl) (by simp) ?_
                refine AllReadyH.cons rfl (fun K hK => ?_) AllReadyH.nil
                go_simp
                refine hK.out _ _ ⟨(q2.cell (p := ⟨wr.heap.size, 0, none⟩) g0).trans e0, (q2.cell (p := ⟨wr.heap.size, 1, none⟩) g0).trans e1, q2⟩ (fun hHeld => ?_)
                clear hK K
                try simp only [Act.put, List.setIfInBounds_toArray, List.set_cons_zero, List.set_cons_succ]
                try simp only [List.getElem_toArray, List.getElem_cons_succ, List.getElem_cons_zero]
                try simp only [Act.put, List.setIfInBounds_toArray, List.set_cons_zero, List.set_cons_succ]
                refine heldI_take 8 28 ?vv135 rfl (by kernel_rfl) (by kernel_rfl) (by kernel_rfl) rfl (fun _ _ _ h => h) (by rfl) ?hy135 (by assumption) ?rest135
                case hy135 => (intro w hSw; (try dsimp only at hSw); go_simp; try with_reducible rfl)
                try simp only [Act.put, List.setIfInBounds_toArray, List.set_cons_zero, List.set_cons_succ]
                refine heldI_take 9 7 ?vv136 rfl (by kernel_rfl) (by kernel_rfl) (by kernel_rfl) rfl (fun _ _ _ h => h) (by rfl) ?hy136 (by assumption) ?rest136
                case hy136 => (intro w hSw; (try dsimp only at hSw); go_simp; try with_reducible rfl)
                try simp only [Act.put, List.setIfInBounds_toArray, List.set_cons_zero, List.set_cons_succ]
                refine wpAnyH_done (by kernel_rfl) ?_ _
                have HQ9 : Hid (Below V.heap.size V V2) := hide q2
                clear z1 q0 q1 hHeld
                try clear q2
                try clear y1
                generalize V2 = V9 at HQ9 ⊢
                have k2 := (HQ9.out.cell (p := ⟨wr.heap.size, 2, none⟩) g0).trans e2
                have HB9 := hide (bl_step HBV.out HQ9.out)
                have HO9 := hide (own_step HOV.out HQ9.out)
                have HT9 := hide (HTV.out.below HQ9.out)
                clear e0 e1 e2
                go_wp2_with fail
                refine (text_any x.c _ (by omega) (by omega) HT9.out).mono ?_
                rintro e V8 ⟨rfl, hb⟩
                rw [HTC.out]
                have HB8 := hide (bl_step HB9.out hb)
                have HO8 := hide (own_step HO9.out hb)
                clear hb
                obtain ⟨WD, hWD⟩ : ∃ WD, WD = a ++ b ++ t := ⟨_, rfl⟩
                have HWD2 : Hid (wordL x = WD) := hide (by rw [HWD.out, hWD])
                have HWDX := hide hWD
                clear hWD
                have hsz := HB8.out.size
                go_wp2_with (at_builtin; rw [← HWDX.out]; refine wpList_append_own _ rfl _ _ 36 rfl w.heap.size 9 i0 _ 1 16 Tryd.underlying36 hi hz0 hz1 hz2 rfl (by decide) _ k _ rfl (HO8.out.alloc _) ⟨V8.heap.size, 0, none⟩ 1 1 [.string WD] rfl rfl ?c1 ?c2 ?c3 ?c4 ?c5 ?_)
                case c1 => exact news_at #[.string WD]
                case c2 => intro u hu; simp at hu; subst hu; rfl
                case c3 => unfold maxLen; omega
                case c4 => omega
                case c5 => simp; omega
                intro v' w3 hown' hgrow _
                have HB3 := hide (bl_grown (HB8.out.alloc hsz _) (HO8.out.alloc _) (Nat.le_refl _) hgrow)
                have HO3 : Hid (w3.ownsRow w.heap.size 9 1 v' (k + 1) ((wordsL (zs.take (k + 1))).flatMap encS)) := hide (by rw [HWT.out, flat_snoc, HWD2.out]; exact hown')
                clear hown' hgrow hi hz0 hz1 hz2
                go_wp2
                go_roundg (n - (k + 1))
                case measure => omega
                case rel => exact ⟨k + 1, by omega, by omega, by go_num, HO3.out, HB3.out⟩
            · go_simp
              refine (text_any x.u _ (by omega) (by omega) (HTV.out.below q0)).mono ?_
              rintro e V1 ⟨rfl, hb⟩
              rw [HBU.out]
              go_wp2_with fail
              have q1 : Below V.heap.size V V1 := bl_step q0 hb
              refine hK.out _ _ ⟨(q1.cell (p := ⟨wr.heap.size, 0, none⟩) g0).trans e0, (q1.cell (p := ⟨wr.heap.size, 1, none⟩) g0).trans e1, q1⟩ (fun hHeld => ?_)
              clear hb hK K
              try simp only [Act.put, List.setIfInBounds_toArray, List.set_cons_zero, List.set_cons_succ]
              refine wpAnyH_ready (rs := [0]) (by kernel_rfl) (by simp) ?_
              refine AllReadyH.cons rfl (fun K hK => ?_) AllReadyH.nil
              go_simp
              have z1 : (World.alloc V1 (.cells #[.string ⟨#[110]⟩, .string ⟨#[110, 101]⟩, .string ⟨#[101]⟩, .string ⟨#[115, 101]⟩, .string ⟨#[115]⟩, .string ⟨#[115, 119]⟩, .string ⟨#[119]⟩, .string ⟨#[110, 119]⟩] 9)).cell? ⟨V1.heap.size, kw, none⟩ = some (.string a) := by rw [← HAW.out]; exact way_cell V1 kw hk7
              have y1 : V1.heap.size < (World.alloc V1 (.cells #[.string ⟨#[110]⟩, .string ⟨#[110, 101]⟩, .string ⟨#[101]⟩, .string ⟨#[115, 101]⟩, .string ⟨#[115]⟩, .string ⟨#[115, 119]⟩, .string ⟨#[119]⟩, .string ⟨#[110, 119]⟩] 9)).heap.size := by simp
              have q2 : Below V.heap.size V (World.alloc V1 (.cells #[.string ⟨#[110]⟩, .string ⟨#[110, 101]⟩, .string ⟨#[101]⟩, .string ⟨#[115, 101]⟩, .string ⟨#[115]⟩, .string ⟨#[115, 119]⟩, .string ⟨#[119]⟩, .string ⟨#[110, 119]⟩] 9)) := q1.alloc q1.size _
              generalize World.alloc V1 (.cells #[.string ⟨#[110]⟩, .string ⟨#[110, 101]⟩, .string ⟨#[101]⟩, .string ⟨#[115, 101]⟩, .string ⟨#[115]⟩, .string ⟨#[115, 119]⟩, .string ⟨#[119]⟩, .string ⟨#[110, 119]⟩] 9) = V2 at z1 y1 q2 ⊢
              refine hK.out _ _ ⟨(q2.cell (p := ⟨wr.heap.size, 0, none⟩) g0).trans e0, (q2.cell (p := ⟨wr.heap.size, 1, none⟩) g0).trans e1, q2⟩ (fun hHeld => ?_)
              clear hK K
              try simp only [Act.put, List.setIfInBounds_toArray, List.set_cons_zero, List.set_cons_succ]
              refine heldI_take 3 23 ?vv137 rfl (by kernel_rfl) (by kernel_rfl) (by kernel_rfl) rfl (fun _ _ _ h => h) (by rfl) ?hy137 (by assumption) ?rest137
              case hy137 => (intro w hSw; (try dsimp only at hSw); go_simp; try with_reducible rfl)
              try simp only [Act.put, List.setIfInBounds_toArray, List.set_cons_zero, List.set_cons_succ]
              refine wpAnyH_ready (rs := [4]) (by kernel_rfl) (by simp) ?_
              refine AllReadyH.cons rfl (fun K hK => ?_) AllReadyH.nil
              go_simp
              refine hK.out _ _ ⟨(q2.cell (p := ⟨wr.heap.size, 0, none⟩) g0).trans e0, (q2.cell (p := ⟨wr.heap.size, 1, none⟩) g0).trans e1, q2⟩ (fun hHeld => ?_)
              clear hK K
              try simp only [Act.put, List.setIfInBounds_toArray, List.set_cons_zero, List.set_cons_succ]
              try simp only [List.getElem_toArray, List.getElem_cons_succ, List.getElem_cons_zero]
              try simp only [Act.put, List.setIfInBounds_toArray, List.set_cons_zero, List.set_cons_succ]
              refine heldI_take 8 28 ?vv138 rfl (by kernel_rfl) (by kernel_rfl) (by kernel_rfl) rfl (fun _ _ _ h => h) (by rfl) ?hy138 (by assumption) ?rest138
              case hy138 => (intro w hSw; (try dsimp only at hSw); go_simp; try with_reducible rfl)
              try simp only [Act.put, List.setIfInBounds_toArray, List.set_cons_zero, List.set_cons_succ]
              refine heldI_take 9 7 ?vv139 rfl (by kernel_rfl) (by kernel_rfl) (by kernel_rfl) rfl (fun _ _ _ h => h) (by rfl) ?hy139 (by assumption) ?rest139
              case hy139 => (intro w hSw; (try dsimp only at hSw); go_simp; try with_reducible rfl)
              try simp only [Act.put, List.setIfInBounds_toArray, List.set_cons_zero, List.set_cons_succ]
              refine wpAnyH_done (by kernel_rfl) ?_ _
              have HQ9 : Hid (Below V.heap.size V V2) := hide q2
              clear z1 q0 q1 hHeld
              try clear q2
              try clear y1
              generalize V2 = V9 at HQ9 ⊢
              have k2 := (HQ9.out.cell (p := ⟨wr.heap.size, 2, none⟩) g0).trans e2
              have HB9 := hide (bl_step HBV.out HQ9.out)
              have HO9 := hide (own_step HOV.out HQ9.out)
              have HT9 := hide (HTV.out.below HQ9.out)
              clear e0 e1 e2
              go_wp2_with fail
              refine (text_any x.c _ (by omega) (by omega) HT9.out).mono ?_
              rintro e V8 ⟨rfl, hb⟩
              rw [HTC.out]
              have HB8 := hide (bl_step HB9.out hb)
              have HO8 := hide (own_step HO9.out hb)
              clear hb
              obtain ⟨WD, hWD⟩ : ∃ WD, WD = a ++ b ++ t := ⟨_, rfl⟩
              have HWD2 : Hid (wordL x = WD) := hide (by rw [HWD.out, hWD])
              have HWDX := hide hWD
              clear hWD
              have hsz := HB8.out.size
              go_wp2_with (at_builtin; rw [← HWDX.out]; refine wpList_append_own _ rfl _ _ 36 rfl w.heap.size 9 i0 _ 1 16 Tryd.underlying36 hi hz0 hz1 hz2 rfl (by decide) _ k _ rfl (HO8.out.alloc _) ⟨V8.heap.size, 0, none⟩ 1 1 [.string WD] rfl rfl ?c1 ?c2 ?c3 ?c4 ?c5 ?_)
              case c1 => exact news_at #[.string WD]
              case c2 => intro u hu; simp at hu; subst hu; rfl
              case c3 => unfold maxLen; omega
              case c4 => omega
              case c5 => simp; omega
              intro v' w3 hown' hgrow _
              have HB3 := hide (bl_grown (HB8.out.alloc hsz _) (HO8.out.alloc _) (Nat.le_refl _) hgrow)
              have HO3 : Hid (w3.ownsRow w.heap.size 9 1 v' (k + 1) ((wordsL (zs.take (k + 1))).flatMap encS)) := hide (by rw [HWT.out, flat_snoc, HWD2.out]; exact hown')
              clear hown' hgrow hi hz0 hz1 hz2
              go_wp2
              go_roundg (n - (k + 1))
              case measure => omega
              case rel => exact ⟨k + 1, by omega, by omega, by go_num, HO3.out, HB3.out⟩
        · have hltz : ¬ (k : Int) < (n : Int) := by omega
          obtain rfl : k = n := by omega
          have HTK : Hid (zs.take k = zs) := hide (by rw [List.take_of_length_le (by rw [HZ.out]; exact Nat.le_refl _)])
          have HC := hide (joinOwn_any w.heap.size u4 k (wordsL zs) wr (by rw [wordsL_len, HZ.out]) (by omega) (fun y hy => Nat.le_trans (wordsL_size H1.out y hy) (by omega)) (by have := OW.out; rw [HTK.out] at this; exact this))
          have HB9 := hide BW.out
          clear OW
          go_wp2_with fail
          refine HC.out.mono ?_
          rintro e w9 ⟨rfl, hb⟩
          have HBF := hide (bl_step HB9.out hb)
          clear hb HC
          go_wp2
          go_ret2
          exact ⟨ret_sb HO.out.symm rfl, HBF.out⟩

end Go.Proofs.YtpmghdhgnehphaaDoor
