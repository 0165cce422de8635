/- Copyings drawn. -/
import Derived.Test.YtpghdjehagamlaaC7
import Derived.Test.YtpghdjehagamlaaC4
import Derived.Test.YtpghdjehagamlaaRE
import Derived.Deep.RegionWith
import Derived.Deep.AppendLies
namespace Go.Proofs.Ytpghdjehagamlaa
open Go.RowKit
set_option linter.unusedVariables false
set_option linter.unusedSimpArgs false

theorem own_base0 {w : World} {b b2 n k : Nat} {e : TypeId} {v : Value} {xs : List Value} (ho : w.ownsRow b e k v n xs) (h : b2 ≤ b) : w.ownsRow b2 e k v n xs := ⟨ho.1, ho.2.imp id (fun ⟨g, cap, cur, h1, h2, r⟩ => ⟨g, cap, cur, h1, Nat.le_trans h h2, r⟩)⟩

theorem rd_tail4 {B : Nat} {w : World} {g off : Nat} {x : Cp} {t : List Cp} (h : Rd encCp 4 B w (some ⟨g, off, none⟩) (x :: t)) : Rd encCp 4 B w (some ⟨g, off + 4, none⟩) t := by
  rcases h with h | ⟨b, o, he, h1, h2, hc⟩
  · cases h
  · injection he with he
    injection he with e1 e2 e3
    subst e1 e2
    refine .inr ⟨g, off + 4, rfl, h1, h2, fun j y hy i v hv => ?_⟩
    have := hc (j + 1) y (by simpa using hy) i v hv
    rw [← this]
    congr 2
    omega

theorem heldC_skip {P : Program} {md : Region.Mode} {ops : Array Oper} {Q : Exit → Act → World → Prop} {S : World → Prop} (i : Nat) (d : Tmp) {oi : Oper} {fuel : Nat} {listed : Array Bool} {a : Act} {w : World} (hi : ops[i]? = some oi)
    (hs : Region.noSelect ops = true) (hf : Region.free md ops listed i = true) (hr : (Region.ready md ops listed).contains i = true) (hd : oi.dst = some d) (hQ : ∀ c a w, Q (.panic c) (a.put (some d) undef) w → Q (.panic c) a w)
    (hw : Region.wanted oi (yielded ops a.tmps) = false) (hS : S w) (h : wpAnyH P md ops Q S fuel (listed.setIfInBounds i true) (a.put (some d) undef) w) : wpAnyH P md ops Q S (fuel + 1) listed a w :=
  wpAnyH_take hi hs hf hr (by rw [hd]; exact hQ) (Or.inr ⟨hw, rfl⟩) hS (by rw [hd]; exact h)
theorem heldC_take {P : Program} {md : Region.Mode} {ops : Array Oper} {Q : Exit → Act → World → Prop} {S : World → Prop} (i : Nat) (d : Tmp) {oi : Oper} (v : Value) {fuel : Nat} {listed : Array Bool} {a : Act} {w : World} (hi : ops[i]? = some oi)
    (hs : Region.noSelect ops = true) (hf : Region.free md ops listed i = true) (hr : (Region.ready md ops listed).contains i = true) (hd : oi.dst = some d) (hQ : ∀ c a w, Q (.panic c) (a.put (some d) v) w → Q (.panic c) a w)
    (hw : Region.wanted oi (yielded ops a.tmps) = true) (hy : ∀ w, S w → (execOp a.eval oi).run P w = .ok (.value v) w) (hS : S w) (h : wpAnyH P md ops Q S fuel (listed.setIfInBounds i true) (a.put (some d) v) w) : wpAnyH P md ops Q S (fuel + 1) listed a w :=
  wpAnyH_take hi hs hf hr (by rw [hd]; exact hQ) (Or.inl ⟨hw, hy⟩) hS (by rw [hd]; exact h)

set_option maxRecDepth 100000 in
set_option maxHeartbeats 8000000 in
theorem draw_copyings_any (B g m : Nat) (ro : Option Addr) (Mr mc bs : Nat) (rz : List Rt) (w : World) (hc : Cur B w g m) (hm : m ≤ 100000) (hrz : rz.length = Mr) (hMr : Mr ≤ 12) (hor : w.ownsRow bs 72 4 (.slice ro Mr mc) Mr (rz.flatMap encRt)) (hgR : g < bs) :
    Calls Try.prog 59 #[.pointer (some ⟨g, 0, none⟩), .slice ro Mr mc] w fun e w' => ∃ v, ∃ zs : List Cp, e = .returned v ∧ (∃ gg vc, v = .slice (some ⟨gg, 0, none⟩) zs.length vc) ∧ zs.length ≤ 17 ∧ w'.ownsRow w.heap.size 34 4 v zs.length (zs.flatMap encCp) ∧ Cur B w' g (m + 500) ∧ w.grownBy w' (some g) := by
  have HC := hide hc
  have hg0 := hc.lt
  have hB0 := hc.base
  have HG := hide (gr_refl w (some g))
  have HRZ := hide hrz
  have HR := hide hor
  have HRl := hide (own_lt2 hor (N := w.heap.size) (Nat.le_refl _))
  have HO := hide (World.ownsRow_made (e := 34) (size := 4) w #[] 0 (Nat.le_refl _) (by simp [maxLen]) (by simp))
  have hw0 : w.heap.size ≤ w.heap.size := Nat.le_refl _
  clear hc hrz hor
  obtain ⟨i0HI, hi, hz0, hz1, hz2⟩ := info_parts infoCp
  have HI := hide (And.intro hi (And.intro hz0 (And.intro hz1 hz2)))
  clear hi hz0 hz1 hz2
  go_enter Try.func59, Try.ntmps59
  go_wp2_with fail
  refine (among_any B g m _ 3 3 [0, 50, 100] _ ((HC.out.alloc _).alloc _) (Opts.lit (H := w.heap.size + 1) [0, 50, 100] (HC.out.alloc _).lt rfl (by simp)) (by omega) (by omega) (by omega)).mono ?_
  rintro e w1 ⟨day0, rfl, _, hc, hg⟩
  have HO := hide (own_gr (HO.out.alloc _) hg hg0)
  have HR := hide (own_gr ((HR.out.alloc _).alloc _) hg hgR)
  have HG := hide (gr_trans (gr_alloc (gr_alloc HG.out _) _) hg)
  have hsz := hg.size
  simp only [World.size_alloc, World.size_setCell] at hsz
  have HC := hide hc
  clear hc hg
  have hsz1 := hsz
  clear hsz
  go_wp2_with fail
  refine (pick_any B g (m + 2) 8 _ HC.out (by omega) (by omega) (by omega)).mono ?_
  rintro e w2 ⟨a, rfl, a0, a1, hc, hg⟩
  have HO := hide (own_gr HO.out hg hg0)
  have HR := hide (own_gr HR.out hg hgR)
  have HG := hide (gr_trans HG.out hg)
  have hsz := hg.size
  have HC := hide hc
  clear hc hg
  have hsz2 := hsz
  clear hsz
  obtain ⟨K, rfl⟩ : ∃ K : Nat, a = (K : Int) := ⟨a.toNat, by omega⟩
  have hK : K ≤ 7 := by omega
  clear a0 a1
  go_wp2_with fail
  go_loopg [5, 6, 7] K (fun gk v dv i wr => ∃ k : Nat, k ≤ K ∧ k ≤ gk ∧ i = .int .i64 (k : Int) ∧ (∃ day : Int, dv = .int .i64 day) ∧ Aside (Cur B wr g (m + 4 + 30 * (K - k))) ∧ Aside (w.grownBy wr (some g)) ∧ Aside (wr.ownsRow bs 72 4 (.slice ro Mr mc) Mr (rz.flatMap encRt)) ∧ Aside (∃ zs : List Cp, zs.length ≤ K - k ∧ (∃ gg vc, v = .slice (some ⟨gg, 0, none⟩) zs.length vc) ∧ wr.ownsRow w.heap.size 34 4 v zs.length (zs.flatMap encCp)))
  case atStart => exact ⟨K, Nat.le_refl _, Nat.le_refl _, rfl, ⟨_, rfl⟩, HC.out.mono (by omega), HG.out, HR.out, ⟨[], by simp, ⟨_, _, rfl⟩, HO.out⟩⟩
  case round =>
    obtain ⟨k, hk, hgk, rfl, ⟨day, rfl⟩, CW, GW, RW, OW⟩ := hrel
    obtain ⟨zs, hzl, ⟨gg, vc, hvv⟩, ho⟩ := OW.out
    obtain ⟨L, hL⟩ : ∃ L, L = zs.length := ⟨_, rfl⟩
    rw [← hL] at ho hzl hvv
    subst hvv
    have HLL := hide hL
    have hszr := GW.out.size
    clear HC HG HO HR
    have HC := hide CW.out
    have HG := hide GW.out
    have HO := hide ho
    have HR := hide RW.out
    clear OW ho hL CW GW RW
    by_cases hk0 : 0 < k
    · have hk1 : (0 : Int) < (k : Int) := by omega
      have HOl := hide (own_lt2 HO.out (N := wr.heap.size) (Nat.le_refl _))
      have HRl := hide (own_lt2 HR.out (N := wr.heap.size) (Nat.le_refl _))
      have HE0 := hide (World.ownsRow_made (e := 34) (size := 4) wr #[] 0 (Nat.le_refl _) (by simp [maxLen]) (by simp))
      have hrdO := own_rd' encCp_len HO.out HLL.out.symm
      obtain ⟨hi, hz0, hz1, hz2⟩ := HI.out
      go_wp2_with (at_builtin; refine wpList_append_own _ rfl _ _ 28 rfl wr.heap.size 34 i0HI (.agg #[.int .i64 0, .int .i64 0, .int .i64 0, .int .i64 0]) 4 32 Try.underlying28 hi hz0 hz1 hz2 rfl (by decide) _ 0 _ rfl HE0.out ⟨gg, 0, none⟩ L vc (zs.flatMap encCp) rfl ?c0 ?c1 ?c2 ?c3 ?c4 ?c5 ?_)
      case c0 => rw [flat_len encCp_len, ← HLL.out]
      case c1 => exact rd_flat encCp_len (hrdO.alloc _)
      case c2 => exact flat_one encCp_one _
      case c3 => unfold maxLen; omega
      case c4 => omega
      case c5 => (try simp only [World.size_alloc]); omega
      intro v1 w4 hown' hgrow _
      have HO := hide (own_only (HO.out.alloc _) hgrow (own_ap HOl.out HE0.out))
      have HR := hide (own_only (HR.out.alloc _) hgrow (own_ap HRl.out HE0.out))
      have HC := hide (cur_app (HC.out.alloc _) HE0.out hgrow (by omega))
      have HG := hide (gr_app (gr_alloc HG.out _) HE0.out hgrow (by omega))
      have HE : Hid (w4.ownsRow wr.heap.size 34 4 v1 L (zs.flatMap encCp)) := hide (by first | exact hown' | (rw [Nat.zero_add, List.nil_append] at hown'; exact hown'))
      have hsz := hgrow.size
      simp only [World.size_alloc] at hsz
      have hsz4 := hsz
      have hgE : g < wr.heap.size := by omega
      clear hown' hgrow hsz hrdO hi hz0 hz1 hz2 HE0
      go_wp2_with fail
      refine (draw_copying_any B g (m + 4 + 30 * (K - k)) day _ HC.out (by omega)).mono ?_
      rintro e w5 ⟨x, rfl, hc, hg⟩
      have HO := hide (own_gr HO.out hg hg0)
      have HR := hide (own_gr HR.out hg hgR)
      have HE := hide (own_gr HE.out hg hgE)
      have HG := hide (gr_trans HG.out hg)
      have hsz := hg.size
      have HC := hide hc
      clear hc hg
      have hsz5 := hsz
      clear hsz
      obtain ⟨hi, hz0, hz1, hz2⟩ := HI.out
      go_wp2_with (at_builtin; refine wpList_append_own _ rfl _ _ 28 rfl wr.heap.size 34 i0HI (.agg #[.int .i64 0, .int .i64 0, .int .i64 0, .int .i64 0]) 4 32 Try.underlying28 hi hz0 hz1 hz2 rfl (by decide) _ L _ rfl (HE.out.alloc _) ⟨w5.heap.size, 0, none⟩ 1 1 [.int .i64 x.s, .int .i64 x.r, .int .i64 x.d, .int .i64 x.p] rfl rfl ?c1 ?c2 ?c3 ?c4 ?c5 ?_)
      case c1 => exact news_atN #[.int .i64 x.s, .int .i64 x.r, .int .i64 x.d, .int .i64 x.p] (by first | rfl | simp)
      case c2 => intro u hu; simp only [List.mem_cons, List.not_mem_nil, or_false] at hu; rcases hu with rfl | rfl | rfl | rfl <;> rfl
      case c3 => unfold maxLen; omega
      case c4 => omega
      case c5 => (try simp only [World.size_alloc, World.size_setCell]); omega
      intro v' w6 hown' hgrow _
      have HO := hide (own_only (HO.out.alloc _) hgrow (own_ap HOl.out HE.out))
      have HR := hide (own_only (HR.out.alloc _) hgrow (own_ap HRl.out HE.out))
      have HC := hide (cur_app (HC.out.alloc _) (HE.out.alloc _) hgrow hgE)
      have HG := hide (gr_app (gr_alloc HG.out _) (HE.out.alloc _) hgrow (by omega))
      have hsz := hgrow.size
      simp only [World.size_alloc, World.size_setCell] at hsz
      have HE := hide hown'
      clear hown' hgrow hi hz0 hz1 hz2
      have hsz6 := hsz
      clear hsz
      have HLE : Hid (L + 1 = (zs ++ [x]).length) := hide (by simp only [List.length_append, List.length_cons, List.length_nil, ← HLL.out])
      have HE2 : Hid (w6.ownsRow wr.heap.size 34 4 v' (L + 1) ((zs ++ [x]).flatMap encCp)) := hide (by rw [flat_snoc]; exact HE.out)
      rcases own_form encCp_len HE2.out HLE.out.symm with ⟨_, h0, _⟩ | ⟨ge, ce, cse, hve, _, _, _, _, _, _⟩
      · omega
      subst hve
      clear HE
      have HE := HE2
      clear HE2
      obtain ⟨lb, hlb⟩ : ∃ lb, lawful rz (zs ++ [x]) = lb := ⟨_, rfl⟩
      have HLB := hide hlb
      clear hlb
      go_wp2_with fail
      refine (l14Good0_any _ Mr mc rz _ (L + 1) ce (zs ++ [x]) _ HRZ.out (by omega) (own_rd' encRt_len HR.out HRZ.out) HLE.out.symm (by omega) (own_rd' encCp_len HE.out HLE.out.symm)).mono ?_
      rintro e w7 ⟨rfl, hb⟩
      have HO := hide (own_step HO.out hb)
      have HR := hide (own_step HR.out hb)
      have HE := hide (own_step HE.out hb)
      have HG := hide (gr_step HG.out hb)
      have HC := hide (HC.out.below hb)
      have hsz := hb.size
      rw [HLB.out]
      clear hb
      have hsz7 := hsz
      clear hsz
      cases lb with
      | true =>
        go_wp2_with fail
        refine (among_any B g ((m + 4 + 30 * (K - k)) + 20) _ 4 4 [0, 1, 50, 100] _ (HC.out.alloc _) (Opts.lit (H := w7.heap.size) [0, 1, 50, 100] HC.out.lt rfl rfl) (by omega) (by omega) (by omega)).mono ?_
        rintro e w8 ⟨dd, rfl, _, hc, hg⟩
        have HO := hide (own_gr (HO.out.alloc _) hg hg0)
        have HR := hide (own_gr (HR.out.alloc _) hg hgR)
        have HE := hide (own_gr (HE.out.alloc _) hg hgE)
        have HG := hide (gr_trans (gr_alloc HG.out _) hg)
        have hsz := hg.size
        simp only [World.size_alloc, World.size_setCell] at hsz
        have HC := hide hc
        clear hc hg
        have hsz8 := hsz
        clear hsz
        go_wp2
        go_roundg (k - 1)
        case measure => omega
        case rel => exact ⟨k - 1, by omega, by omega, by congr 1; omega, ⟨_, rfl⟩, HC.out.mono (by omega), HG.out, HR.out, ⟨zs ++ [x], by rw [← HLE.out]; omega, ⟨_, _, by rw [← HLE.out]⟩, by rw [← HLE.out]; exact own_base0 HE.out (by omega)⟩⟩
      | false =>
        go_wp2_with fail
        refine (one_any B g ((m + 4 + 30 * (K - k)) + 20) 50 _ HC.out (by omega) (by omega) (by omega)).mono ?_
        rintro e w8 ⟨bb, rfl, hc, hg⟩
        have HO := hide (own_gr HO.out hg hg0)
        have HR := hide (own_gr HR.out hg hgR)
        have HE := hide (own_gr HE.out hg hgE)
        have HG := hide (gr_trans HG.out hg)
        have hsz := hg.size
        have HC := hide hc
        clear hc hg
        have hsz8 := hsz
        clear hsz
        cases bb with
        | true =>
          go_wp2_with fail
          refine (among_any B g ((m + 4 + 30 * (K - k)) + 22) _ 4 4 [0, 1, 50, 100] _ (HC.out.alloc _) (Opts.lit (H := w8.heap.size) [0, 1, 50, 100] HC.out.lt rfl rfl) (by omega) (by omega) (by omega)).mono ?_
          rintro e w9 ⟨dd, rfl, _, hc, hg⟩
          have HO := hide (own_gr (HO.out.alloc _) hg hg0)
          have HR := hide (own_gr (HR.out.alloc _) hg hgR)
          have HE := hide (own_gr (HE.out.alloc _) hg hgE)
          have HG := hide (gr_trans (gr_alloc HG.out _) hg)
          have hsz := hg.size
          simp only [World.size_alloc, World.size_setCell] at hsz
          have HC := hide hc
          clear hc hg
          have hsz9 := hsz
          clear hsz
          go_wp2
          go_roundg (k - 1)
          case measure => omega
          case rel => exact ⟨k - 1, by omega, by omega, by congr 1; omega, ⟨_, rfl⟩, HC.out.mono (by omega), HG.out, HR.out, ⟨zs ++ [x], by rw [← HLE.out]; omega, ⟨_, _, by rw [← HLE.out]⟩, by rw [← HLE.out]; exact own_base0 HE.out (by omega)⟩⟩
        | false =>
          go_wp2_with fail
          refine (among_any B g ((m + 4 + 30 * (K - k)) + 22) _ 4 4 [0, 1, 50, 100] _ (HC.out.alloc _) (Opts.lit (H := w8.heap.size) [0, 1, 50, 100] HC.out.lt rfl rfl) (by omega) (by omega) (by omega)).mono ?_
          rintro e w9 ⟨dd, rfl, _, hc, hg⟩
          have HO := hide (own_gr (HO.out.alloc _) hg hg0)
          have HR := hide (own_gr (HR.out.alloc _) hg hgR)
          have HE := hide (own_gr (HE.out.alloc _) hg hgE)
          have HG := hide (gr_trans (gr_alloc HG.out _) hg)
          have hsz := hg.size
          simp only [World.size_alloc, World.size_setCell] at hsz
          have HC := hide hc
          clear hc hg
          have hsz9 := hsz
          clear hsz
          go_wp2
          go_roundg (k - 1)
          case measure => omega
          case rel => exact ⟨k - 1, by omega, by omega, by congr 1; omega, ⟨_, rfl⟩, HC.out.mono (by omega), HG.out, HR.out, ⟨zs, by rw [← HLL.out]; omega, ⟨_, _, by rw [← HLL.out]⟩, by rw [← HLL.out]; exact HO.out⟩⟩
    · have hk1 : ¬ (0 : Int) < (k : Int) := by omega
      have hL7 : L ≤ 17 := by omega
      go_wp2_with fail
      refine (one_any B g (m + 4 + 30 * (K - k)) 30 _ HC.out (by omega) (by omega) (by omega)).mono ?_
      rintro e w4 ⟨bq, rfl, hc, hg⟩
      have HO := hide (own_gr HO.out hg hg0)
      have HR := hide (own_gr HR.out hg hgR)
      have HG := hide (gr_trans HG.out hg)
      have hsz := hg.size
      have HC := hide hc
      clear hc hg
      have hsz4 := hsz
      clear hsz
      cases bq with
      | false =>
        have HC9 : Cur B w4 g (m + 400) := HC.out.mono (by omega)
        have HC := hide HC9
        clear HC9
        have hm4 : m + 400 ≤ 200000 := by omega
        go_wp2_with fail
        refine (one_any B g (m + 400) 60 _ HC.out (by omega) (by omega) (by omega)).mono ?_
        rintro e w5 ⟨bz, rfl, hc, hg⟩
        have HO := hide (own_gr HO.out hg hg0)
        have HR := hide (own_gr HR.out hg hgR)
        have HG := hide (gr_trans HG.out hg)
        have hsz := hg.size
        have HC := hide hc
        clear hc hg
        have hsz5 := hsz
        clear hsz
        cases bz with
        | false =>
          go_wp2
          go_ret
          exact ⟨.slice (some ⟨gg, 0, none⟩) L vc, zs, rfl, ⟨gg, vc, by rw [← HLL.out]⟩, by rw [← HLL.out]; omega, by rw [← HLL.out]; exact HO.out, HC.out.mono (by omega), HG.out⟩
        | true =>
          by_cases hl1 : 1 < L
          · have hl2 : (1 : Int) < (L : Int) := by omega
            obtain ⟨x, t, ht⟩ : ∃ x t, zs = x :: t := by
              obtain _ | ⟨x, t⟩ := zs
              · exact absurd HLL.out (by simp; omega)
              · exact ⟨x, t, rfl⟩
            obtain ⟨n, hn⟩ : ∃ n, n = t.length := ⟨_, rfl⟩
            have hLn : L = n + 1 := by rw [hn, HLL.out, ht]; rfl
            subst hLn
            have HLN := hide hn.symm
            clear hn
            rw [ht] at HO
            have hLL2 : (x :: t).length = n + 1 := by rw [← ht]; exact HLL.out.symm
            have hrd := own_rd' encCp_len HO.out hLL2
            obtain ⟨ao', c', hv', hvc, hvm, _⟩ := own_rd encCp_len HO.out hLL2
            injection hv' with hv1 hv2 hv3
            subst hv3
            clear hv1 hv2
            obtain ⟨b, off, hvo, hbl, hat⟩ := rdCp hrd (by simp)
            injection hvo with hvo
            injection hvo with e1 e2 e3
            subst e1 e2
            obtain ⟨x', hx', hxc⟩ := hat 0 (by simp)
            obtain rfl : x = x' := by simpa using hx'
            obtain ⟨_, f0, f1, f2, f3⟩ := hxc w5 (Below.refl _ _)
            simp only [Nat.zero_add, Nat.zero_mul] at f0 f1 f2 f3
            have g0 := hbl
            have HR1 := hide (rd_tail4 hrd)
            clear hx' hxc hat hrd
            have k1 : ((n + 1 : Nat) : Int) = (n : Int) + 1 := by omega
            have k2 : (0 : Int) < ((n + 1 : Nat) : Int) := by omega
            have k3 : (1 : Int) ≤ ((n + 1 : Nat) : Int) := by omega
            have k4 : ((n + 1 : Nat) : Int) ≤ (vc : Int) := by omega
            have k5 : vc ≠ 1 := by omega
            have hnL : n ≤ 16 := by omega
            go_wp2_with fail
            have hszW : w.heap.size ≤ w5.heap.size := by omega
            have HE0 : (w5.drew.alloc (.cells #[] 34)).ownsRow w5.heap.size 34 4 (.slice (some ⟨w5.heap.size, 0, none⟩) 0 0) 0 [] := World.ownsRow_made w5.drew #[] 0 (Nat.le_refl _) (by simp [maxLen]) rfl
            have HE1 : ((w5.drew.alloc (.cells #[.int .i64 x.s, .int .i64 x.r, .int .i64 x.d, .int .i64 x.p] 34)).alloc (.cells #[] 34)).ownsRow w5.heap.size 34 4 (.slice (some ⟨w5.heap.size + 1, 0, none⟩) 0 0) 0 [] := by
              have hh : ((w5.drew.alloc (.cells #[.int .i64 x.s, .int .i64 x.r, .int .i64 x.d, .int .i64 x.p] 34)).alloc (.cells #[] 34)).ownsRow (w5.drew.alloc (.cells #[.int .i64 x.s, .int .i64 x.r, .int .i64 x.d, .int .i64 x.p] 34)).heap.size 34 4 (.slice (some ⟨(w5.drew.alloc (.cells #[.int .i64 x.s, .int .i64 x.r, .int .i64 x.d, .int .i64 x.p] 34)).heap.size, 0, none⟩) 0 0) 0 [] := World.ownsRow_made _ #[] 0 (Nat.le_refl _) (by simp [maxLen]) rfl
              have hz : (w5.drew.alloc (.cells #[.int .i64 x.s, .int .i64 x.r, .int .i64 x.d, .int .i64 x.p] 34)).heap.size = w5.heap.size + 1 := by simp
              rw [hz] at hh
              exact own_base hh (Nat.le_succ _)
            have HNB : ((w5.drew.alloc (.cells #[] 34)).alloc (.cells #[.int .i64 x.s, .int .i64 x.r, .int .i64 x.d, .int .i64 x.p] 34)).heap[w5.heap.size + 1]? = some (Obj.cells #[.int .i64 x.s, .int .i64 x.r, .int .i64 x.d, .int .i64 x.p] 34 (0, 0)) := by
              have hz : (w5.drew.alloc (.cells #[] 34)).heap.size = w5.heap.size + 1 := by simp
              have hh := heap_alloc_new (w5.drew.alloc (.cells #[] 34)) (.cells #[.int .i64 x.s, .int .i64 x.r, .int .i64 x.d, .int .i64 x.p] 34)
              rw [hz] at hh; exact hh
            refine wp_region_held_drew (S := (fun w' => w'.cell? ⟨gg, 0, none⟩ = some (.int .i64 x.s) ∧ w'.cell? ⟨gg, 1, none⟩ = some (.int .i64 x.r) ∧ w'.cell? ⟨gg, 2, none⟩ = some (.int .i64 x.d) ∧ w'.cell? ⟨gg, 3, none⟩ = some (.int .i64 x.p) ∧ Below w5.heap.size w5 w')) (by kernel_rfl) ⟨f0, f1, f2, f3, (Below.refl _ _).drew⟩ (fun hHeld => ?_)
            obtain ⟨hi, hz0, hz1, hz2⟩ := HI.out
            refine heldC_take 1 68 ?vv10 rfl (by kernel_rfl) (by kernel_rfl) (by kernel_rfl) rfl (fun _ _ _ h => h) (by rfl) ?hy10 (by assumption) ?rest10
            case hy10 => (intro w hSw; (try dsimp only at hSw); go_simp; try with_reducible rfl)
            try simp only [Act.put, List.setIfInBounds_toArray, List.set_cons_zero, List.set_cons_succ]
            refine heldC_take 2 69 (.slice (some ⟨gg, 4, none⟩) n (vc - 1)) rfl (by kernel_rfl) (by kernel_rfl) (by kernel_rfl) rfl (fun _ _ _ h => h) (by rfl) ?hy11 (by assumption) ?rest11
            case hy11 => (intro w hSw; (try dsimp only at hSw); go_simp; first | done | (with_reducible rfl) | (intro hlt; exact absurd hlt (by omega)))
            try simp only [Act.put, List.setIfInBounds_toArray, List.set_cons_zero, List.set_cons_succ]
            refine heldC_take 4 71 ?vv12 rfl (by kernel_rfl) (by kernel_rfl) (by kernel_rfl) rfl (fun _ _ _ h => h) (by rfl) ?hy12 (by assumption) ?rest12
            case hy12 => (intro w hSw; (try dsimp only at hSw); go_simp; try with_reducible rfl)
            try simp only [Act.put, List.setIfInBounds_toArray, List.set_cons_zero, List.set_cons_succ]
            refine heldC_take 5 72 ?vv13 rfl (by kernel_rfl) (by kernel_rfl) (by kernel_rfl) rfl (fun _ _ _ h => h) (by rfl) ?hy13 (by assumption) ?rest13
            case hy13 => (intro w hSw; (try dsimp only at hSw); go_simp; try with_reducible rfl)
            try simp only [Act.put, List.setIfInBounds_toArray, List.set_cons_zero, List.set_cons_succ]
            refine heldC_take 6 73 ?vv14 rfl (by kernel_rfl) (by kernel_rfl) (by kernel_rfl) rfl (fun _ _ _ h => h) (by rfl) ?hy14 (by assumption) ?rest14
            case hy14 => (intro w hSw; (try dsimp only at hSw); go_simp; try with_reducible rfl)
            try simp only [Act.put, List.setIfInBounds_toArray, List.set_cons_zero, List.set_cons_succ]
            refine wpAnyH_ready (rs := [0, 7]) (by kernel_rfl) (by simp) ?_
            refine AllReadyH.cons rfl (fun K hK => ?_) (AllReadyH.cons rfl (fun K hK => ?_) AllReadyH.nil)
            · go_simp
              have hq0 : Below w5.heap.size w5 (w5.drew.alloc (.cells #[] 34)) := (Below.drew (Below.refl _ _)).alloc (Nat.le_refl _) _
              refine hK.out _ _ ⟨(hq0.cell (p := ⟨gg, 0, none⟩) g0).trans f0, (hq0.cell (p := ⟨gg, 1, none⟩) g0).trans f1, (hq0.cell (p := ⟨gg, 2, none⟩) g0).trans f2, (hq0.cell (p := ⟨gg, 3, none⟩) g0).trans f3, hq0⟩ (fun hHeld2 => ?_)
              clear hK K hHeld2
              try simp only [Act.put, List.setIfInBounds_toArray, List.set_cons_zero, List.set_cons_succ]
              refine wpAnyH_ready (rs := [3, 7]) (by kernel_rfl) (by simp) ?_
              refine AllReadyH.cons rfl (fun K hK => ?_) (AllReadyH.cons rfl (fun K hK => ?_) AllReadyH.nil)
              · refine step_append_own (by rfl) _ _ _ (by rfl) w5.heap.size 34 i0HI _ 4 32 Try.underlying28 hi hz0 hz1 hz2 rfl (by omega) _ 0 [] (by rfl) HE0 ⟨gg, 4, none⟩ n _ (t.flatMap encCp) (by rfl) (by rw [flat_len encCp_len, HLN.out]) (rd_flat encCp_len (rd_at0 HR1.out hq0)) (flat_one encCp_one t) (by unfold maxLen; omega) (by omega) (by first | (simp; done) | (simp; omega)) ?_
                intro v3 w3 hown3 hgrow3
                have hq3 : Below w5.heap.size w5 w3 := bl_grown hq0 HE0 (Nat.le_refl _) hgrow3
                have ho : w3.ownsRow w5.heap.size 34 4 v3 n (t.flatMap encCp) := by first | exact hown3 | (rw [Nat.zero_add, List.nil_append] at hown3; exact hown3)
                refine hK.out _ _ ⟨(hq3.cell (p := ⟨gg, 0, none⟩) g0).trans f0, (hq3.cell (p := ⟨gg, 1, none⟩) g0).trans f1, (hq3.cell (p := ⟨gg, 2, none⟩) g0).trans f2, (hq3.cell (p := ⟨gg, 3, none⟩) g0).trans f3, hq3⟩ (fun hHeld3 => ?_)
                clear hK K hHeld3 hown3
                try simp only [Act.put, List.setIfInBounds_toArray, List.set_cons_zero, List.set_cons_succ]
                refine wpAnyH_ready (rs := [7]) (by kernel_rfl) (by simp) ?_
                refine AllReadyH.cons rfl (fun K hK => ?_) AllReadyH.nil
                go_simp
                have hq5 : Below w5.heap.size w5 (w3.alloc (.cells #[.int .i64 x.s, .int .i64 x.r, .int .i64 x.d, .int .i64 x.p] 34)) := hq3.alloc hq3.size _
                refine hK.out _ _ ⟨(hq5.cell (p := ⟨gg, 0, none⟩) g0).trans f0, (hq5.cell (p := ⟨gg, 1, none⟩) g0).trans f1, (hq5.cell (p := ⟨gg, 2, none⟩) g0).trans f2, (hq5.cell (p := ⟨gg, 3, none⟩) g0).trans f3, hq5⟩ (fun hHeld3 => ?_)
                clear hK K hHeld3
                have hsz := hq3.size
                have hq3 := hq5
                try simp only [Act.put, List.setIfInBounds_toArray, List.set_cons_zero, List.set_cons_succ]
                refine wpAnyH_ready (rs := [8]) (by kernel_rfl) (by simp) ?_
                refine AllReadyH.cons rfl (fun K hK => ?_) AllReadyH.nil
                refine step_append_own (by rfl) _ _ _ (by rfl) w5.heap.size 34 i0HI _ 4 32 Try.underlying28 hi hz0 hz1 hz2 rfl (by omega) _ n _ (by rfl) (ho.alloc _) ⟨w3.heap.size, 0, none⟩ 1 1 [.int .i64 x.s, .int .i64 x.r, .int .i64 x.d, .int .i64 x.p] (by rfl) (by rfl) (news_at #[.int .i64 x.s, .int .i64 x.r, .int .i64 x.d, .int .i64 x.p]) (by simp [Value.oneCell']) (by unfold maxLen; omega) (by omega) (by first | omega | (simp; omega)) ?_
                intro v4 w4 hown4 hgrow
                have hq4 : Below w5.heap.size w5 w4 := bl_grown hq3 (ho.alloc _) (Nat.le_refl _) hgrow
                refine hK.out _ _ ⟨(hq4.cell (p := ⟨gg, 0, none⟩) g0).trans f0, (hq4.cell (p := ⟨gg, 1, none⟩) g0).trans f1, (hq4.cell (p := ⟨gg, 2, none⟩) g0).trans f2, (hq4.cell (p := ⟨gg, 3, none⟩) g0).trans f3, hq4⟩ (fun hHeld4 => ?_)
                clear hK K
                try simp only [Act.put, List.setIfInBounds_toArray, List.set_cons_zero, List.set_cons_succ]
                refine heldC_take 9 5 ?vv15 rfl (by kernel_rfl) (by kernel_rfl) (by kernel_rfl) rfl (fun _ _ _ h => h) (by rfl) ?hy15 (by assumption) ?rest15
                case hy15 => (intro w hSw; (try dsimp only at hSw); go_simp; try with_reducible rfl)
                try simp only [Act.put, List.setIfInBounds_toArray, List.set_cons_zero, List.set_cons_succ]
                refine wpAnyH_done (by kernel_rfl) ?_ _
                have HB4 := hide hq4
                have HLEN : Hid ((t ++ [x]).length = n + 1) := hide (by simp [HLN.out])
                have HO4 : Hid (w4.ownsRow w5.heap.size 34 4 v4 (n + 1) ((t ++ [x]).flatMap encCp)) := hide (by rw [flat_snoc]; exact hown4)
                clear hown4 hgrow hHeld hHeld4 hq4 f0 f1 f2 f3 hi hz0 hz1 hz2 hq3
                rcases own_form encCp_len HO4.out HLEN.out with ⟨_, h0, _⟩ | ⟨ge, ce, cse, hve, _, _, _, _, _, _⟩
                · omega
                subst hve
                go_wp2
                go_ret
                exact ⟨.slice (some ⟨ge, 0, none⟩) (n + 1) ce, t ++ [x], rfl, ⟨ge, ce, by rw [HLEN.out]⟩, by rw [HLEN.out]; omega, by rw [HLEN.out]; exact own_base HO4.out hszW, (HC.out.below HB4.out).mono (by omega), gr_step HG.out HB4.out⟩
              · go_simp
                have hq1 : Below w5.heap.size w5 ((w5.drew.alloc (.cells #[] 34)).alloc (.cells #[.int .i64 x.s, .int .i64 x.r, .int .i64 x.d, .int .i64 x.p] 34)) := hq0.alloc hq0.size _
                refine hK.out _ _ ⟨(hq1.cell (p := ⟨gg, 0, none⟩) g0).trans f0, (hq1.cell (p := ⟨gg, 1, none⟩) g0).trans f1, (hq1.cell (p := ⟨gg, 2, none⟩) g0).trans f2, (hq1.cell (p := ⟨gg, 3, none⟩) g0).trans f3, hq1⟩ (fun hHeld2 => ?_)
                clear hK K hHeld2
                try simp only [Act.put, List.setIfInBounds_toArray, List.set_cons_zero, List.set_cons_succ]
                refine wpAnyH_ready (rs := [3]) (by kernel_rfl) (by simp) ?_
                refine AllReadyH.cons rfl (fun K hK => ?_) AllReadyH.nil
                refine step_append_own (by rfl) _ _ _ (by rfl) w5.heap.size 34 i0HI _ 4 32 Try.underlying28 hi hz0 hz1 hz2 rfl (by omega) _ 0 [] (by rfl) (HE0.alloc (.cells #[.int .i64 x.s, .int .i64 x.r, .int .i64 x.d, .int .i64 x.p] 34)) ⟨gg, 4, none⟩ n _ (t.flatMap encCp) (by rfl) (by rw [flat_len encCp_len, HLN.out]) (rd_flat encCp_len (rd_at0 HR1.out hq1)) (flat_one encCp_one t) (by unfold maxLen; omega) (by omega) (by first | (simp; done) | (simp; omega)) ?_
                intro v3 w3 hown3 hgrow3
                have hq3 : Below w5.heap.size w5 w3 := bl_grown hq1 (HE0.alloc (.cells #[.int .i64 x.s, .int .i64 x.r, .int .i64 x.d, .int .i64 x.p] 34)) (Nat.le_refl _) hgrow3
                have ho : w3.ownsRow w5.heap.size 34 4 v3 n (t.flatMap encCp) := by first | exact hown3 | (rw [Nat.zero_add, List.nil_append] at hown3; exact hown3)
                refine hK.out _ _ ⟨(hq3.cell (p := ⟨gg, 0, none⟩) g0).trans f0, (hq3.cell (p := ⟨gg, 1, none⟩) g0).trans f1, (hq3.cell (p := ⟨gg, 2, none⟩) g0).trans f2, (hq3.cell (p := ⟨gg, 3, none⟩) g0).trans f3, hq3⟩ (fun hHeld3 => ?_)
                clear hK K hHeld3 hown3
                try simp only [Act.put, List.setIfInBounds_toArray, List.set_cons_zero, List.set_cons_succ]
                have hnb : w3.heap[w5.heap.size + 1]? = some (.cells #[.int .i64 x.s, .int .i64 x.r, .int .i64 x.d, .int .i64 x.p] 34 (0, 0)) := (hgrow3.block _ (by first | (simp; done) | (simp; omega)) (by simp [Value.ownBlock])).trans HNB
                have hsz := hq3.size
                refine wpAnyH_ready (rs := [8]) (by kernel_rfl) (by simp) ?_
                refine AllReadyH.cons rfl (fun K hK => ?_) AllReadyH.nil
                refine step_append_own (by rfl) _ _ _ (by rfl) w5.heap.size 34 i0HI _ 4 32 Try.underlying28 hi hz0 hz1 hz2 rfl (by omega) _ n _ (by rfl) ho ⟨w5.heap.size + 1, 0, none⟩ 1 1 [.int .i64 x.s, .int .i64 x.r, .int .i64 x.d, .int .i64 x.p] (by rfl) (by rfl) (World.news_of_block (cs := #[.int .i64 x.s, .int .i64 x.r, .int .i64 x.d, .int .i64 x.p]) (t := 34) (fr := (0, 0)) hnb) (by simp [Value.oneCell']) (by unfold maxLen; omega) (by omega) (by first | omega | (simp; omega)) ?_
                intro v4 w4 hown4 hgrow
                have hq4 : Below w5.heap.size w5 w4 := bl_grown hq3 ho (Nat.le_refl _) hgrow
                refine hK.out _ _ ⟨(hq4.cell (p := ⟨gg, 0, none⟩) g0).trans f0, (hq4.cell (p := ⟨gg, 1, none⟩) g0).trans f1, (hq4.cell (p := ⟨gg, 2, none⟩) g0).trans f2, (hq4.cell (p := ⟨gg, 3, none⟩) g0).trans f3, hq4⟩ (fun hHeld4 => ?_)
                clear hK K
                try simp only [Act.put, List.setIfInBounds_toArray, List.set_cons_zero, List.set_cons_succ]
                refine heldC_take 9 5 ?vv16 rfl (by kernel_rfl) (by kernel_rfl) (by kernel_rfl) rfl (fun _ _ _ h => h) (by rfl) ?hy16 (by assumption) ?rest16
                case hy16 => (intro w hSw; (try dsimp only at hSw); go_simp; try with_reducible rfl)
                try simp only [Act.put, List.setIfInBounds_toArray, List.set_cons_zero, List.set_cons_succ]
                refine wpAnyH_done (by kernel_rfl) ?_ _
                have HB4 := hide hq4
                have HLEN : Hid ((t ++ [x]).length = n + 1) := hide (by simp [HLN.out])
                have HO4 : Hid (w4.ownsRow w5.heap.size 34 4 v4 (n + 1) ((t ++ [x]).flatMap encCp)) := hide (by rw [flat_snoc]; exact hown4)
                clear hown4 hgrow hHeld hHeld4 hq4 f0 f1 f2 f3 hi hz0 hz1 hz2 hq3
                rcases own_form encCp_len HO4.out HLEN.out with ⟨_, h0, _⟩ | ⟨ge, ce, cse, hve, _, _, _, _, _, _⟩
                · omega
                subst hve
                go_wp2
                go_ret
                exact ⟨.slice (some ⟨ge, 0, none⟩) (n + 1) ce, t ++ [x], rfl, ⟨ge, ce, by rw [HLEN.out]⟩, by rw [HLEN.out]; omega, by rw [HLEN.out]; exact own_base HO4.out hszW, (HC.out.below HB4.out).mono (by omega), gr_step HG.out HB4.out⟩
            · go_simp
              have hq0 : Below w5.heap.size w5 (w5.drew.alloc (.cells #[.int .i64 x.s, .int .i64 x.r, .int .i64 x.d, .int .i64 x.p] 34)) := (Below.drew (Below.refl _ _)).alloc (Nat.le_refl _) _
              refine hK.out _ _ ⟨(hq0.cell (p := ⟨gg, 0, none⟩) g0).trans f0, (hq0.cell (p := ⟨gg, 1, none⟩) g0).trans f1, (hq0.cell (p := ⟨gg, 2, none⟩) g0).trans f2, (hq0.cell (p := ⟨gg, 3, none⟩) g0).trans f3, hq0⟩ (fun hHeld2 => ?_)
              clear hK K hHeld2
              try simp only [Act.put, List.setIfInBounds_toArray, List.set_cons_zero, List.set_cons_succ]
              refine wpAnyH_ready (rs := [0]) (by kernel_rfl) (by simp) ?_
              refine AllReadyH.cons rfl (fun K hK => ?_) AllReadyH.nil
              go_simp
              have hq1 : Below w5.heap.size w5 ((w5.drew.alloc (.cells #[.int .i64 x.s, .int .i64 x.r, .int .i64 x.d, .int .i64 x.p] 34)).alloc (.cells #[] 34)) := hq0.alloc hq0.size _
              refine hK.out _ _ ⟨(hq1.cell (p := ⟨gg, 0, none⟩) g0).trans f0, (hq1.cell (p := ⟨gg, 1, none⟩) g0).trans f1, (hq1.cell (p := ⟨gg, 2, none⟩) g0).trans f2, (hq1.cell (p := ⟨gg, 3, none⟩) g0).trans f3, hq1⟩ (fun hHeld2 => ?_)
              clear hK K hHeld2
              try simp only [Act.put, List.setIfInBounds_toArray, List.set_cons_zero, List.set_cons_succ]
              refine wpAnyH_ready (rs := [3]) (by kernel_rfl) (by simp) ?_
              refine AllReadyH.cons rfl (fun K hK => ?_) AllReadyH.nil
              refine step_append_own (by rfl) _ _ _ (by rfl) w5.heap.size 34 i0HI _ 4 32 Try.underlying28 hi hz0 hz1 hz2 rfl (by omega) _ 0 [] (by rfl) HE1 ⟨gg, 4, none⟩ n _ (t.flatMap encCp) (by rfl) (by rw [flat_len encCp_len, HLN.out]) (rd_flat encCp_len (rd_at0 HR1.out hq1)) (flat_one encCp_one t) (by unfold maxLen; omega) (by omega) (by first | (simp; done) | (simp; omega)) ?_
              intro v3 w3 hown3 hgrow3
              have hq3 : Below w5.heap.size w5 w3 := bl_grown hq1 HE1 (Nat.le_refl _) hgrow3
              have ho : w3.ownsRow w5.heap.size 34 4 v3 n (t.flatMap encCp) := by first | exact hown3 | (rw [Nat.zero_add, List.nil_append] at hown3; exact hown3)
              refine hK.out _ _ ⟨(hq3.cell (p := ⟨gg, 0, none⟩) g0).trans f0, (hq3.cell (p := ⟨gg, 1, none⟩) g0).trans f1, (hq3.cell (p := ⟨gg, 2, none⟩) g0).trans f2, (hq3.cell (p := ⟨gg, 3, none⟩) g0).trans f3, hq3⟩ (fun hHeld3 => ?_)
              clear hK K hHeld3 hown3
              try simp only [Act.put, List.setIfInBounds_toArray, List.set_cons_zero, List.set_cons_succ]
              have hnb : w3.heap[w5.heap.size]? = some (.cells #[.int .i64 x.s, .int .i64 x.r, .int .i64 x.d, .int .i64 x.p] 34 (0, 0)) := (hgrow3.block _ (by first | (simp; done) | (simp; omega)) (by simp [Value.ownBlock])).trans ((Below.heap_alloc _ _ _ (by simp)).trans (heap_alloc_new w5.drew _))
              have hsz := hq3.size
              refine wpAnyH_ready (rs := [8]) (by kernel_rfl) (by simp) ?_
              refine AllReadyH.cons rfl (fun K hK => ?_) AllReadyH.nil
              refine step_append_own (by rfl) _ _ _ (by rfl) w5.heap.size 34 i0HI _ 4 32 Try.underlying28 hi hz0 hz1 hz2 rfl (by omega) _ n _ (by rfl) ho ⟨w5.heap.size, 0, none⟩ 1 1 [.int .i64 x.s, .int .i64 x.r, .int .i64 x.d, .int .i64 x.p] (by rfl) (by rfl) (World.news_of_block (cs := #[.int .i64 x.s, .int .i64 x.r, .int .i64 x.d, .int .i64 x.p]) (t := 34) (fr := (0, 0)) hnb) (by simp [Value.oneCell']) (by unfold maxLen; omega) (by omega) (by first | omega | (simp; omega)) ?_
              intro v4 w4 hown4 hgrow
              have hq4 : Below w5.heap.size w5 w4 := bl_grown hq3 ho (Nat.le_refl _) hgrow
              refine hK.out _ _ ⟨(hq4.cell (p := ⟨gg, 0, none⟩) g0).trans f0, (hq4.cell (p := ⟨gg, 1, none⟩) g0).trans f1, (hq4.cell (p := ⟨gg, 2, none⟩) g0).trans f2, (hq4.cell (p := ⟨gg, 3, none⟩) g0).trans f3, hq4⟩ (fun hHeld4 => ?_)
              clear hK K
              try simp only [Act.put, List.setIfInBounds_toArray, List.set_cons_zero, List.set_cons_succ]
              refine heldC_take 9 5 ?vv17 rfl (by kernel_rfl) (by kernel_rfl) (by kernel_rfl) rfl (fun _ _ _ h => h) (by rfl) ?hy17 (by assumption) ?rest17
              case hy17 => (intro w hSw; (try dsimp only at hSw); go_simp; try with_reducible rfl)
              try simp only [Act.put, List.setIfInBounds_toArray, List.set_cons_zero, List.set_cons_succ]
              refine wpAnyH_done (by kernel_rfl) ?_ _
              have HB4 := hide hq4
              have HLEN : Hid ((t ++ [x]).length = n + 1) := hide (by simp [HLN.out])
              have HO4 : Hid (w4.ownsRow w5.heap.size 34 4 v4 (n + 1) ((t ++ [x]).flatMap encCp)) := hide (by rw [flat_snoc]; exact hown4)
              clear hown4 hgrow hHeld hHeld4 hq4 f0 f1 f2 f3 hi hz0 hz1 hz2 hq3
              rcases own_form encCp_len HO4.out HLEN.out with ⟨_, h0, _⟩ | ⟨ge, ce, cse, hve, _, _, _, _, _, _⟩
              · omega
              subst hve
              go_wp2
              go_ret
              exact ⟨.slice (some ⟨ge, 0, none⟩) (n + 1) ce, t ++ [x], rfl, ⟨ge, ce, by rw [HLEN.out]⟩, by rw [HLEN.out]; omega, by rw [HLEN.out]; exact own_base HO4.out hszW, (HC.out.below HB4.out).mono (by omega), gr_step HG.out HB4.out⟩
          · have hl2 : ¬ (1 : Int) < (L : Int) := by omega
            go_wp2
            go_ret
            exact ⟨.slice (some ⟨gg, 0, none⟩) L vc, zs, rfl, ⟨gg, vc, by rw [← HLL.out]⟩, by rw [← HLL.out]; omega, by rw [← HLL.out]; exact HO.out, HC.out.mono (by omega), HG.out⟩
      | true =>
        have HO := hide (World.ownsRow_made (e := 34) (size := 4) w4 #[] 0 (show w.heap.size ≤ _ by omega) (by simp [maxLen]) (by simp))
        go_wp2_with fail
        go_loopg [5, 9] 17 (fun gk v i wr => ∃ j : Nat, j ≤ 16 ∧ 17 - j ≤ gk ∧ i = .int .i64 (j : Int) ∧ Aside (Cur B wr g (m + 300 + 4 * j)) ∧ Aside (w.grownBy wr (some g)) ∧ Aside (wr.ownsRow bs 72 4 (.slice ro Mr mc) Mr (rz.flatMap encRt)) ∧ Aside (∃ zs : List Cp, zs.length ≤ j ∧ (∃ gg vc, v = .slice (some ⟨gg, 0, none⟩) zs.length vc) ∧ wr.ownsRow w.heap.size 34 4 v zs.length (zs.flatMap encCp)))
        case atStart => exact ⟨0, by omega, by omega, rfl, (HC.out.alloc _).mono (by omega), (gr_alloc HG.out _), (HR.out.alloc _), ⟨[], by simp, ⟨_, _, rfl⟩, HO.out⟩⟩
        case round =>
          obtain ⟨j, hj, hgj, rfl, CW, GW, RW, OW⟩ := hrel
          clear HLL hzl hszr
          obtain ⟨ys, hzl, ⟨gy, yc, hvv⟩, ho⟩ := OW.out
          obtain ⟨L, hL⟩ : ∃ L, L = ys.length := ⟨_, rfl⟩
          rw [← hL] at ho hzl hvv
          subst hvv
          have HLL := hide hL
          have hszr := GW.out.size
          clear HC HG HO HR
          have HC := hide CW.out
          have HG := hide GW.out
          have HO := hide ho
          have HR := hide RW.out
          clear OW ho hL CW GW RW
          go_wp2_with fail
          refine (pick_any B g (m + 300 + 4 * j) 2 _ HC.out (by omega) (by omega) (by omega)).mono ?_
          rintro e w41 ⟨p2, rfl, p20, p21, hc, hg⟩
          have HO := hide (own_gr HO.out hg hg0)
          have HR := hide (own_gr HR.out hg hgR)
          have HG := hide (gr_trans HG.out hg)
          have hsz := hg.size
          have HC := hide hc
          clear hc hg
          have hsz41 := hsz
          clear hsz
          by_cases hlt2 : (j : Int) < 15 + p2
          · obtain ⟨hi, hz0, hz1, hz2⟩ := HI.out
            go_wp2_with (at_builtin; refine wpList_append_own _ rfl _ _ 28 rfl w.heap.size 34 i0HI (.agg #[.int .i64 0, .int .i64 0, .int .i64 0, .int .i64 0]) 4 32 Try.underlying28 hi hz0 hz1 hz2 rfl (by decide) _ L _ rfl (HO.out.alloc _) ⟨w41.heap.size, 0, none⟩ 1 1 [.int .i64 900, .int .i64 (1 + (j : Int) % 3), .int .i64 (10 * (j : Int)), .int .i64 50] rfl rfl ?c1 ?c2 ?c3 ?c4 ?c5 ?_)
            case c1 => exact news_atN #[.int .i64 900, .int .i64 (1 + (j : Int) % 3), .int .i64 (10 * (j : Int)), .int .i64 50] (by first | rfl | simp)
            case c2 => intro u hu; simp only [List.mem_cons, List.not_mem_nil, or_false] at hu; rcases hu with rfl | rfl | rfl | rfl <;> rfl
            case c3 => unfold maxLen; omega
            case c4 => omega
            case c5 => (try simp only [World.size_alloc, World.size_setCell]); omega
            intro v' w42 hown' hgrow _
            have HR := hide (own_only (HR.out.alloc _) hgrow (own_ap HRl.out HO.out))
            have HC := hide (cur_app (HC.out.alloc _) (HO.out.alloc _) hgrow hg0)
            have HG := hide (gr_app (gr_alloc HG.out _) (HO.out.alloc _) hgrow (by omega))
            have hsz := hgrow.size
            simp only [World.size_alloc, World.size_setCell] at hsz
            have HO := hide hown'
            clear hown' hgrow hi hz0 hz1 hz2
            have hsz42 := hsz
            clear hsz
            have HLE : Hid (L + 1 = (ys ++ [Cp.mk 900 (1 + (j : Int) % 3) (10 * (j : Int)) 50]).length) := hide (by simp only [List.length_append, List.length_cons, List.length_nil, ← HLL.out])
            have HE2 : Hid (w42.ownsRow w.heap.size 34 4 v' (L + 1) ((ys ++ [Cp.mk 900 (1 + (j : Int) % 3) (10 * (j : Int)) 50]).flatMap encCp)) := hide (by rw [flat_snoc]; exact HO.out)
            rcases own_form encCp_len HE2.out HLE.out.symm with ⟨_, h0, _⟩ | ⟨ge, ce, cse, hve, _, _, _, _, _, _⟩
            · omega
            subst hve
            go_wp2
            go_roundg (17 - (j + 1))
            case measure => omega
            case rel => exact ⟨j + 1, by omega, by omega, by go_num, HC.out.mono (by omega), HG.out, HR.out, ⟨ys ++ [Cp.mk 900 (1 + (j : Int) % 3) (10 * (j : Int)) 50], by rw [← HLE.out]; omega, ⟨_, _, by rw [← HLE.out]⟩, by rw [← HLE.out]; exact HE2.out⟩⟩
          · have hL7 : L ≤ 17 := by omega
            go_wp2_with fail
            have HC9 : Cur B w41 g (m + 400) := HC.out.mono (by omega)
            have HC := hide HC9
            clear HC9
            have hm4 : m + 400 ≤ 200000 := by omega
            go_wp2_with fail
            refine (one_any B g (m + 400) 60 _ HC.out (by omega) (by omega) (by omega)).mono ?_
            rintro e w42 ⟨bz, rfl, hc, hg⟩
            have HO := hide (own_gr HO.out hg hg0)
            have HR := hide (own_gr HR.out hg hgR)
            have HG := hide (gr_trans HG.out hg)
            have hsz := hg.size
            have HC := hide hc
            clear hc hg
            have hsz42 := hsz
            clear hsz
            cases bz with
            | false =>
              go_wp2
              go_ret
              exact ⟨.slice (some ⟨gy, 0, none⟩) L yc, ys, rfl, ⟨gy, yc, by rw [← HLL.out]⟩, by rw [← HLL.out]; omega, by rw [← HLL.out]; exact HO.out, HC.out.mono (by omega), HG.out⟩
            | true =>
              by_cases hl1 : 1 < L
              · have hl2 : (1 : Int) < (L : Int) := by omega
                obtain ⟨x, t, ht⟩ : ∃ x t, ys = x :: t := by
                  obtain _ | ⟨x, t⟩ := ys
                  · exact absurd HLL.out (by simp; omega)
                  · exact ⟨x, t, rfl⟩
                obtain ⟨n, hn⟩ : ∃ n, n = t.length := ⟨_, rfl⟩
                have hLn : L = n + 1 := by rw [hn, HLL.out, ht]; rfl
                subst hLn
                have HLN := hide hn.symm
                clear hn
                rw [ht] at HO
                have hLL2 : (x :: t).length = n + 1 := by rw [← ht]; exact HLL.out.symm
                have hrd := own_rd' encCp_len HO.out hLL2
                obtain ⟨ao', c', hv', hyc, hvm, _⟩ := own_rd encCp_len HO.out hLL2
                injection hv' with hv1 hv2 hv3
                subst hv3
                clear hv1 hv2
                obtain ⟨b, off, hvo, hbl, hat⟩ := rdCp hrd (by simp)
                injection hvo with hvo
                injection hvo with e1 e2 e3
                subst e1 e2
                obtain ⟨x', hx', hxc⟩ := hat 0 (by simp)
                obtain rfl : x = x' := by simpa using hx'
                obtain ⟨_, f0, f1, f2, f3⟩ := hxc w42 (Below.refl _ _)
                simp only [Nat.zero_add, Nat.zero_mul] at f0 f1 f2 f3
                have g0 := hbl
                have HR1 := hide (rd_tail4 hrd)
                clear hx' hxc hat hrd
                have k1 : ((n + 1 : Nat) : Int) = (n : Int) + 1 := by omega
                have k2 : (0 : Int) < ((n + 1 : Nat) : Int) := by omega
                have k3 : (1 : Int) ≤ ((n + 1 : Nat) : Int) := by omega
                have k4 : ((n + 1 : Nat) : Int) ≤ (yc : Int) := by omega
                have k5 : yc ≠ 1 := by omega
                have hnL : n ≤ 16 := by omega
                go_wp2_with fail
                have hszW : w.heap.size ≤ w42.heap.size := by omega
                have HE0 : (w42.drew.alloc (.cells #[] 34)).ownsRow w42.heap.size 34 4 (.slice (some ⟨w42.heap.size, 0, none⟩) 0 0) 0 [] := World.ownsRow_made w42.drew #[] 0 (Nat.le_refl _) (by simp [maxLen]) rfl
                have HE1 : ((w42.drew.alloc (.cells #[.int .i64 x.s, .int .i64 x.r, .int .i64 x.d, .int .i64 x.p] 34)).alloc (.cells #[] 34)).ownsRow w42.heap.size 34 4 (.slice (some ⟨w42.heap.size + 1, 0, none⟩) 0 0) 0 [] := by
                  have hh : ((w42.drew.alloc (.cells #[.int .i64 x.s, .int .i64 x.r, .int .i64 x.d, .int .i64 x.p] 34)).alloc (.cells #[] 34)).ownsRow (w42.drew.alloc (.cells #[.int .i64 x.s, .int .i64 x.r, .int .i64 x.d, .int .i64 x.p] 34)).heap.size 34 4 (.slice (some ⟨(w42.drew.alloc (.cells #[.int .i64 x.s, .int .i64 x.r, .int .i64 x.d, .int .i64 x.p] 34)).heap.size, 0, none⟩) 0 0) 0 [] := World.ownsRow_made _ #[] 0 (Nat.le_refl _) (by simp [maxLen]) rfl
                  have hz : (w42.drew.alloc (.cells #[.int .i64 x.s, .int .i64 x.r, .int .i64 x.d, .int .i64 x.p] 34)).heap.size = w42.heap.size + 1 := by simp
                  rw [hz] at hh
                  exact own_base hh (Nat.le_succ _)
                have HNB : ((w42.drew.alloc (.cells #[] 34)).alloc (.cells #[.int .i64 x.s, .int .i64 x.r, .int .i64 x.d, .int .i64 x.p] 34)).heap[w42.heap.size + 1]? = some (Obj.cells #[.int .i64 x.s, .int .i64 x.r, .int .i64 x.d, .int .i64 x.p] 34 (0, 0)) := by
                  have hz : (w42.drew.alloc (.cells #[] 34)).heap.size = w42.heap.size + 1 := by simp
                  have hh := heap_alloc_new (w42.drew.alloc (.cells #[] 34)) (.cells #[.int .i64 x.s, .int .i64 x.r, .int .i64 x.d, .int .i64 x.p] 34)
                  rw [hz] at hh; exact hh
                refine wp_region_held_drew (S := (fun w' => w'.cell? ⟨gy, 0, none⟩ = some (.int .i64 x.s) ∧ w'.cell? ⟨gy, 1, none⟩ = some (.int .i64 x.r) ∧ w'.cell? ⟨gy, 2, none⟩ = some (.int .i64 x.d) ∧ w'.cell? ⟨gy, 3, none⟩ = some (.int .i64 x.p) ∧ Below w42.heap.size w42 w')) (by kernel_rfl) ⟨f0, f1, f2, f3, (Below.refl _ _).drew⟩ (fun hHeld => ?_)
                obtain ⟨hi, hz0, hz1, hz2⟩ := HI.out
                refine heldC_take 1 68 ?vv18 rfl (by kernel_rfl) (by kernel_rfl) (by kernel_rfl) rfl (fun _ _ _ h => h) (by rfl) ?hy18 (by assumption) ?rest18
                case hy18 => (intro w hSw; (try dsimp only at hSw); go_simp; try with_reducible rfl)
                try simp only [Act.put, List.setIfInBounds_toArray, List.set_cons_zero, List.set_cons_succ]
                refine heldC_take 2 69 (.slice (some ⟨gy, 4, none⟩) n (yc - 1)) rfl (by kernel_rfl) (by kernel_rfl) (by kernel_rfl) rfl (fun _ _ _ h => h) (by rfl) ?hy19 (by assumption) ?rest19
                case hy19 => (intro w hSw; (try dsimp only at hSw); go_simp; first | done | (with_reducible rfl) | (intro hlt; exact absurd hlt (by omega)))
                try simp only [Act.put, List.setIfInBounds_toArray, List.set_cons_zero, List.set_cons_succ]
                refine heldC_take 4 71 ?vv20 rfl (by kernel_rfl) (by kernel_rfl) (by kernel_rfl) rfl (fun _ _ _ h => h) (by rfl) ?hy20 (by assumption) ?rest20
                case hy20 => (intro w hSw; (try dsimp only at hSw); go_simp; try with_reducible rfl)
                try simp only [Act.put, List.setIfInBounds_toArray, List.set_cons_zero, List.set_cons_succ]
                refine heldC_take 5 72 ?vv21 rfl (by kernel_rfl) (by kernel_rfl) (by kernel_rfl) rfl (fun _ _ _ h => h) (by rfl) ?hy21 (by assumption) ?rest21
                case hy21 => (intro w hSw; (try dsimp only at hSw); go_simp; try with_reducible rfl)
                try simp only [Act.put, List.setIfInBounds_toArray, List.set_cons_zero, List.set_cons_succ]
                refine heldC_take 6 73 ?vv22 rfl (by kernel_rfl) (by kernel_rfl) (by kernel_rfl) rfl (fun _ _ _ h => h) (by rfl) ?hy22 (by assumption) ?rest22
                case hy22 => (intro w hSw; (try dsimp only at hSw); go_simp; try with_reducible rfl)
                try simp only [Act.put, List.setIfInBounds_toArray, List.set_cons_zero, List.set_cons_succ]
                refine wpAnyH_ready (rs := [0, 7]) (by kernel_rfl) (by simp) ?_
                refine AllReadyH.cons rfl (fun K hK => ?_) (AllReadyH.cons rfl (fun K hK => ?_) AllReadyH.nil)
                · go_simp
                  have hq0 : Below w42.heap.size w42 (w42.drew.alloc (.cells #[] 34)) := (Below.drew (Below.refl _ _)).alloc (Nat.le_refl _) _
                  refine hK.out _ _ ⟨(hq0.cell (p := ⟨gy, 0, none⟩) g0).trans f0, (hq0.cell (p := ⟨gy, 1, none⟩) g0).trans f1, (hq0.cell (p := ⟨gy, 2, none⟩) g0).trans f2, (hq0.cell (p := ⟨gy, 3, none⟩) g0).trans f3, hq0⟩ (fun hHeld2 => ?_)
                  clear hK K hHeld2
                  try simp only [Act.put, List.setIfInBounds_toArray, List.set_cons_zero, List.set_cons_succ]
                  refine wpAnyH_ready (rs := [3, 7]) (by kernel_rfl) (by simp) ?_
                  refine AllReadyH.cons rfl (fun K hK => ?_) (AllReadyH.cons rfl (fun K hK => ?_) AllReadyH.nil)
                  · refine step_append_own (by rfl) _ _ _ (by rfl) w42.heap.size 34 i0HI _ 4 32 Try.underlying28 hi hz0 hz1 hz2 rfl (by omega) _ 0 [] (by rfl) HE0 ⟨gy, 4, none⟩ n _ (t.flatMap encCp) (by rfl) (by rw [flat_len encCp_len, HLN.out]) (rd_flat encCp_len (rd_at0 HR1.out hq0)) (flat_one encCp_one t) (by unfold maxLen; omega) (by omega) (by first | (simp; done) | (simp; omega)) ?_
                    intro v3 w3 hown3 hgrow3
                    have hq3 : Below w42.heap.size w42 w3 := bl_grown hq0 HE0 (Nat.le_refl _) hgrow3
                    have ho : w3.ownsRow w42.heap.size 34 4 v3 n (t.flatMap encCp) := by first | exact hown3 | (rw [Nat.zero_add, List.nil_append] at hown3; exact hown3)
                    refine hK.out _ _ ⟨(hq3.cell (p := ⟨gy, 0, none⟩) g0).trans f0, (hq3.cell (p := ⟨gy, 1, none⟩) g0).trans f1, (hq3.cell (p := ⟨gy, 2, none⟩) g0).trans f2, (hq3.cell (p := ⟨gy, 3, none⟩) g0).trans f3, hq3⟩ (fun hHeld3 => ?_)
                    clear hK K hHeld3 hown3
                    try simp only [Act.put, List.setIfInBounds_toArray, List.set_cons_zero, List.set_cons_succ]
                    refine wpAnyH_ready (rs := [7]) (by kernel_rfl) (by simp) ?_
                    refine AllReadyH.cons rfl (fun K hK => ?_) AllReadyH.nil
                    go_simp
                    have hq5 : Below w42.heap.size w42 (w3.alloc (.cells #[.int .i64 x.s, .int .i64 x.r, .int .i64 x.d, .int .i64 x.p] 34)) := hq3.alloc hq3.size _
                    refine hK.out _ _ ⟨(hq5.cell (p := ⟨gy, 0, none⟩) g0).trans f0, (hq5.cell (p := ⟨gy, 1, none⟩) g0).trans f1, (hq5.cell (p := ⟨gy, 2, none⟩) g0).trans f2, (hq5.cell (p := ⟨gy, 3, none⟩) g0).trans f3, hq5⟩ (fun hHeld3 => ?_)
                    clear hK K hHeld3
                    have hsz := hq3.size
                    have hq3 := hq5
                    try simp only [Act.put, List.setIfInBounds_toArray, List.set_cons_zero, List.set_cons_succ]
                    refine wpAnyH_ready (rs := [8]) (by kernel_rfl) (by simp) ?_
                    refine AllReadyH.cons rfl (fun K hK => ?_) AllReadyH.nil
                    refine step_append_own (by rfl) _ _ _ (by rfl) w42.heap.size 34 i0HI _ 4 32 Try.underlying28 hi hz0 hz1 hz2 rfl (by omega) _ n _ (by rfl) (ho.alloc _) ⟨w3.heap.size, 0, none⟩ 1 1 [.int .i64 x.s, .int .i64 x.r, .int .i64 x.d, .int .i64 x.p] (by rfl) (by rfl) (news_at #[.int .i64 x.s, .int .i64 x.r, .int .i64 x.d, .int .i64 x.p]) (by simp [Value.oneCell']) (by unfold maxLen; omega) (by omega) (by first | omega | (simp; omega)) ?_
                    intro v4 w4 hown4 hgrow
                    have hq4 : Below w42.heap.size w42 w4 := bl_grown hq3 (ho.alloc _) (Nat.le_refl _) hgrow
                    refine hK.out _ _ ⟨(hq4.cell (p := ⟨gy, 0, none⟩) g0).trans f0, (hq4.cell (p := ⟨gy, 1, none⟩) g0).trans f1, (hq4.cell (p := ⟨gy, 2, none⟩) g0).trans f2, (hq4.cell (p := ⟨gy, 3, none⟩) g0).trans f3, hq4⟩ (fun hHeld4 => ?_)
                    clear hK K
                    try simp only [Act.put, List.setIfInBounds_toArray, List.set_cons_zero, List.set_cons_succ]
                    refine heldC_take 9 5 ?vv23 rfl (by kernel_rfl) (by kernel_rfl) (by kernel_rfl) rfl (fun _ _ _ h => h) (by rfl) ?hy23 (by assumption) ?rest23
                    case hy23 => (intro w hSw; (try dsimp only at hSw); go_simp; try with_reducible rfl)
                    try simp only [Act.put, List.setIfInBounds_toArray, List.set_cons_zero, List.set_cons_succ]
                    refine wpAnyH_done (by kernel_rfl) ?_ _
                    have HB4 := hide hq4
                    have HLEN : Hid ((t ++ [x]).length = n + 1) := hide (by simp [HLN.out])
                    have HO4 : Hid (w4.ownsRow w42.heap.size 34 4 v4 (n + 1) ((t ++ [x]).flatMap encCp)) := hide (by rw [flat_snoc]; exact hown4)
                    clear hown4 hgrow hHeld hHeld4 hq4 f0 f1 f2 f3 hi hz0 hz1 hz2 hq3
                    rcases own_form encCp_len HO4.out HLEN.out with ⟨_, h0, _⟩ | ⟨ge, ce, cse, hve, _, _, _, _, _, _⟩
                    · omega
                    subst hve
                    go_wp2
                    go_ret
                    exact ⟨.slice (some ⟨ge, 0, none⟩) (n + 1) ce, t ++ [x], rfl, ⟨ge, ce, by rw [HLEN.out]⟩, by rw [HLEN.out]; omega, by rw [HLEN.out]; exact own_base HO4.out hszW, (HC.out.below HB4.out).mono (by omega), gr_step HG.out HB4.out⟩
                  · go_simp
                    have hq1 : Below w42.heap.size w42 ((w42.drew.alloc (.cells #[] 34)).alloc (.cells #[.int .i64 x.s, .int .i64 x.r, .int .i64 x.d, .int .i64 x.p] 34)) := hq0.alloc hq0.size _
                    refine hK.out _ _ ⟨(hq1.cell (p := ⟨gy, 0, none⟩) g0).trans f0, (hq1.cell (p := ⟨gy, 1, none⟩) g0).trans f1, (hq1.cell (p := ⟨gy, 2, none⟩) g0).trans f2, (hq1.cell (p := ⟨gy, 3, none⟩) g0).trans f3, hq1⟩ (fun hHeld2 => ?_)
                    clear hK K hHeld2
                    try simp only [Act.put, List.setIfInBounds_toArray, List.set_cons_zero, List.set_cons_succ]
                    refine wpAnyH_ready (rs := [3]) (by kernel_rfl) (by simp) ?_
                    refine AllReadyH.cons rfl (fun K hK => ?_) AllReadyH.nil
                    refine step_append_own (by rfl) _ _ _ (by rfl) w42.heap.size 34 i0HI _ 4 32 Try.underlying28 hi hz0 hz1 hz2 rfl (by omega) _ 0 [] (by rfl) (HE0.alloc (.cells #[.int .i64 x.s, .int .i64 x.r, .int .i64 x.d, .int .i64 x.p] 34)) ⟨gy, 4, none⟩ n _ (t.flatMap encCp) (by rfl) (by rw [flat_len encCp_len, HLN.out]) (rd_flat encCp_len (rd_at0 HR1.out hq1)) (flat_one encCp_one t) (by unfold maxLen; omega) (by omega) (by first | (simp; done) | (simp; omega)) ?_
                    intro v3 w3 hown3 hgrow3
                    have hq3 : Below w42.heap.size w42 w3 := bl_grown hq1 (HE0.alloc (.cells #[.int .i64 x.s, .int .i64 x.r, .int .i64 x.d, .int .i64 x.p] 34)) (Nat.le_refl _) hgrow3
                    have ho : w3.ownsRow w42.heap.size 34 4 v3 n (t.flatMap encCp) := by first | exact hown3 | (rw [Nat.zero_add, List.nil_append] at hown3; exact hown3)
                    refine hK.out _ _ ⟨(hq3.cell (p := ⟨gy, 0, none⟩) g0).trans f0, (hq3.cell (p := ⟨gy, 1, none⟩) g0).trans f1, (hq3.cell (p := ⟨gy, 2, none⟩) g0).trans f2, (hq3.cell (p := ⟨gy, 3, none⟩) g0).trans f3, hq3⟩ (fun hHeld3 => ?_)
                    clear hK K hHeld3 hown3
                    try simp only [Act.put, List.setIfInBounds_toArray, List.set_cons_zero, List.set_cons_succ]
                    have hnb : w3.heap[w42.heap.size + 1]? = some (.cells #[.int .i64 x.s, .int .i64 x.r, .int .i64 x.d, .int .i64 x.p] 34 (0, 0)) := (hgrow3.block _ (by first | (simp; done) | (simp; omega)) (by simp [Value.ownBlock])).trans HNB
                    have hsz := hq3.size
                    refine wpAnyH_ready (rs := [8]) (by kernel_rfl) (by simp) ?_
                    refine AllReadyH.cons rfl (fun K hK => ?_) AllReadyH.nil
                    refine step_append_own (by rfl) _ _ _ (by rfl) w42.heap.size 34 i0HI _ 4 32 Try.underlying28 hi hz0 hz1 hz2 rfl (by omega) _ n _ (by rfl) ho ⟨w42.heap.size + 1, 0, none⟩ 1 1 [.int .i64 x.s, .int .i64 x.r, .int .i64 x.d, .int .i64 x.p] (by rfl) (by rfl) (World.news_of_block (cs := #[.int .i64 x.s, .int .i64 x.r, .int .i64 x.d, .int .i64 x.p]) (t := 34) (fr := (0, 0)) hnb) (by simp [Value.oneCell']) (by unfold maxLen; omega) (by omega) (by first | omega | (simp; omega)) ?_
                    intro v4 w4 hown4 hgrow
                    have hq4 : Below w42.heap.size w42 w4 := bl_grown hq3 ho (Nat.le_refl _) hgrow
                    refine hK.out _ _ ⟨(hq4.cell (p := ⟨gy, 0, none⟩) g0).trans f0, (hq4.cell (p := ⟨gy, 1, none⟩) g0).trans f1, (hq4.cell (p := ⟨gy, 2, none⟩) g0).trans f2, (hq4.cell (p := ⟨gy, 3, none⟩) g0).trans f3, hq4⟩ (fun hHeld4 => ?_)
                    clear hK K
                    try simp only [Act.put, List.setIfInBounds_toArray, List.set_cons_zero, List.set_cons_succ]
                    refine heldC_take 9 5 ?vv24 rfl (by kernel_rfl) (by kernel_rfl) (by kernel_rfl) rfl (fun _ _ _ h => h) (by rfl) ?hy24 (by assumption) ?rest24
                    case hy24 => (intro w hSw; (try dsimp only at hSw); go_simp; try with_reducible rfl)
                    try simp only [Act.put, List.setIfInBounds_toArray, List.set_cons_zero, List.set_cons_succ]
                    refine wpAnyH_done (by kernel_rfl) ?_ _
                    have HB4 := hide hq4
                    have HLEN : Hid ((t ++ [x]).length = n + 1) := hide (by simp [HLN.out])
                    have HO4 : Hid (w4.ownsRow w42.heap.size 34 4 v4 (n + 1) ((t ++ [x]).flatMap encCp)) := hide (by rw [flat_snoc]; exact hown4)
                    clear hown4 hgrow hHeld hHeld4 hq4 f0 f1 f2 f3 hi hz0 hz1 hz2 hq3
                    rcases own_form encCp_len HO4.out HLEN.out with ⟨_, h0, _⟩ | ⟨ge, ce, cse, hve, _, _, _, _, _, _⟩
                    · omega
                    subst hve
                    go_wp2
                    go_ret
                    exact ⟨.slice (some ⟨ge, 0, none⟩) (n + 1) ce, t ++ [x], rfl, ⟨ge, ce, by rw [HLEN.out]⟩, by rw [HLEN.out]; omega, by rw [HLEN.out]; exact own_base HO4.out hszW, (HC.out.below HB4.out).mono (by omega), gr_step HG.out HB4.out⟩
                · go_simp
                  have hq0 : Below w42.heap.size w42 (w42.drew.alloc (.cells #[.int .i64 x.s, .int .i64 x.r, .int .i64 x.d, .int .i64 x.p] 34)) := (Below.drew (Below.refl _ _)).alloc (Nat.le_refl _) _
                  refine hK.out _ _ ⟨(hq0.cell (p := ⟨gy, 0, none⟩) g0).trans f0, (hq0.cell (p := ⟨gy, 1, none⟩) g0).trans f1, (hq0.cell (p := ⟨gy, 2, none⟩) g0).trans f2, (hq0.cell (p := ⟨gy, 3, none⟩) g0).trans f3, hq0⟩ (fun hHeld2 => ?_)
                  clear hK K hHeld2
                  try simp only [Act.put, List.setIfInBounds_toArray, List.set_cons_zero, List.set_cons_succ]
                  refine wpAnyH_ready (rs := [0]) (by kernel_rfl) (by simp) ?_
                  refine AllReadyH.cons rfl (fun K hK => ?_) AllReadyH.nil
                  go_simp
                  have hq1 : Below w42.heap.size w42 ((w42.drew.alloc (.cells #[.int .i64 x.s, .int .i64 x.r, .int .i64 x.d, .int .i64 x.p] 34)).alloc (.cells #[] 34)) := hq0.alloc hq0.size _
                  refine hK.out _ _ ⟨(hq1.cell (p := ⟨gy, 0, none⟩) g0).trans f0, (hq1.cell (p := ⟨gy, 1, none⟩) g0).trans f1, (hq1.cell (p := ⟨gy, 2, none⟩) g0).trans f2, (hq1.cell (p := ⟨gy, 3, none⟩) g0).trans f3, hq1⟩ (fun hHeld2 => ?_)
                  clear hK K hHeld2
                  try simp only [Act.put, List.setIfInBounds_toArray, List.set_cons_zero, List.set_cons_succ]
                  refine wpAnyH_ready (rs := [3]) (by kernel_rfl) (by simp) ?_
                  refine AllReadyH.cons rfl (fun K hK => ?_) AllReadyH.nil
                  refine step_append_own (by rfl) _ _ _ (by rfl) w42.heap.size 34 i0HI _ 4 32 Try.underlying28 hi hz0 hz1 hz2 rfl (by omega) _ 0 [] (by rfl) HE1 ⟨gy, 4, none⟩ n _ (t.flatMap encCp) (by rfl) (by rw [flat_len encCp_len, HLN.out]) (rd_flat encCp_len (rd_at0 HR1.out hq1)) (flat_one encCp_one t) (by unfold maxLen; omega) (by omega) (by first | (simp; done) | (simp; omega)) ?_
                  intro v3 w3 hown3 hgrow3
                  have hq3 : Below w42.heap.size w42 w3 := bl_grown hq1 HE1 (Nat.le_refl _) hgrow3
                  have ho : w3.ownsRow w42.heap.size 34 4 v3 n (t.flatMap encCp) := by first | exact hown3 | (rw [Nat.zero_add, List.nil_append] at hown3; exact hown3)
                  refine hK.out _ _ ⟨(hq3.cell (p := ⟨gy, 0, none⟩) g0).trans f0, (hq3.cell (p := ⟨gy, 1, none⟩) g0).trans f1, (hq3.cell (p := ⟨gy, 2, none⟩) g0).trans f2, (hq3.cell (p := ⟨gy, 3, none⟩) g0).trans f3, hq3⟩ (fun hHeld3 => ?_)
                  clear hK K hHeld3 hown3
                  try simp only [Act.put, List.setIfInBounds_toArray, List.set_cons_zero, List.set_cons_succ]
                  have hnb : w3.heap[w42.heap.size]? = some (.cells #[.int .i64 x.s, .int .i64 x.r, .int .i64 x.d, .int .i64 x.p] 34 (0, 0)) := (hgrow3.block _ (by first | (simp; done) | (simp; omega)) (by simp [Value.ownBlock])).trans ((Below.heap_alloc _ _ _ (by simp)).trans (heap_alloc_new w42.drew _))
                  have hsz := hq3.size
                  refine wpAnyH_ready (rs := [8]) (by kernel_rfl) (by simp) ?_
                  refine AllReadyH.cons rfl (fun K hK => ?_) AllReadyH.nil
                  refine step_append_own (by rfl) _ _ _ (by rfl) w42.heap.size 34 i0HI _ 4 32 Try.underlying28 hi hz0 hz1 hz2 rfl (by omega) _ n _ (by rfl) ho ⟨w42.heap.size, 0, none⟩ 1 1 [.int .i64 x.s, .int .i64 x.r, .int .i64 x.d, .int .i64 x.p] (by rfl) (by rfl) (World.news_of_block (cs := #[.int .i64 x.s, .int .i64 x.r, .int .i64 x.d, .int .i64 x.p]) (t := 34) (fr := (0, 0)) hnb) (by simp [Value.oneCell']) (by unfold maxLen; omega) (by omega) (by first | omega | (simp; omega)) ?_
                  intro v4 w4 hown4 hgrow
                  have hq4 : Below w42.heap.size w42 w4 := bl_grown hq3 ho (Nat.le_refl _) hgrow
                  refine hK.out _ _ ⟨(hq4.cell (p := ⟨gy, 0, none⟩) g0).trans f0, (hq4.cell (p := ⟨gy, 1, none⟩) g0).trans f1, (hq4.cell (p := ⟨gy, 2, none⟩) g0).trans f2, (hq4.cell (p := ⟨gy, 3, none⟩) g0).trans f3, hq4⟩ (fun hHeld4 => ?_)
                  clear hK K
                  try simp only [Act.put, List.setIfInBounds_toArray, List.set_cons_zero, List.set_cons_succ]
                  refine heldC_take 9 5 ?vv25 rfl (by kernel_rfl) (by kernel_rfl) (by kernel_rfl) rfl (fun _ _ _ h => h) (by rfl) ?hy25 (by assumption) ?rest25
                  case hy25 => (intro w hSw; (try dsimp only at hSw); go_simp; try with_reducible rfl)
                  try simp only [Act.put, List.setIfInBounds_toArray, List.set_cons_zero, List.set_cons_succ]
                  refine wpAnyH_done (by kernel_rfl) ?_ _
                  have HB4 := hide hq4
                  have HLEN : Hid ((t ++ [x]).length = n + 1) := hide (by simp [HLN.out])
                  have HO4 : Hid (w4.ownsRow w42.heap.size 34 4 v4 (n + 1) ((t ++ [x]).flatMap encCp)) := hide (by rw [flat_snoc]; exact hown4)
                  clear hown4 hgrow hHeld hHeld4 hq4 f0 f1 f2 f3 hi hz0 hz1 hz2 hq3
                  rcases own_form encCp_len HO4.out HLEN.out with ⟨_, h0, _⟩ | ⟨ge, ce, cse, hve, _, _, _, _, _, _⟩
                  · omega
                  subst hve
                  go_wp2
                  go_ret
                  exact ⟨.slice (some ⟨ge, 0, none⟩) (n + 1) ce, t ++ [x], rfl, ⟨ge, ce, by rw [HLEN.out]⟩, by rw [HLEN.out]; omega, by rw [HLEN.out]; exact own_base HO4.out hszW, (HC.out.below HB4.out).mono (by omega), gr_step HG.out HB4.out⟩
              · have hl2 : ¬ (1 : Int) < (L : Int) := by omega
                go_wp2
                go_ret
                exact ⟨.slice (some ⟨gy, 0, none⟩) L yc, ys, rfl, ⟨gy, yc, by rw [← HLL.out]⟩, by rw [← HLL.out]; omega, by rw [← HLL.out]; exact HO.out, HC.out.mono (by omega), HG.out⟩

end Go.Proofs.Ytpghdjehagamlaa
