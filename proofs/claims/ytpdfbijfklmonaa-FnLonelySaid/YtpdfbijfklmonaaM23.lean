/- bestMosaic. -/
import Derived.Test.YtpdfbijfklmonaaM22
import Derived.Test.YtpdfbijfklmonaaM8
namespace Go.Proofs.Ytpdfbijfklmonaa
open Go.RowKit
set_option linter.unusedVariables false
set_option linter.unusedSimpArgs false

def bestL (pr : Bool) (wd hg : Nat) (zs : List Cv) (s : Nat) : List Cv := (bestI pr wd hg zs s).getD []
def bestF (pr : Bool) (wd hg : Nat) (zs : List Cv) (s : Nat) : Bool := (bestI pr wd hg zs s).isSome
theorem subs_len (s : Nat) (zs : List Cv) : (subs s zs).length ≤ zs.length := sel_len _ _ _
theorem bestI_sub (pr : Bool) (wd hg : Nat) (zs : List Cv) (s : Nat) : ∀ b, bestI pr wd hg zs s = some b → ∃ t, b = subs t zs := fun b hb => by
  have := invI pr wd hg zs s
  rw [hb] at this
  obtain ⟨⟨t, _, h, _⟩, _⟩ := this
  exact ⟨t, h⟩
theorem bestL_cases (pr : Bool) (wd hg : Nat) (zs : List Cv) (s : Nat) : (bestI pr wd hg zs s = none ∧ bestF pr wd hg zs s = false ∧ bestL pr wd hg zs s = []) ∨ (bestI pr wd hg zs s = some (bestL pr wd hg zs s) ∧ bestF pr wd hg zs s = true) := by
  unfold bestL bestF
  cases h : bestI pr wd hg zs s with
  | none => left; simp
  | some b => right; simp
theorem bestL_good {pr : Bool} {wd hg : Nat} {zs : List Cv} {s : Nat} (g : goodAll zs) : goodAll (bestL pr wd hg zs s) := by
  rcases bestL_cases pr wd hg zs s with ⟨_, _, h⟩ | ⟨h, _⟩
  · rw [h]; intro k x hx; simp at hx
  · obtain ⟨t, ht⟩ := bestI_sub _ _ _ _ _ _ h
    rw [ht]; exact good_sub g (subs_sub t zs)
theorem bestL_len {pr : Bool} {wd hg : Nat} {zs : List Cv} {s : Nat} : (bestL pr wd hg zs s).length ≤ zs.length := by
  rcases bestL_cases pr wd hg zs s with ⟨_, _, h⟩ | ⟨h, _⟩
  · rw [h]; simp
  · obtain ⟨t, ht⟩ := bestI_sub _ _ _ _ _ _ h
    rw [ht]; exact subs_len t zs
theorem bl_yes {pr : Bool} {wd hg : Nat} {zs : List Cv} {s : Nat} (h : upd pr wd hg (subs s zs) (bestI pr wd hg zs s) = true) : bestL pr wd hg zs (s + 1) = subs s zs ∧ bestF pr wd hg zs (s + 1) = true := by unfold bestL bestF; rw [bi_yes h]; simp
theorem bl_no {pr : Bool} {wd hg : Nat} {zs : List Cv} {s : Nat} (h : upd pr wd hg (subs s zs) (bestI pr wd hg zs s) = false) : bestL pr wd hg zs (s + 1) = bestL pr wd hg zs s ∧ bestF pr wd hg zs (s + 1) = bestF pr wd hg zs s := by unfold bestL bestF; rw [bi_no h]; simp
theorem upd_no {pr : Bool} {wd hg : Nat} {c : List Cv} {b : Option (List Cv)} (h : ¬ cntX c hg wd = 0) : upd pr wd hg c b = false := by unfold upd; rw [beq_eq_false_iff_ne.2 h]; rfl
theorem upd_new {pr : Bool} {wd hg : Nat} {c : List Cv} {b : Option (List Cv)} (h : cntX c hg wd = 0) (hb : b = none) : upd pr wd hg c b = true := by unfold upd; rw [h, hb]; rfl
theorem upd_lt {pr : Bool} {wd hg : Nat} {c d : List Cv} {b : Option (List Cv)} (h : cntX c hg wd = 0) (hb : b = some d) : upd pr wd hg c b = ltK pr (keyOf c) (keyOf d) := by unfold upd; rw [h, hb]; rfl
set_option maxRecDepth 100000 in
set_option maxHeartbeats 2000000 in
theorem bestMosaic_any (pr : Bool) (g : Nat) (eg : ∀ args w, (callFunc g args).run Try.prog w = .ok (.enter g args) w) (wd hg : Nat) (h1 : wd ≤ 10) (h2 : hg ≤ 10) (ao : Option Addr) (n c : Nat) (zs : List Cv) (w : World) (hz : zs.length = n) (hn : n ≤ 10) (hr : Rd encCv 6 w.heap.size w ao zs) (good : goodAll zs)
    (hp : ∀ (W : World) (ao : Option Addr) (n c : Nat) (zs : List Cv) (bo : Option Addr) (m d : Nat) (cs : List Cv), zs.length = n → n ≤ 10 → Rd encCv 6 W.heap.size W ao zs → cs.length = m → m ≤ 10 → Rd encCv 6 W.heap.size W bo cs → goodAll zs → goodAll cs → Calls Try.prog g #[.slice ao n c, .slice bo m d] W fun e w' => e = .returned (.bool (ltK pr (keyOf zs) (keyOf cs))) ∧ Below W.heap.size W w') :
    Calls Try.prog 68 #[.int .i64 wd, .int .i64 hg, .slice ao n c, .func (.func g) #[] #[]] w fun e w' => ∃ v, e = .returned (.tuple #[v, .bool (bestF pr wd hg zs (2 ^ n))]) ∧ w'.ownsRow w.heap.size 60 6 v (bestL pr wd hg zs (2 ^ n)).length ((bestL pr wd hg zs (2 ^ n)).flatMap encCv) ∧ Below w.heap.size w w' := by
  have HZ := hide hz
  have HR := hide hr
  have HP := hide hp
  have HG := hide good
  obtain ⟨i0, hi, hz0, hz1, hz2⟩ := info_parts infoCv
  have HI := hide (And.intro hi (And.intro hz0 (And.intro hz1 hz2)))
  clear hi hz0 hz1 hz2
  clear hz hr hp good
  obtain ⟨N, hN⟩ : ∃ N, N = 2 ^ n := ⟨_, rfl⟩
  have hN1 : N ≤ 1024 := by rw [hN]; exact Nat.pow_le_pow_right (by decide) hn
  have hsh : (2 : Int) ^ n = (N : Int) := by rw [hN]; exact (Int.natCast_pow 2 n).symm
  have hwr : IntKind.i64.wrap (N : Int) = (N : Int) := IntWalk.i64_in _ (by omega)
  have HNN := hide hN
  rw [← hN]
  clear hN
  go_enter Try.func68, Try.ntmps68
  go_wp2
  go_loopg [10, 11, 12, 13, 14, 19] N (fun gk bv fv _ _ _ i wr => ∃ s : Nat, s ≤ N ∧ N - s ≤ gk ∧ i = .int .i64 s ∧ fv = .bool (bestF pr wd hg zs s) ∧ Aside (wr.ownsRow w.heap.size 60 6 bv (bestL pr wd hg zs s).length ((bestL pr wd hg zs s).flatMap encCv)) ∧ Aside (Below w.heap.size w wr))
  case atStart => exact ⟨0, Nat.zero_le _, by omega, rfl, rfl, World.ownsRow_nil _ _ _ _, Below.refl _ _⟩
  case round =>
    obtain ⟨s, hs, hgs, rfl, rfl, OW, BW⟩ := hrel
    obtain ⟨V, hV⟩ : ∃ V, V = wr := ⟨_, rfl⟩
    subst hV
    by_cases hlt : s < N
    · have hlti : (s : Int) < (N : Int) := by omega
      go_wp2
      go_loopg [13, 14, 24] n (fun gj cv _ i w2 => ∃ k : Nat, k ≤ n ∧ n - k ≤ gj ∧ i = .int .i64 k ∧ Aside (w2.ownsRow V.heap.size 60 6 cv (sel (bitB s) zs k).length ((sel (bitB s) zs k).flatMap encCv)) ∧ Aside (Below V.heap.size V w2))
      case atStart => exact ⟨0, Nat.zero_le _, by omega, rfl, World.ownsRow_nil _ _ _ _, Below.refl _ _⟩
      case round =>
        obtain ⟨k, hk, hgk, rfl, OV, BV⟩ := hrel
        by_cases hlk : k < n
        · have hlki : (k : Int) < (n : Int) := by omega
          have hk0 : (0 : Int) ≤ (k : Int) := by omega
          have hk64 : (k : Int) ≤ 64 := by omega
          obtain ⟨b', off, rfl, hb1, hat⟩ := rdCv HR.out (by rw [HZ.out]; omega)
          obtain ⟨x, hx, hxc⟩ := hat k (by rw [HZ.out]; exact hlk)
          have HX := hide (getB hx)
          obtain ⟨hbr, c0, c1, c2, c3, c4, c5⟩ := hxc wr (bl_step BW.out BV.out)
          clear hx hxc hat
          obtain ⟨B, hB⟩ : ∃ B, B = bitV s k := ⟨_, rfl⟩
          have hbit : bits .and .i64 ((s : Int) / 2 ^ k) 1 = B := hB.symm
          have HB2 := hide (BV.out.alloc BV.out.size (.cells #[.int .i64 x.i, .int .i64 x.w, .int .i64 x.s, .int .i64 x.e, .int .i64 x.n, .int .i64 x.p] 60))
          have HO2 := hide (OV.out.alloc (.cells #[.int .i64 x.i, .int .i64 x.w, .int .i64 x.s, .int .i64 x.e, .int .i64 x.n, .int .i64 x.p] 60))
          have hsv := BV.out.size
          by_cases hb : B = 1
          · have HN := hide (sel_yes (p := bitB s) HX.out (by unfold bitB; rw [← hB, hb]; rfl))
            subst hb
            have hgl := sel_len (bitB s) zs k
            generalize hll : (sel (bitB s) zs k).length = L at hgl HO2
            have HLL := hide hll
            have hsz : (wr.alloc (.cells #[.int .i64 x.i, .int .i64 x.w, .int .i64 x.s, .int .i64 x.e, .int .i64 x.n, .int .i64 x.p] 60)).heap.size = wr.heap.size + 1 := by simp
            have HSZ := hide hsz
            clear hll hB hsz
            obtain ⟨hi, hz0, hz1, hz2⟩ := HI.out
            go_wp2_with (at_builtin; refine wpList_append_own _ rfl _ _ 26 rfl V.heap.size 60 i0 (.agg #[.int .i64 0, .int .i64 0, .int .i64 0, .int .i64 0, .int .i64 0, .int .i64 0]) 6 48 Try.underlying26 hi hz0 hz1 hz2 rfl (by decide) _ L _ rfl (HO2.out.alloc _) ⟨wr.heap.size + 1, 0, none⟩ 1 1 [.int .i64 x.i, .int .i64 x.w, .int .i64 x.s, .int .i64 x.e, .int .i64 x.n, .int .i64 x.p] rfl rfl ?c1 ?c2 ?c3 ?c4 ?c5 ?_)
            case c1 => have := news_at (w := wr.alloc (.cells #[.int .i64 x.i, .int .i64 x.w, .int .i64 x.s, .int .i64 x.e, .int .i64 x.n, .int .i64 x.p] 60)) (t := 60) #[.int .i64 x.i, .int .i64 x.w, .int .i64 x.s, .int .i64 x.e, .int .i64 x.n, .int .i64 x.p]; rw [HSZ.out] at this; exact this
            case c2 => intro u hu; simp at hu; rcases hu with rfl | rfl | rfl | rfl | rfl | rfl <;> rfl
            case c3 => unfold maxLen; omega
            case c4 => omega
            case c5 => simp; omega
            intro v' w3 hown' hgrow _
            have HB3 := hide (bl_grown (HB2.out.alloc HB2.out.size _) (HO2.out.alloc _) (Nat.le_refl _) hgrow)
            have HO3 := hide hown'
            clear hown' hgrow hi hz0 hz1 hz2
            go_wp2
            go_roundg (n - (k + 1))
            case measure => omega
            case rel => exact ⟨k + 1, by omega, by omega, by go_num, by rw [HN.out, flat_snoc, List.length_append, HLL.out]; exact HO3.out, HB3.out⟩
          · have HN := hide (sel_no (p := bitB s) (zs := zs) (k := k) (by unfold bitB; rw [← hB]; exact beq_eq_false_iff_ne.2 hb))
            have hd1 : decide (B = 1) = false := by simp [hb]
            have hd2 : (B == 1) = false := by simp [hb]
            clear hB
            go_wp2
            go_roundg (n - (k + 1))
            case measure => omega
            case rel => exact ⟨k + 1, by omega, by omega, by go_num, by rw [HN.out]; exact HO2.out, HB2.out⟩
        · have hge : ¬ (k : Int) < (n : Int) := by omega
          obtain rfl : k = n := by omega
          have HSU : Hid (sel (bitB s) zs k = subs s zs) := hide (by unfold subs; rw [HZ.out])
          rw [HSU.out] at OV
          have HGS := hide (good_sub HG.out (subs_sub s zs))
          have hls := subs_len s zs
          rw [HZ.out] at hls
          obtain ⟨ps, hps⟩ : ∃ ps, ps = subs s zs := ⟨_, rfl⟩
          rw [← hps] at OV HGS hls
          have HPS := hide hps
          clear hps
          obtain ⟨L, hL⟩ : ∃ L, L = ps.length := ⟨_, rfl⟩
          rw [← hL] at OV hls
          have HL := hide hL.symm
          clear hL
          obtain ⟨ap, cp, rfl, _, _, hrp⟩ := own_rd encCv_len OV.out HL.out
          have HRP := hide hrp
          have HOP := hide OV.out
          clear hrp
          go_wp2_with fail
          refine (bare_any wd hg h1 h2 ap L cp ps _ HL.out (by omega) HRP.out HGS.out).mono ?_
          rintro e w4 ⟨rfl, hb⟩
          have HB4 := hide (bl_step BW.out (bl_step BV.out hb))
          have HOB := hide (own_step OW.out (bl_step BV.out hb))
          have HOP := hide (own_step HOP.out hb)
          have HRP := hide (rd_step HRP.out hb)
          have hsw := BW.out.size
          clear hb
          obtain ⟨X, hX⟩ : ∃ X, X = cntX ps hg wd := ⟨_, rfl⟩
          rw [← hX]
          by_cases hx0 : X = 0
          · have HC : Hid (cntX (subs s zs) hg wd = 0) := hide (by rw [← HPS.out, ← hX]; exact hx0)
            subst hx0
            clear hX
            rcases bestL_cases pr wd hg zs s with ⟨e1, e2, e3⟩ | ⟨e1, e2⟩
            · have HU := hide (bl_yes (upd_new HC.out e1))
              rw [e2]
              clear e1 e2 e3
              go_wp2
              go_roundg (N - (s + 1))
              case measure => omega
              case rel => exact ⟨s + 1, by omega, by omega, by go_num, by rw [HU.out.2], by rw [HU.out.1, ← HPS.out, HL.out]; exact own_base HOP.out hsw, HB4.out⟩
            · have HU := hide (upd_lt (pr := pr) HC.out e1)
              have HGB := hide (bestL_good (pr := pr) (wd := wd) (hg := hg) (s := s) HG.out)
              have hlb := bestL_len (pr := pr) (wd := wd) (hg := hg) (zs := zs) (s := s)
              rw [HZ.out] at hlb
              have HF := hide e2
              rw [e2]
              clear e1 e2
              obtain ⟨bl, hbl⟩ : ∃ bl, bl = bestL pr wd hg zs s := ⟨_, rfl⟩
              rw [← hbl] at HU HGB hlb HOB
              have HBL := hide hbl
              clear hbl
              obtain ⟨M, hM⟩ : ∃ M, M = bl.length := ⟨_, rfl⟩
              rw [← hM] at HOB hlb
              have HM := hide hM.symm
              clear hM
              obtain ⟨ab, cb, rfl, _, _, hrb⟩ := own_rd encCv_len HOB.out HM.out
              have HRB := hide hrb
              have HCALL := hide (HP.out w4 ap L cp ps ab M cb bl HL.out (by omega) HRP.out HM.out (by omega) HRB.out HGS.out HGB.out)
              clear hrb
              go_wp2_with fail
              refine HCALL.out.mono ?_
              rintro e w5 ⟨rfl, hb⟩
              have HB5 := hide (bl_step HB4.out hb)
              have HOB5 := hide (own_step HOB.out hb)
              have HOP5 := hide (own_step HOP.out hb)
              clear hb HCALL
              cases hl : ltK pr (keyOf ps) (keyOf bl) with
              | true =>
                have HU2 := hide (bl_yes (by rw [HU.out, ← HPS.out]; exact hl))
                clear hl
                go_wp2
                go_roundg (N - (s + 1))
                case measure => omega
                case rel => exact ⟨s + 1, by omega, by omega, by go_num, by rw [HU2.out.2], by rw [HU2.out.1, ← HPS.out, HL.out]; exact own_base HOP5.out hsw, HB5.out⟩
              | false =>
                have HU2 := hide (bl_no (by rw [HU.out, ← HPS.out]; exact hl))
                have HF2 : Hid (bestF pr wd hg zs (s + 1) = true) := hide (by rw [HU2.out.2]; exact HF.out)
                clear hl
                go_wp2
                go_roundg (N - (s + 1))
                case measure => omega
                case rel => exact ⟨s + 1, by omega, by omega, by go_num, by rw [HF2.out], by rw [HU2.out.1, ← HBL.out, HM.out]; exact HOB5.out, HB5.out⟩
          · have HU := hide (bl_no (upd_no (pr := pr) (b := bestI pr wd hg zs s) (by rw [← HPS.out, ← hX]; exact hx0)))
            have hd1 : decide (X = 0) = false := by simp [hx0]
            have hd2 : (X == 0) = false := by simp [hx0]
            clear hX
            go_wp2
            go_roundg (N - (s + 1))
            case measure => omega
            case rel => exact ⟨s + 1, by omega, by omega, by go_num, by rw [HU.out.2], by rw [HU.out.1]; exact HOB.out, HB4.out⟩
    · have hge : ¬ (s : Int) < (N : Int) := by omega
      obtain rfl : s = N := by omega
      go_wp2
      go_ret2
      exact ⟨_, rfl, OW.out, BW.out⟩

end Go.Proofs.Ytpdfbijfklmonaa
