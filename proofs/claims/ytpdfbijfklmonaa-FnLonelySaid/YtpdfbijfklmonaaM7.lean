/- The covers with some ids. -/
import Derived.Test.YtpdfbijfklmonaaM4
import Derived.Test.YtpdfbijfklmonaaM5
import Derived.Test.YtpdfbijfklmonaaFInt
import Derived.Test.YtpdfbijfklmonaaOwn
namespace Go.Proofs.Ytpdfbijfklmonaa
open Go.RowKit
set_option linter.unusedVariables false
set_option linter.unusedSimpArgs false

def isC (s : Int) (x : Cv) : Bool := x.i == s
def hasC (zs : List Cv) (s : Int) : Bool := decide (0 ≤ idxB (isC s) zs)
def pick (zs : List Cv) (s : Int) : Cv := zs[(idxB (isC s) zs).toNat]!
def foundB (zs : List Cv) (is : List Int) : Bool := allB is.length fun k => hasC zs is[k]!
def picks (zs : List Cv) (is : List Int) : List Cv := is.map (pick zs)
def stepR (is : List Int) (k : Nat) : Bool := decide (k = 0) || decide (is[k - 1]! < is[k]!)
def risB (is : List Int) : Bool := allB is.length (stepR is)
def someL (zs : List Cv) (is : List Int) : List Cv := if foundB zs is then picks zs is else []
theorem picks_len {zs : List Cv} {is : List Int} : (picks zs is).length = is.length := by simp [picks]
theorem some_len {zs : List Cv} {is : List Int} : (someL zs is).length ≤ is.length := by unfold someL; split <;> simp [picks]
theorem picks_succ {zs : List Cv} {is : List Int} {k j : Nat} {q : Int} {x : Cv} (hq : is[k]? = some q) (hi : idxB (isC q) zs = (j : Int)) (hx : zs[j]? = some x) : picks zs (is.take (k + 1)) = picks zs (is.take k) ++ [x] := by
  unfold picks; rw [List.take_add_one, hq, List.map_append]
  have : pick zs q = x := by unfold pick; rw [hi]; exact getB hx
  simp [this]
theorem found_bad {zs : List Cv} {is : List Int} {m k : Nat} {q : Int} (hz : is.length = m) (hk : k < m) (hq : is[k]! = q) (h : idxB (isC q) zs = -1) : foundB zs is = false := by
  unfold foundB; rw [hz]; exact allB_false (p := fun k => hasC zs is[k]!) k hk (by show hasC zs is[k]! = false; rw [hq]; unfold hasC; rw [h]; rfl)
theorem found_end {zs : List Cv} {is : List Int} {m k : Nat} (hz : is.length = m) (h : ∀ j, j < k → hasC zs is[j]! = true) (hk : m ≤ k) : foundB zs is = true := by
  unfold foundB; rw [hz]; exact allB_true (fun j hj => h j (by omega))
theorem has_yes {zs : List Cv} {q : Int} {j : Nat} (h : idxB (isC q) zs = (j : Int)) : hasC zs q = true := by unfold hasC; rw [h]; simp
theorem ris_bad {is : List Int} {m k : Nat} (hz : is.length = m) (hk : k < m) (h : stepR is k = false) : risB is = false := by unfold risB; rw [hz]; exact allB_false k hk h
theorem ris_end {is : List Int} {m k : Nat} (hz : is.length = m) (h : ∀ j, j < k → stepR is j = true) (hk : m ≤ k) : risB is = true := by unfold risB; rw [hz]; exact allB_true (fun j hj => h j (by omega))
theorem stepR_no {is : List Int} {k : Nat} {q p : Int} (hq : is[k]! = q) (hp : is[k - 1]! = p) (hk : 0 < k) (h : q ≤ p) : stepR is k = false := by unfold stepR; rw [hq, hp]; simp; omega
theorem stepR_yes {is : List Int} {k : Nat} {q p : Int} (hq : is[k]! = q) (hp : is[k - 1]! = p) (h : p < q) : stepR is k = true := by unfold stepR; rw [hq, hp]; simp [h]
theorem stepR_0 {is : List Int} {k : Nat} (h : k = 0) : stepR is k = true := by unfold stepR; simp [h]
theorem getI! {is : List Int} {k : Nat} {q : Int} (h : is[k]? = some q) : is[k]! = q := by rw [List.getElem!_eq_getElem?_getD, h]; rfl
theorem pick_mem {zs : List Cv} {q : Int} (h : hasC zs q = true) : ∃ j : Nat, zs[j]? = some (pick zs q) := by
  unfold hasC at h
  rcases idx_cases (isC q) zs with ⟨h1, _, _⟩ | ⟨j, x, hj, hx, _, h1, _, _⟩
  · rw [h1] at h; simp at h
  · exact ⟨j, by unfold pick; rw [h1, hx]; congr 1; exact (getB hx).symm⟩
theorem good_picks {zs : List Cv} {is : List Int} (h : goodAll zs) (hf : foundB zs is = true) : goodAll (picks zs is) := by
  intro k x hx
  unfold picks at hx
  rw [List.getElem?_map] at hx
  cases hq : is[k]? with
  | none => rw [hq] at hx; cases hx
  | some q =>
    rw [hq] at hx; simp at hx; subst hx
    have hh := allB_at (p := fun k => hasC zs is[k]!) hf k (List.getElem?_eq_some_iff.1 hq).1
    have hh : hasC zs is[k]! = true := hh
    rw [getI! hq] at hh
    obtain ⟨j, hj⟩ := pick_mem hh
    exact h j _ hj
theorem own_base {w : World} {b b2 n k : Nat} {e : TypeId} {v : Value} {xs : List Value} (ho : w.ownsRow b e k v n xs) (h : b2 ≤ b) : w.ownsRow b2 e k v n xs := ⟨ho.1, ho.2.imp id (fun ⟨g, cap, cur, h1, h2, r⟩ => ⟨g, cap, cur, h1, Nat.le_trans h h2, r⟩)⟩
theorem ret_vb {u : Value} {c d : Bool} (h2 : c = d) : Ending.returned (.tuple #[u, .bool c]) = .returned (.tuple #[u, .bool d]) := by rw [h2]
def ownIf (b : Bool) (w : World) (base : Nat) (v : Value) (m : Nat) (zs : List Cv) : Prop := b = true → w.ownsRow base 60 6 v m (zs.flatMap encCv)
theorem ownIf_no {b : Bool} {w : World} {base : Nat} {v : Value} {m : Nat} {zs : List Cv} (h : b = false) : ownIf b w base v m zs := by intro h2; rw [h] at h2; cases h2
theorem ret_bb {a b c d : Bool} (h1 : a = b) (h2 : c = d) : Ending.returned (.tuple #[.bool a, .bool c]) = .returned (.tuple #[.bool b, .bool d]) := by rw [h1, h2]

theorem coverAt1_any (B : Nat) (s : Int) (x : Cv) (W : World) (hc : W.cell? ⟨B, 0, none⟩ = some (.int .i64 s)) (hB : B < W.heap.size) :
    Calls Try.prog 85 #[.agg #[.int .i64 x.i, .int .i64 x.w, .int .i64 x.s, .int .i64 x.e, .int .i64 x.n, .int .i64 x.p], .pointer (some ⟨B, 0, none⟩)] W fun e w' => e = .returned (.bool (isC s x)) ∧ Below W.heap.size W w' := by
  go_enter Try.func85, Try.ntmps85
  go_wp2
  go_ret
  exact ⟨rfl, (Below.refl _ _).alloc (Nat.le_refl _) _⟩
set_option maxRecDepth 100000 in
theorem coverAt_any (ao : Option Addr) (n c : Nat) (zs : List Cv) (s : Int) (w : World) (hz : zs.length = n) (hn : n ≤ 1048576) (hr : Rd encCv 6 w.heap.size w ao zs) :
    Calls Try.prog 53 #[.slice ao n c, .int .i64 s] w fun e w' => e = .returned (.int .i64 (idxB (isC s) zs)) ∧ Below w.heap.size w w' := by
  have eg : ∀ args w, (callFunc 85 args).run Try.prog w = .ok (.enter 85 args) w := enters_at Try.func85 (by kernel_rfl) rfl
  have H := hide (IndexFuncCover_any 85 #[.pointer (some ⟨w.heap.size, 0, none⟩)] (isC s) eg ao n c zs (w.alloc (.cells #[.int .i64 s] 3)) hz hn ((hr.alloc _).mono (by simp)) (fun W x hb => by
    have hB : w.heap.size < W.heap.size := by have := hb.size; simp at this; omega
    exact coverAt1_any w.heap.size s x W ((hb.cell (p := ⟨w.heap.size, 0, none⟩) (by simp)).trans (by simp)) hB))
  clear hz hr eg
  go_enter Try.func53, Try.ntmps53
  go_wp2_with fail
  refine H.out.mono ?_
  rintro e w' ⟨rfl, hb⟩
  go_wp2
  go_ret
  exact ⟨rfl, ((Below.refl _ w).alloc (Nat.le_refl _) _).trans (hb.mono (by simp))⟩
set_option maxRecDepth 100000 in
theorem l12Find_any (ao : Option Addr) (n c : Nat) (zs : List Cv) (s : Int) (w : World) (hz : zs.length = n) (hn : n ≤ 1048576) (hr : Rd encCv 6 w.heap.size w ao zs) :
    Calls Try.prog 49 #[.slice ao n c, .int .i64 s] w fun e w' => e = .returned (.int .i64 (idxB (isC s) zs)) ∧ w = w' := by
  have HZ := hide hz
  have HR := hide hr
  clear hz hr
  go_enter Try.func49, Try.ntmps49
  go_wp2
  go_loopg [5] n (fun gk i wr => ∃ k : Nat, k ≤ n ∧ n - k ≤ gk ∧ i = .int .i64 k ∧ w = wr ∧ Aside (∀ j, j < k → ∀ y, zs[j]? = some y → isC s y = false))
  case atStart => exact ⟨0, Nat.zero_le _, by omega, rfl, rfl, fun j hj => absurd hj (Nat.not_lt_zero _)⟩
  case round =>
    obtain ⟨k, hk, hg, rfl, rfl, A⟩ := hrel
    by_cases hlt : k < n
    · have hltz : (k : Int) < (n : Int) := by omega
      obtain ⟨b, off, rfl, hb1, hat⟩ := rdCv HR.out (by rw [HZ.out]; omega)
      obtain ⟨x, hx, hxc⟩ := hat k (by rw [HZ.out]; exact hlt)
      have HX := hide hx
      obtain ⟨hbr, c0, c1, c2, c3, c4, c5⟩ := hxc w (Below.refl _ _)
      clear hx hxc hat
      cases hq : (x.i == s) with
      | true =>
        go_wp2
        go_ret
        exact ⟨ret_int (idx_hit (p := isC s) HX.out hq A.out).1.symm, rfl⟩
      | false =>
        go_wp2
        go_roundg (n - (k + 1))
        case measure => omega
        case rel => exact ⟨k + 1, by omega, by omega, by go_num, rfl, none_succ (p := isC s) A.out HX.out hq⟩
    · have hltz : ¬ (k : Int) < (n : Int) := by omega
      go_wp2
      go_ret
      exact ⟨ret_int (idx_miss fun j y hy => A.out j (by have := (List.getElem?_eq_some_iff.1 hy).1; rw [HZ.out] at this; omega) y hy).1.symm, rfl⟩
set_option maxRecDepth 100000 in
theorem isRising_any (io : Option Addr) (m d : Nat) (is : List Int) (w : World) (hzi : is.length = m) (hm : m ≤ 1048576) (hri : Rd encI 1 w.heap.size w io is) :
    Calls Try.prog 60 #[.slice io m d] w fun e w' => e = .returned (.bool (risB is)) ∧ Below w.heap.size w w' := by
  have HZI := hide hzi
  have HRI := hide hri
  clear hzi hri
  go_enter Try.func60, Try.ntmps60
  go_wp2
  go_loopg [3] (m + 1) (fun gk i wr => ∃ k : Nat, 1 ≤ k ∧ k ≤ m + 1 ∧ m + 1 - k ≤ gk ∧ i = .int .i64 k ∧ Aside (Below w.heap.size w wr) ∧ Aside (∀ j, j < k → stepR is j = true))
  case atStart => exact ⟨1, Nat.le_refl _, by omega, by omega, rfl, Below.refl _ _, fun j hj => stepR_0 (by omega)⟩
  case round =>
    obtain ⟨k, hk1, hk, hg, rfl, BW, A⟩ := hrel
    by_cases hlt : k < m
    · have hltz : (k : Int) < (m : Int) := by omega
      have hk0 : (0 : Int) ≤ (k : Int) := by omega
      obtain ⟨b, off, rfl, hb1, hat⟩ := rdI HRI.out (by rw [HZI.out]; omega)
      obtain ⟨q, hq, hqc⟩ := hat k (by rw [HZI.out]; exact hlt)
      obtain ⟨p, hp, hpc⟩ := hat (k - 1) (by rw [HZI.out]; omega)
      obtain ⟨hbr, c0⟩ := hqc wr BW.out
      obtain ⟨_, p0⟩ := hpc wr BW.out
      have HQ := hide (getI! hq)
      have HP := hide (getI! hp)
      have k3 : (0 : Int) ≤ (k : Int) - 1 := by omega
      have k4 : (k : Int) - 1 < (m : Int) := by omega
      have k5 : IntKind.i64.wrap ((k : Int) - 1) = (k : Int) - 1 := IntWalk.i64_in _ (by omega)
      have k6 : ((k : Int) - 1).toNat = k - 1 := by omega
      clear hq hp hqc hpc hat
      by_cases hle : q ≤ p
      · have HF := hide (ris_bad HZI.out hlt (stepR_no HQ.out HP.out (by omega) hle))
        go_wp2_with fail
        go_quiet (fail)
        go_wp2
        go_ret
        exact ⟨ret_bool HF.out.symm, below_drewN BW.out _⟩
      · have HT := hide (stepR_yes HQ.out HP.out (Int.not_le.1 hle))
        go_wp2_with fail
        go_quiet (fail)
        go_wp2
        go_roundg (m + 1 - (k + 1))
        case measure => omega
        case rel => exact ⟨k + 1, by omega, by omega, by omega, by go_num, below_drewN BW.out _, upto_succ A.out HT.out⟩
    · have hltz : ¬ (k : Int) < (m : Int) := by omega
      have HT := hide (ris_end HZI.out A.out (by omega : m ≤ k))
      go_wp2
      go_ret
      exact ⟨ret_bool HT.out.symm, BW.out⟩

set_option maxRecDepth 100000 in
set_option maxHeartbeats 1000000 in
theorem some_any (ao : Option Addr) (n c : Nat) (zs : List Cv) (io : Option Addr) (m d : Nat) (is : List Int) (w : World) (hz : zs.length = n) (hn : n ≤ 1048576) (hr : Rd encCv 6 w.heap.size w ao zs) (hzi : is.length = m) (hm : m ≤ 1048576) (hri : Rd encI 1 w.heap.size w io is) :
    Calls Try.prog 59 #[.slice ao n c, .slice io m d] w fun e w' => ∃ v, e = .returned (.tuple #[v, .bool (foundB zs is)]) ∧ w'.ownsRow w.heap.size 60 6 v (someL zs is).length ((someL zs is).flatMap encCv) ∧ Below w.heap.size w w' := by
  have HZ := hide hz
  have HR := hide hr
  have HZI := hide hzi
  have HRI := hide hri
  clear hz hr hzi hri
  obtain ⟨i0, hi, hz0, hz1, hz2⟩ := info_parts infoCv
  have HI := hide (And.intro hi (And.intro hz0 (And.intro hz1 hz2)))
  clear hi hz0 hz1 hz2
  go_enter Try.func59, Try.ntmps59
  go_wp2
  go_loopg [6, 8, 9, 12] m (fun gk v _ _ i wr => ∃ k : Nat, k ≤ m ∧ m - k ≤ gk ∧ i = .int .i64 k ∧ Aside (wr.ownsRow w.heap.size 60 6 v k ((picks zs (is.take k)).flatMap encCv)) ∧ Aside (Below w.heap.size w wr) ∧ Aside (∀ j, j < k → hasC zs is[j]! = true))
  case atStart => exact ⟨0, Nat.zero_le _, by omega, rfl, World.ownsRow_nil _ _ _ _, Below.refl _ _, fun j hj => absurd hj (Nat.not_lt_zero _)⟩
  case round =>
    obtain ⟨k, hk, hg, rfl, OW, BW, A⟩ := hrel
    by_cases hlt : k < m
    · have hltz : (k : Int) < (m : Int) := by omega
      have hk0 : (0 : Int) ≤ (k : Int) := by omega
      obtain ⟨b, off, rfl, hb1, hat⟩ := rdI HRI.out (by rw [HZI.out]; omega)
      obtain ⟨q, hq, hqc⟩ := hat k (by rw [HZI.out]; exact hlt)
      obtain ⟨hbr, c0⟩ := hqc wr BW.out
      have HQQ := hide hq
      have HQ := hide (getI! hq)
      have HAT := hide hat
      clear hq hqc hat
      go_wp2_with fail
      refine (coverAt_any ao n c zs q _ HZ.out hn (rd_at0 HR.out BW.out)).mono ?_
      rintro e w2 ⟨rfl, hb⟩
      have HB2 := hide (bl_step BW.out hb)
      have HO2 := hide (own_step OW.out hb)
      clear hb
      have hsz := HB2.out.size
      rcases idx_cases (isC q) zs with ⟨h1, _, _⟩ | ⟨j, x, hj, hx, hp, h1, h2, _⟩
      · have HF := hide (found_bad HZI.out hlt HQ.out h1)
        rw [h1]
        clear h1
        have HC : Hid (someL zs is = []) := hide (by unfold someL; rw [HF.out]; rfl)
        go_wp2
        go_ret2
        exact ⟨_, ret_vb HF.out.symm, by rw [HC.out]; exact World.ownsRow_nil _ _ _ _, HB2.out⟩
      · obtain ⟨b2, off2, rfl, hb2, hat2⟩ := rdCv HR.out (by omega)
        obtain ⟨x', hx', hxc'⟩ := hat2 j hj
        obtain rfl : x' = x := by rw [hx] at hx'; injection hx' with h; exact h.symm
        have HXX := hide hx
        have H1 := hide h1
        have hjn : j < n := by rw [HZ.out] at hj; exact hj
        have hji : (j : Int) < (n : Int) := by omega
        have hj0 : (0 : Int) ≤ (j : Int) := by omega
        have hj1 : ¬ (j : Int) < 0 := by omega
        have HXC := hide hxc'
        rw [h1]
        clear h1 h2 hp hx hx' hxc' hat2 hj
        obtain ⟨hbx, d0, d1, d2, d3, d4, d5⟩ := HXC.out w2 HB2.out
        have HNX := hide (picks_succ HQQ.out H1.out HXX.out)
        obtain ⟨hi, hz0, hz1, hz2⟩ := HI.out
        go_wp2_with (at_builtin; refine wpList_append_own _ rfl _ _ 26 rfl w.heap.size 60 i0 (.agg #[.int .i64 0, .int .i64 0, .int .i64 0, .int .i64 0, .int .i64 0, .int .i64 0]) 6 48 Try.underlying26 hi hz0 hz1 hz2 rfl (by decide) _ k _ rfl (HO2.out.alloc _) ⟨w2.heap.size, 0, none⟩ 1 1 [.int .i64 x'.i, .int .i64 x'.w, .int .i64 x'.s, .int .i64 x'.e, .int .i64 x'.n, .int .i64 x'.p] rfl rfl ?c1 ?c2 ?c3 ?c4 ?c5 ?_)
        case c1 => exact news_at #[.int .i64 x'.i, .int .i64 x'.w, .int .i64 x'.s, .int .i64 x'.e, .int .i64 x'.n, .int .i64 x'.p]
        case c2 => intro u hu; simp at hu; rcases hu with rfl | rfl | rfl | rfl | rfl | rfl <;> rfl
        case c3 => unfold maxLen; omega
        case c4 => omega
        case c5 => simp; omega
        intro v' w3 hown' hgrow _
        have HB3 := hide (bl_grown (HB2.out.alloc HB2.out.size _) (HO2.out.alloc _) (Nat.le_refl _) hgrow)
        have HO3 : Hid (w3.ownsRow w.heap.size 60 6 v' (k + 1) ((picks zs (is.take (k + 1))).flatMap encCv)) := hide (by rw [HNX.out, flat_snoc]; exact hown')
        clear hown' hgrow hi hz0 hz1 hz2
        go_wp2
        go_roundg (m - (k + 1))
        case measure => omega
        case rel => exact ⟨k + 1, by omega, by omega, by go_num, HO3.out, HB3.out, upto_succ A.out (by rw [HQ.out]; exact has_yes H1.out)⟩
    · have hltz : ¬ (k : Int) < (m : Int) := by omega
      obtain rfl : k = m := by omega
      have HT : Hid (is.take k = is) := hide (by rw [List.take_of_length_le (by rw [HZI.out]; exact Nat.le_refl _)])
      have HF := hide (found_end HZI.out A.out (Nat.le_refl k))
      rw [HT.out] at OW
      have HC : Hid (someL zs is = picks zs is) := hide (by unfold someL; rw [HF.out]; rfl)
      have HL : Hid ((picks zs is).length = k) := hide (by rw [picks_len, HZI.out])
      go_wp2
      go_ret2
      exact ⟨_, ret_vb HF.out.symm, by rw [HC.out, HL.out]; exact OW.out, BW.out⟩

set_option maxRecDepth 100000 in
set_option maxHeartbeats 1000000 in
theorem l12Some_any (ao : Option Addr) (n c : Nat) (zs : List Cv) (io : Option Addr) (m d : Nat) (is : List Int) (w : World) (hz : zs.length = n) (hn : n ≤ 1048576) (hr : Rd encCv 6 w.heap.size w ao zs) (hzi : is.length = m) (hm : m ≤ 1048576) (hri : Rd encI 1 w.heap.size w io is) :
    Calls Try.prog 58 #[.slice ao n c, .slice io m d] w fun e w' => ∃ v, e = .returned (.tuple #[v, .bool (foundB zs is && risB is)]) ∧ ownIf (foundB zs is && risB is) w' w.heap.size v m (picks zs is) ∧ Below w.heap.size w w' := by
  have HZ := hide hz
  have HR := hide hr
  have HZI := hide hzi
  have HRI := hide hri
  clear hz hr hzi hri
  obtain ⟨i0, hi, hz0, hz1, hz2⟩ := info_parts infoCv
  have HI := hide (And.intro hi (And.intro hz0 (And.intro hz1 hz2)))
  clear hi hz0 hz1 hz2
  go_enter Try.func58, Try.ntmps58
  go_wp2
  go_loopg [6, 7, 8] m (fun gk v i _ wr => ∃ k : Nat, k ≤ m ∧ m - k ≤ gk ∧ i = .int .i64 k ∧ Aside (wr.ownsRow w.heap.size 60 6 v k ((picks zs (is.take k)).flatMap encCv)) ∧ Aside (Below w.heap.size w wr) ∧ Aside (∀ j, j < k → hasC zs is[j]! = true) ∧ Aside (∀ j, j < k → stepR is j = true))
  case atStart => exact ⟨0, Nat.zero_le _, by omega, rfl, World.ownsRow_made _ #[] 0 (Nat.le_refl _) (by simp [maxLen]) rfl, (Below.refl _ _).alloc (Nat.le_refl _) _, fun j hj => absurd hj (Nat.not_lt_zero _), fun j hj => absurd hj (Nat.not_lt_zero _)⟩
  case round =>
    obtain ⟨k, hk, hg, rfl, OW, BW, A, C⟩ := hrel
    by_cases hlt : k < m
    · have hltz : (k : Int) < (m : Int) := by omega
      have hk0 : (0 : Int) ≤ (k : Int) := by omega
      obtain ⟨b, off, rfl, hb1, hat⟩ := rdI HRI.out (by rw [HZI.out]; omega)
      obtain ⟨q, hq, hqc⟩ := hat k (by rw [HZI.out]; exact hlt)
      obtain ⟨hbr, c0⟩ := hqc wr BW.out
      have HQQ := hide hq
      have HQ := hide (getI! hq)
      have HAT := hide hat
      clear hq hqc hat
      go_wp2_with fail
      refine (l12Find_any ao n c zs q _ HZ.out hn (rd_at0 HR.out BW.out)).mono ?_
      rintro e w2 ⟨rfl, hww⟩
      obtain ⟨W, hW⟩ : ∃ W, W = wr := ⟨_, rfl⟩
      subst hW
      subst hww
      have HB2 := hide BW.out
      have HO2 := hide OW.out
      have hsz := HB2.out.size
      rcases idx_cases (isC q) zs with ⟨h1, _, _⟩ | ⟨j, x, hj, hx, hp, h1, h2, _⟩
      · have HF := hide (found_bad HZI.out hlt HQ.out h1)
        rw [h1]
        clear h1
        have HG : Hid ((foundB zs is && risB is) = false) := hide (by rw [HF.out]; rfl)
        go_wp2_with fail
        refine wp_region_held_drew (S := fun w' => w'.cell? ⟨b, off + k, none⟩ = some (.int .i64 q) ∧ Below W.heap.size W w') (by kernel_rfl) ⟨c0, (Below.refl _ _).drew⟩ (fun hHeld => ?_)
        first
          | (refine held_skip 0 22 rfl (by kernel_rfl) (by kernel_rfl) (by kernel_rfl) rfl (fun _ _ _ h => h) (by rfl) (by assumption) ?_)
          | (refine held_take 0 22 ?vv69 rfl (by kernel_rfl) (by kernel_rfl) (by kernel_rfl) rfl (fun _ _ _ h => h) (by rfl) ?hy69 (by assumption) ?rest69
             case hy69 => (intro w hSw; (try dsimp only at hSw); go_simp; try with_reducible rfl))
        try simp only [Act.put, List.setIfInBounds_toArray, List.set_cons_zero, List.set_cons_succ]
        first
          | (refine held_skip 1 23 rfl (by kernel_rfl) (by kernel_rfl) (by kernel_rfl) rfl (fun _ _ _ h => h) (by rfl) (by assumption) ?_)
          | (refine held_take 1 23 ?vv70 rfl (by kernel_rfl) (by kernel_rfl) (by kernel_rfl) rfl (fun _ _ _ h => h) (by rfl) ?hy70 (by assumption) ?rest70
             case hy70 => (intro w hSw; (try dsimp only at hSw); go_simp; try with_reducible rfl))
        try simp only [Act.put, List.setIfInBounds_toArray, List.set_cons_zero, List.set_cons_succ]
        first
          | (refine held_skip 2 24 rfl (by kernel_rfl) (by kernel_rfl) (by kernel_rfl) rfl (fun _ _ _ h => h) (by rfl) (by assumption) ?_)
          | (refine held_take 2 24 ?vv71 rfl (by kernel_rfl) (by kernel_rfl) (by kernel_rfl) rfl (fun _ _ _ h => h) (by rfl) ?hy71 (by assumption) ?rest71
             case hy71 => (intro w hSw; (try dsimp only at hSw); go_simp; try with_reducible rfl))
        try simp only [Act.put, List.setIfInBounds_toArray, List.set_cons_zero, List.set_cons_succ]
        first
          | (refine held_skip 3 25 rfl (by kernel_rfl) (by kernel_rfl) (by kernel_rfl) rfl (fun _ _ _ h => h) (by rfl) (by assumption) ?_)
          | (refine held_take 3 25 ?vv72 rfl (by kernel_rfl) (by kernel_rfl) (by kernel_rfl) rfl (fun _ _ _ h => h) (by rfl) ?hy72 (by assumption) ?rest72
             case hy72 => (intro w hSw; (try dsimp only at hSw); go_simp; try with_reducible rfl))
        try simp only [Act.put, List.setIfInBounds_toArray, List.set_cons_zero, List.set_cons_succ]
        first
          | (refine held_skip 4 26 rfl (by kernel_rfl) (by kernel_rfl) (by kernel_rfl) rfl (fun _ _ _ h => h) (by rfl) (by assumption) ?_)
          | (refine held_take 4 26 ?vv73 rfl (by kernel_rfl) (by kernel_rfl) (by kernel_rfl) rfl (fun _ _ _ h => h) (by rfl) ?hy73 (by assumption) ?rest73
             case hy73 => (intro w hSw; (try dsimp only at hSw); go_simp; try with_reducible rfl))
        try simp only [Act.put, List.setIfInBounds_toArray, List.set_cons_zero, List.set_cons_succ]
        first
          | (refine held_skip 5 27 rfl (by kernel_rfl) (by kernel_rfl) (by kernel_rfl) rfl (fun _ _ _ h => h) (by rfl) (by assumption) ?_)
          | (refine held_take 5 27 ?vv74 rfl (by kernel_rfl) (by kernel_rfl) (by kernel_rfl) rfl (fun _ _ _ h => h) (by rfl) ?hy74 (by assumption) ?rest74
             case hy74 => (intro w hSw; (try dsimp only at hSw); go_simp; try with_reducible rfl))
        try simp only [Act.put, List.setIfInBounds_toArray, List.set_cons_zero, List.set_cons_succ]
        first
          | (refine held_skip 6 28 rfl (by kernel_rfl) (by kernel_rfl) (by kernel_rfl) rfl (fun _ _ _ h => h) (by rfl) (by assumption) ?_)
          | (refine held_take 6 28 ?vv75 rfl (by kernel_rfl) (by kernel_rfl) (by kernel_rfl) rfl (fun _ _ _ h => h) (by rfl) ?hy75 (by assumption) ?rest75
             case hy75 => (intro w hSw; (try dsimp only at hSw); go_simp; try with_reducible rfl))
        try simp only [Act.put, List.setIfInBounds_toArray, List.set_cons_zero, List.set_cons_succ]
        first
          | (refine held_skip 7 29 rfl (by kernel_rfl) (by kernel_rfl) (by kernel_rfl) rfl (fun _ _ _ h => h) (by rfl) (by assumption) ?_)
          | (refine held_take 7 29 ?vv76 rfl (by kernel_rfl) (by kernel_rfl) (by kernel_rfl) rfl (fun _ _ _ h => h) (by rfl) ?hy76 (by assumption) ?rest76
             case hy76 => (intro w hSw; (try dsimp only at hSw); go_simp; try with_reducible rfl))
        try simp only [Act.put, List.setIfInBounds_toArray, List.set_cons_zero, List.set_cons_succ]
        first
          | (refine held_skip 8 30 rfl (by kernel_rfl) (by kernel_rfl) (by kernel_rfl) rfl (fun _ _ _ h => h) (by rfl) (by assumption) ?_)
          | (refine held_take 8 30 ?vv77 rfl (by kernel_rfl) (by kernel_rfl) (by kernel_rfl) rfl (fun _ _ _ h => h) (by rfl) ?hy77 (by assumption) ?rest77
             case hy77 => (intro w hSw; (try dsimp only at hSw); go_simp; try with_reducible rfl))
        try simp only [Act.put, List.setIfInBounds_toArray, List.set_cons_zero, List.set_cons_succ]
        first
          | (refine held_skip 9 31 rfl (by kernel_rfl) (by kernel_rfl) (by kernel_rfl) rfl (fun _ _ _ h => h) (by rfl) (by assumption) ?_)
          | (refine held_take 9 31 ?vv78 rfl (by kernel_rfl) (by kernel_rfl) (by kernel_rfl) rfl (fun _ _ _ h => h) (by rfl) ?hy78 (by assumption) ?rest78
             case hy78 => (intro w hSw; (try dsimp only at hSw); go_simp; try with_reducible rfl))
        try simp only [Act.put, List.setIfInBounds_toArray, List.set_cons_zero, List.set_cons_succ]
        first
          | (refine held_skip 10 32 rfl (by kernel_rfl) (by kernel_rfl) (by kernel_rfl) rfl (fun _ _ _ h => h) (by rfl) (by assumption) ?_)
          | (refine held_take 10 32 ?vv79 rfl (by kernel_rfl) (by kernel_rfl) (by kernel_rfl) rfl (fun _ _ _ h => h) (by rfl) ?hy79 (by assumption) ?rest79
             case hy79 => (intro w hSw; (try dsimp only at hSw); go_simp; try with_reducible rfl))
        try simp only [Act.put, List.setIfInBounds_toArray, List.set_cons_zero, List.set_cons_succ]
        first
          | (refine held_skip 11 33 rfl (by kernel_rfl) (by kernel_rfl) (by kernel_rfl) rfl (fun _ _ _ h => h) (by rfl) (by assumption) ?_)
          | (refine held_take 11 33 ?vv80 rfl (by kernel_rfl) (by kernel_rfl) (by kernel_rfl) rfl (fun _ _ _ h => h) (by rfl) ?hy80 (by assumption) ?rest80
             case hy80 => (intro w hSw; (try dsimp only at hSw); go_simp; try with_reducible rfl))
        try simp only [Act.put, List.setIfInBounds_toArray, List.set_cons_zero, List.set_cons_succ]
        first
          | (refine held_skip 12 34 rfl (by kernel_rfl) (by kernel_rfl) (by kernel_rfl) rfl (fun _ _ _ h => h) (by rfl) (by assumption) ?_)
          | (refine held_take 12 34 ?vv81 rfl (by kernel_rfl) (by kernel_rfl) (by kernel_rfl) rfl (fun _ _ _ h => h) (by rfl) ?hy81 (by assumption) ?rest81
             case hy81 => (intro w hSw; (try dsimp only at hSw); go_simp; try with_reducible rfl))
        try simp only [Act.put, List.setIfInBounds_toArray, List.set_cons_zero, List.set_cons_succ]
        first
          | (refine held_skip 13 35 rfl (by kernel_rfl) (by kernel_rfl) (by kernel_rfl) rfl (fun _ _ _ h => h) (by rfl) (by assumption) ?_)
          | (refine held_take 13 35 ?vv82 rfl (by kernel_rfl) (by kernel_rfl) (by kernel_rfl) rfl (fun _ _ _ h => h) (by rfl) ?hy82 (by assumption) ?rest82
             case hy82 => (intro w hSw; (try dsimp only at hSw); go_simp; try with_reducible rfl))
        try simp only [Act.put, List.setIfInBounds_toArray, List.set_cons_zero, List.set_cons_succ]
        first
          | (refine held_skip 14 36 rfl (by kernel_rfl) (by kernel_rfl) (by kernel_rfl) rfl (fun _ _ _ h => h) (by rfl) (by assumption) ?_)
          | (refine held_take 14 36 ?vv83 rfl (by kernel_rfl) (by kernel_rfl) (by kernel_rfl) rfl (fun _ _ _ h => h) (by rfl) ?hy83 (by assumption) ?rest83
             case hy83 => (intro w hSw; (try dsimp only at hSw); go_simp; try with_reducible rfl))
        try simp only [Act.put, List.setIfInBounds_toArray, List.set_cons_zero, List.set_cons_succ]
        first
          | (refine held_skip 15 37 rfl (by kernel_rfl) (by kernel_rfl) (by kernel_rfl) rfl (fun _ _ _ h => h) (by rfl) (by assumption) ?_)
          | (refine held_take 15 37 ?vv84 rfl (by kernel_rfl) (by kernel_rfl) (by kernel_rfl) rfl (fun _ _ _ h => h) (by rfl) ?hy84 (by assumption) ?rest84
             case hy84 => (intro w hSw; (try dsimp only at hSw); go_simp; try with_reducible rfl))
        try simp only [Act.put, List.setIfInBounds_toArray, List.set_cons_zero, List.set_cons_succ]
        first
          | (refine held_skip 16 38 rfl (by kernel_rfl) (by kernel_rfl) (by kernel_rfl) rfl (fun _ _ _ h => h) (by rfl) (by assumption) ?_)
          | (refine held_take 16 38 ?vv85 rfl (by kernel_rfl) (by kernel_rfl) (by kernel_rfl) rfl (fun _ _ _ h => h) (by rfl) ?hy85 (by assumption) ?rest85
             case hy85 => (intro w hSw; (try dsimp only at hSw); go_simp; try with_reducible rfl))
        try simp only [Act.put, List.setIfInBounds_toArray, List.set_cons_zero, List.set_cons_succ]
        first
          | (refine held_skip 17 39 rfl (by kernel_rfl) (by kernel_rfl) (by kernel_rfl) rfl (fun _ _ _ h => h) (by rfl) (by assumption) ?_)
          | (refine held_take 17 39 ?vv86 rfl (by kernel_rfl) (by kernel_rfl) (by kernel_rfl) rfl (fun _ _ _ h => h) (by rfl) ?hy86 (by assumption) ?rest86
             case hy86 => (intro w hSw; (try dsimp only at hSw); go_simp; try with_reducible rfl))
        try simp only [Act.put, List.setIfInBounds_toArray, List.set_cons_zero, List.set_cons_succ]
        refine wpAnyH_done (by kernel_rfl) ?_ _
        clear hHeld
        go_wp2
        go_ret2
        exact ⟨_, ret_vb HG.out.symm, ownIf_no HG.out, HB2.out.drew⟩
      · obtain ⟨b2, off2, rfl, hb2, hat2⟩ := rdCv HR.out (by omega)
        obtain ⟨x', hx', hxc'⟩ := hat2 j hj
        obtain rfl : x' = x := by rw [hx] at hx'; injection hx' with h; exact h.symm
        have HXX := hide hx
        have H1 := hide h1
        have hjn : j < n := by rw [HZ.out] at hj; exact hj
        have hji : (j : Int) < (n : Int) := by omega
        have hj0 : (0 : Int) ≤ (j : Int) := by omega
        have hj1 : ¬ (j : Int) < 0 := by omega
        have HXC := hide hxc'
        rw [h1]
        clear h1 h2 hp hx hx' hxc' hat2 hj
        by_cases hk00 : k = 0
        · have k1 : decide (0 < k) = false := by simp [hk00]
          have HST := hide (stepR_0 (is := is) hk00)
          clear hk00
          go_wp2_with fail
          refine wp_region_held_drew (S := fun w' => w'.cell? ⟨b, off + k, none⟩ = some (.int .i64 q) ∧ Below W.heap.size W w') (by kernel_rfl) ⟨c0, (Below.refl _ _).drew⟩ (fun hHeld => ?_)
          first
            | (refine held_skip 0 22 rfl (by kernel_rfl) (by kernel_rfl) (by kernel_rfl) rfl (fun _ _ _ h => h) (by rfl) (by assumption) ?_)
            | (refine held_take 0 22 ?vv87 rfl (by kernel_rfl) (by kernel_rfl) (by kernel_rfl) rfl (fun _ _ _ h => h) (by rfl) ?hy87 (by assumption) ?rest87
               case hy87 => (intro w hSw; (try dsimp only at hSw); go_simp; try with_reducible rfl))
          try simp only [Act.put, List.setIfInBounds_toArray, List.set_cons_zero, List.set_cons_succ]
          first
            | (refine held_skip 1 23 rfl (by kernel_rfl) (by kernel_rfl) (by kernel_rfl) rfl (fun _ _ _ h => h) (by rfl) (by assumption) ?_)
            | (refine held_take 1 23 ?vv88 rfl (by kernel_rfl) (by kernel_rfl) (by kernel_rfl) rfl (fun _ _ _ h => h) (by rfl) ?hy88 (by assumption) ?rest88
               case hy88 => (intro w hSw; (try dsimp only at hSw); go_simp; try with_reducible rfl))
          try simp only [Act.put, List.setIfInBounds_toArray, List.set_cons_zero, List.set_cons_succ]
          first
            | (refine held_skip 2 24 rfl (by kernel_rfl) (by kernel_rfl) (by kernel_rfl) rfl (fun _ _ _ h => h) (by rfl) (by assumption) ?_)
            | (refine held_take 2 24 ?vv89 rfl (by kernel_rfl) (by kernel_rfl) (by kernel_rfl) rfl (fun _ _ _ h => h) (by rfl) ?hy89 (by assumption) ?rest89
               case hy89 => (intro w hSw; (try dsimp only at hSw); go_simp; try with_reducible rfl))
          try simp only [Act.put, List.setIfInBounds_toArray, List.set_cons_zero, List.set_cons_succ]
          first
            | (refine held_skip 3 25 rfl (by kernel_rfl) (by kernel_rfl) (by kernel_rfl) rfl (fun _ _ _ h => h) (by rfl) (by assumption) ?_)
            | (refine held_take 3 25 ?vv90 rfl (by kernel_rfl) (by kernel_rfl) (by kernel_rfl) rfl (fun _ _ _ h => h) (by rfl) ?hy90 (by assumption) ?rest90
               case hy90 => (intro w hSw; (try dsimp only at hSw); go_simp; try with_reducible rfl))
          try simp only [Act.put, List.setIfInBounds_toArray, List.set_cons_zero, List.set_cons_succ]
          first
            | (refine held_skip 4 26 rfl (by kernel_rfl) (by kernel_rfl) (by kernel_rfl) rfl (fun _ _ _ h => h) (by rfl) (by assumption) ?_)
            | (refine held_take 4 26 ?vv91 rfl (by kernel_rfl) (by kernel_rfl) (by kernel_rfl) rfl (fun _ _ _ h => h) (by rfl) ?hy91 (by assumption) ?rest91
               case hy91 => (intro w hSw; (try dsimp only at hSw); go_simp; try with_reducible rfl))
          try simp only [Act.put, List.setIfInBounds_toArray, List.set_cons_zero, List.set_cons_succ]
          first
            | (refine held_skip 5 27 rfl (by kernel_rfl) (by kernel_rfl) (by kernel_rfl) rfl (fun _ _ _ h => h) (by rfl) (by assumption) ?_)
            | (refine held_take 5 27 ?vv92 rfl (by kernel_rfl) (by kernel_rfl) (by kernel_rfl) rfl (fun _ _ _ h => h) (by rfl) ?hy92 (by assumption) ?rest92
               case hy92 => (intro w hSw; (try dsimp only at hSw); go_simp; try with_reducible rfl))
          try simp only [Act.put, List.setIfInBounds_toArray, List.set_cons_zero, List.set_cons_succ]
          first
            | (refine held_skip 6 28 rfl (by kernel_rfl) (by kernel_rfl) (by kernel_rfl) rfl (fun _ _ _ h => h) (by rfl) (by assumption) ?_)
            | (refine held_take 6 28 ?vv93 rfl (by kernel_rfl) (by kernel_rfl) (by kernel_rfl) rfl (fun _ _ _ h => h) (by rfl) ?hy93 (by assumption) ?rest93
               case hy93 => (intro w hSw; (try dsimp only at hSw); go_simp; try with_reducible rfl))
          try simp only [Act.put, List.setIfInBounds_toArray, List.set_cons_zero, List.set_cons_succ]
          first
            | (refine held_skip 7 29 rfl (by kernel_rfl) (by kernel_rfl) (by kernel_rfl) rfl (fun _ _ _ h => h) (by rfl) (by assumption) ?_)
            | (refine held_take 7 29 ?vv94 rfl (by kernel_rfl) (by kernel_rfl) (by kernel_rfl) rfl (fun _ _ _ h => h) (by rfl) ?hy94 (by assumption) ?rest94
               case hy94 => (intro w hSw; (try dsimp only at hSw); go_simp; try with_reducible rfl))
          try simp only [Act.put, List.setIfInBounds_toArray, List.set_cons_zero, List.set_cons_succ]
          first
            | (refine held_skip 8 30 rfl (by kernel_rfl) (by kernel_rfl) (by kernel_rfl) rfl (fun _ _ _ h => h) (by rfl) (by assumption) ?_)
            | (refine held_take 8 30 ?vv95 rfl (by kernel_rfl) (by kernel_rfl) (by kernel_rfl) rfl (fun _ _ _ h => h) (by rfl) ?hy95 (by assumption) ?rest95
               case hy95 => (intro w hSw; (try dsimp only at hSw); go_simp; try with_reducible rfl))
          try simp only [Act.put, List.setIfInBounds_toArray, List.set_cons_zero, List.set_cons_succ]
          first
            | (refine held_skip 9 31 rfl (by kernel_rfl) (by kernel_rfl) (by kernel_rfl) rfl (fun _ _ _ h => h) (by rfl) (by assumption) ?_)
            | (refine held_take 9 31 ?vv96 rfl (by kernel_rfl) (by kernel_rfl) (by kernel_rfl) rfl (fun _ _ _ h => h) (by rfl) ?hy96 (by assumption) ?rest96
               case hy96 => (intro w hSw; (try dsimp only at hSw); go_simp; try with_reducible rfl))
          try simp only [Act.put, List.setIfInBounds_toArray, List.set_cons_zero, List.set_cons_succ]
          first
            | (refine held_skip 10 32 rfl (by kernel_rfl) (by kernel_rfl) (by kernel_rfl) rfl (fun _ _ _ h => h) (by rfl) (by assumption) ?_)
            | (refine held_take 10 32 ?vv97 rfl (by kernel_rfl) (by kernel_rfl) (by kernel_rfl) rfl (fun _ _ _ h => h) (by rfl) ?hy97 (by assumption) ?rest97
               case hy97 => (intro w hSw; (try dsimp only at hSw); go_simp; try with_reducible rfl))
          try simp only [Act.put, List.setIfInBounds_toArray, List.set_cons_zero, List.set_cons_succ]
          first
            | (refine held_skip 11 33 rfl (by kernel_rfl) (by kernel_rfl) (by kernel_rfl) rfl (fun _ _ _ h => h) (by rfl) (by assumption) ?_)
            | (refine held_take 11 33 ?vv98 rfl (by kernel_rfl) (by kernel_rfl) (by kernel_rfl) rfl (fun _ _ _ h => h) (by rfl) ?hy98 (by assumption) ?rest98
               case hy98 => (intro w hSw; (try dsimp only at hSw); go_simp; try with_reducible rfl))
          try simp only [Act.put, List.setIfInBounds_toArray, List.set_cons_zero, List.set_cons_succ]
          first
            | (refine held_skip 12 34 rfl (by kernel_rfl) (by kernel_rfl) (by kernel_rfl) rfl (fun _ _ _ h => h) (by rfl) (by assumption) ?_)
            | (refine held_take 12 34 ?vv99 rfl (by kernel_rfl) (by kernel_rfl) (by kernel_rfl) rfl (fun _ _ _ h => h) (by rfl) ?hy99 (by assumption) ?rest99
               case hy99 => (intro w hSw; (try dsimp only at hSw); go_simp; try with_reducible rfl))
          try simp only [Act.put, List.setIfInBounds_toArray, List.set_cons_zero, List.set_cons_succ]
          first
            | (refine held_skip 13 35 rfl (by kernel_rfl) (by kernel_rfl) (by kernel_rfl) rfl (fun _ _ _ h => h) (by rfl) (by assumption) ?_)
            | (refine held_take 13 35 ?vv100 rfl (by kernel_rfl) (by kernel_rfl) (by kernel_rfl) rfl (fun _ _ _ h => h) (by rfl) ?hy100 (by assumption) ?rest100
               case hy100 => (intro w hSw; (try dsimp only at hSw); go_simp; try with_reducible rfl))
          try simp only [Act.put, List.setIfInBounds_toArray, List.set_cons_zero, List.set_cons_succ]
          first
            | (refine held_skip 14 36 rfl (by kernel_rfl) (by kernel_rfl) (by kernel_rfl) rfl (fun _ _ _ h => h) (by rfl) (by assumption) ?_)
            | (refine held_take 14 36 ?vv101 rfl (by kernel_rfl) (by kernel_rfl) (by kernel_rfl) rfl (fun _ _ _ h => h) (by rfl) ?hy101 (by assumption) ?rest101
               case hy101 => (intro w hSw; (try dsimp only at hSw); go_simp; try with_reducible rfl))
          try simp only [Act.put, List.setIfInBounds_toArray, List.set_cons_zero, List.set_cons_succ]
          first
            | (refine held_skip 15 37 rfl (by kernel_rfl) (by kernel_rfl) (by kernel_rfl) rfl (fun _ _ _ h => h) (by rfl) (by assumption) ?_)
            | (refine held_take 15 37 ?vv102 rfl (by kernel_rfl) (by kernel_rfl) (by kernel_rfl) rfl (fun _ _ _ h => h) (by rfl) ?hy102 (by assumption) ?rest102
               case hy102 => (intro w hSw; (try dsimp only at hSw); go_simp; try with_reducible rfl))
          try simp only [Act.put, List.setIfInBounds_toArray, List.set_cons_zero, List.set_cons_succ]
          first
            | (refine held_skip 16 38 rfl (by kernel_rfl) (by kernel_rfl) (by kernel_rfl) rfl (fun _ _ _ h => h) (by rfl) (by assumption) ?_)
            | (refine held_take 16 38 ?vv103 rfl (by kernel_rfl) (by kernel_rfl) (by kernel_rfl) rfl (fun _ _ _ h => h) (by rfl) ?hy103 (by assumption) ?rest103
               case hy103 => (intro w hSw; (try dsimp only at hSw); go_simp; try with_reducible rfl))
          try simp only [Act.put, List.setIfInBounds_toArray, List.set_cons_zero, List.set_cons_succ]
          first
            | (refine held_skip 17 39 rfl (by kernel_rfl) (by kernel_rfl) (by kernel_rfl) rfl (fun _ _ _ h => h) (by rfl) (by assumption) ?_)
            | (refine held_take 17 39 ?vv104 rfl (by kernel_rfl) (by kernel_rfl) (by kernel_rfl) rfl (fun _ _ _ h => h) (by rfl) ?hy104 (by assumption) ?rest104
               case hy104 => (intro w hSw; (try dsimp only at hSw); go_simp; try with_reducible rfl))
          try simp only [Act.put, List.setIfInBounds_toArray, List.set_cons_zero, List.set_cons_succ]
          refine wpAnyH_done (by kernel_rfl) ?_ _
          clear hHeld
          obtain ⟨w2, hw2⟩ : ∃ w2, w2 = W.drew := ⟨_, rfl⟩
          rw [← hw2]
          have HB2 : Hid (Below w.heap.size w w2) := hide (by rw [hw2]; exact HB2.out.drew)
          have HO2 : Hid (w2.ownsRow w.heap.size 60 6 _ k ((picks zs (is.take k)).flatMap encCv)) := hide (by rw [hw2]; exact HO2.out)
          have hsz := HB2.out.size
          obtain ⟨hbx, d0, d1, d2, d3, d4, d5⟩ := HXC.out w2 HB2.out
          clear hw2
          have HNX := hide (picks_succ HQQ.out H1.out HXX.out)
          obtain ⟨hi, hz0, hz1, hz2⟩ := HI.out
          go_wp2_with (at_builtin; refine wpList_append_own _ rfl _ _ 26 rfl w.heap.size 60 i0 (.agg #[.int .i64 0, .int .i64 0, .int .i64 0, .int .i64 0, .int .i64 0, .int .i64 0]) 6 48 Try.underlying26 hi hz0 hz1 hz2 rfl (by decide) _ k _ rfl (HO2.out.alloc _) ⟨w2.heap.size, 0, none⟩ 1 1 [.int .i64 x'.i, .int .i64 x'.w, .int .i64 x'.s, .int .i64 x'.e, .int .i64 x'.n, .int .i64 x'.p] rfl rfl ?c1 ?c2 ?c3 ?c4 ?c5 ?_)
          case c1 => exact news_at #[.int .i64 x'.i, .int .i64 x'.w, .int .i64 x'.s, .int .i64 x'.e, .int .i64 x'.n, .int .i64 x'.p]
          case c2 => intro u hu; simp at hu; rcases hu with rfl | rfl | rfl | rfl | rfl | rfl <;> rfl
          case c3 => unfold maxLen; omega
          case c4 => omega
          case c5 => simp; omega
          intro v' w3 hown' hgrow _
          have HB3 := hide (bl_grown (HB2.out.alloc HB2.out.size _) (HO2.out.alloc _) (Nat.le_refl _) hgrow)
          have HO3 : Hid (w3.ownsRow w.heap.size 60 6 v' (k + 1) ((picks zs (is.take (k + 1))).flatMap encCv)) := hide (by rw [HNX.out, flat_snoc]; exact hown')
          clear hown' hgrow hi hz0 hz1 hz2
          go_wp2
          go_roundg (m - (k + 1))
          case measure => omega
          case rel => exact ⟨k + 1, by omega, by omega, by go_num, HO3.out, HB3.out, upto_succ A.out (by rw [HQ.out]; exact has_yes H1.out), upto_succ C.out HST.out⟩
        · have k1 : 0 < k := by omega
          obtain ⟨p, hp, hpc⟩ := HAT.out (k - 1) (by rw [HZI.out]; omega)
          obtain ⟨_, p0⟩ := hpc W BW.out
          have HP := hide (getI! hp)
          have k2 : (1 : Int) ≤ (k : Int) := by omega
          have k3 : (0 : Int) ≤ (k : Int) - 1 := by omega
          have k4 : (k : Int) - 1 < (m : Int) := by omega
          have k5 : IntKind.i64.wrap ((k : Int) - 1) = (k : Int) - 1 := IntWalk.i64_in _ (by omega)
          have k6 : ((k : Int) - 1).toNat = k - 1 := by omega
          clear hp hpc
          by_cases hle : q ≤ p
          · have HG : Hid ((foundB zs is && risB is) = false) := hide (by rw [ris_bad HZI.out hlt (stepR_no HQ.out HP.out k1 hle), Bool.and_false])
            go_wp2_with fail
            refine wp_region_held_drew (S := fun w' => w'.cell? ⟨b, off + k, none⟩ = some (.int .i64 q) ∧ w'.cell? ⟨b, off + (k - 1), none⟩ = some (.int .i64 p) ∧ Below W.heap.size W w') (by kernel_rfl) ⟨c0, p0, (Below.refl _ _).drew⟩ (fun hHeld => ?_)
            first
              | (refine held_skip 0 22 rfl (by kernel_rfl) (by kernel_rfl) (by kernel_rfl) rfl (fun _ _ _ h => h) (by rfl) (by assumption) ?_)
              | (refine held_take 0 22 ?vv105 rfl (by kernel_rfl) (by kernel_rfl) (by kernel_rfl) rfl (fun _ _ _ h => h) (by rfl) ?hy105 (by assumption) ?rest105
                 case hy105 => (intro w hSw; (try dsimp only at hSw); go_simp; try with_reducible rfl))
            try simp only [Act.put, List.setIfInBounds_toArray, List.set_cons_zero, List.set_cons_succ]
            first
              | (refine held_skip 1 23 rfl (by kernel_rfl) (by kernel_rfl) (by kernel_rfl) rfl (fun _ _ _ h => h) (by rfl) (by assumption) ?_)
              | (refine held_take 1 23 ?vv106 rfl (by kernel_rfl) (by kernel_rfl) (by kernel_rfl) rfl (fun _ _ _ h => h) (by rfl) ?hy106 (by assumption) ?rest106
                 case hy106 => (intro w hSw; (try dsimp only at hSw); go_simp; try with_reducible rfl))
            try simp only [Act.put, List.setIfInBounds_toArray, List.set_cons_zero, List.set_cons_succ]
            first
              | (refine held_skip 2 24 rfl (by kernel_rfl) (by kernel_rfl) (by kernel_rfl) rfl (fun _ _ _ h => h) (by rfl) (by assumption) ?_)
              | (refine held_take 2 24 ?vv107 rfl (by kernel_rfl) (by kernel_rfl) (by kernel_rfl) rfl (fun _ _ _ h => h) (by rfl) ?hy107 (by assumption) ?rest107
                 case hy107 => (intro w hSw; (try dsimp only at hSw); go_simp; try with_reducible rfl))
            try simp only [Act.put, List.setIfInBounds_toArray, List.set_cons_zero, List.set_cons_succ]
            first
              | (refine held_skip 3 25 rfl (by kernel_rfl) (by kernel_rfl) (by kernel_rfl) rfl (fun _ _ _ h => h) (by rfl) (by assumption) ?_)
              | (refine held_take 3 25 ?vv108 rfl (by kernel_rfl) (by kernel_rfl) (by kernel_rfl) rfl (fun _ _ _ h => h) (by rfl) ?hy108 (by assumption) ?rest108
                 case hy108 => (intro w hSw; (try dsimp only at hSw); go_simp; try with_reducible rfl))
            try simp only [Act.put, List.setIfInBounds_toArray, List.set_cons_zero, List.set_cons_succ]
            first
              | (refine held_skip 4 26 rfl (by kernel_rfl) (by kernel_rfl) (by kernel_rfl) rfl (fun _ _ _ h => h) (by rfl) (by assumption) ?_)
              | (refine held_take 4 26 ?vv109 rfl (by kernel_rfl) (by kernel_rfl) (by kernel_rfl) rfl (fun _ _ _ h => h) (by rfl) ?hy109 (by assumption) ?rest109
                 case hy109 => (intro w hSw; (try dsimp only at hSw); go_simp; try with_reducible rfl))
            try simp only [Act.put, List.setIfInBounds_toArray, List.set_cons_zero, List.set_cons_succ]
            first
              | (refine held_skip 5 27 rfl (by kernel_rfl) (by kernel_rfl) (by kernel_rfl) rfl (fun _ _ _ h => h) (by rfl) (by assumption) ?_)
              | (refine held_take 5 27 ?vv110 rfl (by kernel_rfl) (by kernel_rfl) (by kernel_rfl) rfl (fun _ _ _ h => h) (by rfl) ?hy110 (by assumption) ?rest110
                 case hy110 => (intro w hSw; (try dsimp only at hSw); go_simp; try with_reducible rfl))
            try simp only [Act.put, List.setIfInBounds_toArray, List.set_cons_zero, List.set_cons_succ]
            first
              | (refine held_skip 6 28 rfl (by kernel_rfl) (by kernel_rfl) (by kernel_rfl) rfl (fun _ _ _ h => h) (by rfl) (by assumption) ?_)
              | (refine held_take 6 28 ?vv111 rfl (by kernel_rfl) (by kernel_rfl) (by kernel_rfl) rfl (fun _ _ _ h => h) (by rfl) ?hy111 (by assumption) ?rest111
                 case hy111 => (intro w hSw; (try dsimp only at hSw); go_simp; try with_reducible rfl))
            try simp only [Act.put, List.setIfInBounds_toArray, List.set_cons_zero, List.set_cons_succ]
            first
              | (refine held_skip 7 29 rfl (by kernel_rfl) (by kernel_rfl) (by kernel_rfl) rfl (fun _ _ _ h => h) (by rfl) (by assumption) ?_)
              | (refine held_take 7 29 ?vv112 rfl (by kernel_rfl) (by kernel_rfl) (by kernel_rfl) rfl (fun _ _ _ h => h) (by rfl) ?hy112 (by assumption) ?rest112
                 case hy112 => (intro w hSw; (try dsimp only at hSw); go_simp; try with_reducible rfl))
            try simp only [Act.put, List.setIfInBounds_toArray, List.set_cons_zero, List.set_cons_succ]
            first
              | (refine held_skip 8 30 rfl (by kernel_rfl) (by kernel_rfl) (by kernel_rfl) rfl (fun _ _ _ h => h) (by rfl) (by assumption) ?_)
              | (refine held_take 8 30 ?vv113 rfl (by kernel_rfl) (by kernel_rfl) (by kernel_rfl) rfl (fun _ _ _ h => h) (by rfl) ?hy113 (by assumption) ?rest113
                 case hy113 => (intro w hSw; (try dsimp only at hSw); go_simp; try with_reducible rfl))
            try simp only [Act.put, List.setIfInBounds_toArray, List.set_cons_zero, List.set_cons_succ]
            first
              | (refine held_skip 9 31 rfl (by kernel_rfl) (by kernel_rfl) (by kernel_rfl) rfl (fun _ _ _ h => h) (by rfl) (by assumption) ?_)
              | (refine held_take 9 31 ?vv114 rfl (by kernel_rfl) (by kernel_rfl) (by kernel_rfl) rfl (fun _ _ _ h => h) (by rfl) ?hy114 (by assumption) ?rest114
                 case hy114 => (intro w hSw; (try dsimp only at hSw); go_simp; try with_reducible rfl))
            try simp only [Act.put, List.setIfInBounds_toArray, List.set_cons_zero, List.set_cons_succ]
            first
              | (refine held_skip 10 32 rfl (by kernel_rfl) (by kernel_rfl) (by kernel_rfl) rfl (fun _ _ _ h => h) (by rfl) (by assumption) ?_)
              | (refine held_take 10 32 ?vv115 rfl (by kernel_rfl) (by kernel_rfl) (by kernel_rfl) rfl (fun _ _ _ h => h) (by rfl) ?hy115 (by assumption) ?rest115
                 case hy115 => (intro w hSw; (try dsimp only at hSw); go_simp; try with_reducible rfl))
            try simp only [Act.put, List.setIfInBounds_toArray, List.set_cons_zero, List.set_cons_succ]
            first
              | (refine held_skip 11 33 rfl (by kernel_rfl) (by kernel_rfl) (by kernel_rfl) rfl (fun _ _ _ h => h) (by rfl) (by assumption) ?_)
              | (refine held_take 11 33 ?vv116 rfl (by kernel_rfl) (by kernel_rfl) (by kernel_rfl) rfl (fun _ _ _ h => h) (by rfl) ?hy116 (by assumption) ?rest116
                 case hy116 => (intro w hSw; (try dsimp only at hSw); go_simp; try with_reducible rfl))
            try simp only [Act.put, List.setIfInBounds_toArray, List.set_cons_zero, List.set_cons_succ]
            first
              | (refine held_skip 12 34 rfl (by kernel_rfl) (by kernel_rfl) (by kernel_rfl) rfl (fun _ _ _ h => h) (by rfl) (by assumption) ?_)
              | (refine held_take 12 34 ?vv117 rfl (by kernel_rfl) (by kernel_rfl) (by kernel_rfl) rfl (fun _ _ _ h => h) (by rfl) ?hy117 (by assumption) ?rest117
                 case hy117 => (intro w hSw; (try dsimp only at hSw); go_simp; try with_reducible rfl))
            try simp only [Act.put, List.setIfInBounds_toArray, List.set_cons_zero, List.set_cons_succ]
            first
              | (refine held_skip 13 35 rfl (by kernel_rfl) (by kernel_rfl) (by kernel_rfl) rfl (fun _ _ _ h => h) (by rfl) (by assumption) ?_)
              | (refine held_take 13 35 ?vv118 rfl (by kernel_rfl) (by kernel_rfl) (by kernel_rfl) rfl (fun _ _ _ h => h) (by rfl) ?hy118 (by assumption) ?rest118
                 case hy118 => (intro w hSw; (try dsimp only at hSw); go_simp; try with_reducible rfl))
            try simp only [Act.put, List.setIfInBounds_toArray, List.set_cons_zero, List.set_cons_succ]
            first
              | (refine held_skip 14 36 rfl (by kernel_rfl) (by kernel_rfl) (by kernel_rfl) rfl (fun _ _ _ h => h) (by rfl) (by assumption) ?_)
              | (refine held_take 14 36 ?vv119 rfl (by kernel_rfl) (by kernel_rfl) (by kernel_rfl) rfl (fun _ _ _ h => h) (by rfl) ?hy119 (by assumption) ?rest119
                 case hy119 => (intro w hSw; (try dsimp only at hSw); go_simp; try with_reducible rfl))
            try simp only [Act.put, List.setIfInBounds_toArray, List.set_cons_zero, List.set_cons_succ]
            first
              | (refine held_skip 15 37 rfl (by kernel_rfl) (by kernel_rfl) (by kernel_rfl) rfl (fun _ _ _ h => h) (by rfl) (by assumption) ?_)
              | (refine held_take 15 37 ?vv120 rfl (by kernel_rfl) (by kernel_rfl) (by kernel_rfl) rfl (fun _ _ _ h => h) (by rfl) ?hy120 (by assumption) ?rest120
                 case hy120 => (intro w hSw; (try dsimp only at hSw); go_simp; try with_reducible rfl))
            try simp only [Act.put, List.setIfInBounds_toArray, List.set_cons_zero, List.set_cons_succ]
            first
              | (refine held_skip 16 38 rfl (by kernel_rfl) (by kernel_rfl) (by kernel_rfl) rfl (fun _ _ _ h => h) (by rfl) (by assumption) ?_)
              | (refine held_take 16 38 ?vv121 rfl (by kernel_rfl) (by kernel_rfl) (by kernel_rfl) rfl (fun _ _ _ h => h) (by rfl) ?hy121 (by assumption) ?rest121
                 case hy121 => (intro w hSw; (try dsimp only at hSw); go_simp; try with_reducible rfl))
            try simp only [Act.put, List.setIfInBounds_toArray, List.set_cons_zero, List.set_cons_succ]
            first
              | (refine held_skip 17 39 rfl (by kernel_rfl) (by kernel_rfl) (by kernel_rfl) rfl (fun _ _ _ h => h) (by rfl) (by assumption) ?_)
              | (refine held_take 17 39 ?vv122 rfl (by kernel_rfl) (by kernel_rfl) (by kernel_rfl) rfl (fun _ _ _ h => h) (by rfl) ?hy122 (by assumption) ?rest122
                 case hy122 => (intro w hSw; (try dsimp only at hSw); go_simp; try with_reducible rfl))
            try simp only [Act.put, List.setIfInBounds_toArray, List.set_cons_zero, List.set_cons_succ]
            refine wpAnyH_done (by kernel_rfl) ?_ _
            clear hHeld
            go_wp2
            go_ret2
            exact ⟨_, ret_vb HG.out.symm, ownIf_no HG.out, HB2.out.drew⟩
          · have HST := hide (stepR_yes HQ.out HP.out (Int.not_le.1 hle))
            go_wp2_with fail
            refine wp_region_held_drew (S := fun w' => w'.cell? ⟨b, off + k, none⟩ = some (.int .i64 q) ∧ w'.cell? ⟨b, off + (k - 1), none⟩ = some (.int .i64 p) ∧ Below W.heap.size W w') (by kernel_rfl) ⟨c0, p0, (Below.refl _ _).drew⟩ (fun hHeld => ?_)
            first
              | (refine held_skip 0 22 rfl (by kernel_rfl) (by kernel_rfl) (by kernel_rfl) rfl (fun _ _ _ h => h) (by rfl) (by assumption) ?_)
              | (refine held_take 0 22 ?vv123 rfl (by kernel_rfl) (by kernel_rfl) (by kernel_rfl) rfl (fun _ _ _ h => h) (by rfl) ?hy123 (by assumption) ?rest123
                 case hy123 => (intro w hSw; (try dsimp only at hSw); go_simp; try with_reducible rfl))
            try simp only [Act.put, List.setIfInBounds_toArray, List.set_cons_zero, List.set_cons_succ]
            first
              | (refine held_skip 1 23 rfl (by kernel_rfl) (by kernel_rfl) (by kernel_rfl) rfl (fun _ _ _ h => h) (by rfl) (by assumption) ?_)
              | (refine held_take 1 23 ?vv124 rfl (by kernel_rfl) (by kernel_rfl) (by kernel_rfl) rfl (fun _ _ _ h => h) (by rfl) ?hy124 (by assumption) ?rest124
                 case hy124 => (intro w hSw; (try dsimp only at hSw); go_simp; try with_reducible rfl))
            try simp only [Act.put, List.setIfInBounds_toArray, List.set_cons_zero, List.set_cons_succ]
            first
              | (refine held_skip 2 24 rfl (by kernel_rfl) (by kernel_rfl) (by kernel_rfl) rfl (fun _ _ _ h => h) (by rfl) (by assumption) ?_)
              | (refine held_take 2 24 ?vv125 rfl (by kernel_rfl) (by kernel_rfl) (by kernel_rfl) rfl (fun _ _ _ h => h) (by rfl) ?hy125 (by assumption) ?rest125
                 case hy125 => (intro w hSw; (try dsimp only at hSw); go_simp; try with_reducible rfl))
            try simp only [Act.put, List.setIfInBounds_toArray, List.set_cons_zero, List.set_cons_succ]
            first
              | (refine held_skip 3 25 rfl (by kernel_rfl) (by kernel_rfl) (by kernel_rfl) rfl (fun _ _ _ h => h) (by rfl) (by assumption) ?_)
              | (refine held_take 3 25 ?vv126 rfl (by kernel_rfl) (by kernel_rfl) (by kernel_rfl) rfl (fun _ _ _ h => h) (by rfl) ?hy126 (by assumption) ?rest126
                 case hy126 => (intro w hSw; (try dsimp only at hSw); go_simp; try with_reducible rfl))
            try simp only [Act.put, List.setIfInBounds_toArray, List.set_cons_zero, List.set_cons_succ]
            first
              | (refine held_skip 4 26 rfl (by kernel_rfl) (by kernel_rfl) (by kernel_rfl) rfl (fun _ _ _ h => h) (by rfl) (by assumption) ?_)
              | (refine held_take 4 26 ?vv127 rfl (by kernel_rfl) (by kernel_rfl) (by kernel_rfl) rfl (fun _ _ _ h => h) (by rfl) ?hy127 (by assumption) ?rest127
                 case hy127 => (intro w hSw; (try dsimp only at hSw); go_simp; try with_reducible rfl))
            try simp only [Act.put, List.setIfInBounds_toArray, List.set_cons_zero, List.set_cons_succ]
            first
              | (refine held_skip 5 27 rfl (by kernel_rfl) (by kernel_rfl) (by kernel_rfl) rfl (fun _ _ _ h => h) (by rfl) (by assumption) ?_)
              | (refine held_take 5 27 ?vv128 rfl (by kernel_rfl) (by kernel_rfl) (by kernel_rfl) rfl (fun _ _ _ h => h) (by rfl) ?hy128 (by assumption) ?rest128
                 case hy128 => (intro w hSw; (try dsimp only at hSw); go_simp; try with_reducible rfl))
            try simp only [Act.put, List.setIfInBounds_toArray, List.set_cons_zero, List.set_cons_succ]
            first
              | (refine held_skip 6 28 rfl (by kernel_rfl) (by kernel_rfl) (by kernel_rfl) rfl (fun _ _ _ h => h) (by rfl) (by assumption) ?_)
              | (refine held_take 6 28 ?vv129 rfl (by kernel_rfl) (by kernel_rfl) (by kernel_rfl) rfl (fun _ _ _ h => h) (by rfl) ?hy129 (by assumption) ?rest129
                 case hy129 => (intro w hSw; (try dsimp only at hSw); go_simp; try with_reducible rfl))
            try simp only [Act.put, List.setIfInBounds_toArray, List.set_cons_zero, List.set_cons_succ]
            first
              | (refine held_skip 7 29 rfl (by kernel_rfl) (by kernel_rfl) (by kernel_rfl) rfl (fun _ _ _ h => h) (by rfl) (by assumption) ?_)
              | (refine held_take 7 29 ?vv130 rfl (by kernel_rfl) (by kernel_rfl) (by kernel_rfl) rfl (fun _ _ _ h => h) (by rfl) ?hy130 (by assumption) ?rest130
                 case hy130 => (intro w hSw; (try dsimp only at hSw); go_simp; try with_reducible rfl))
            try simp only [Act.put, List.setIfInBounds_toArray, List.set_cons_zero, List.set_cons_succ]
            first
              | (refine held_skip 8 30 rfl (by kernel_rfl) (by kernel_rfl) (by kernel_rfl) rfl (fun _ _ _ h => h) (by rfl) (by assumption) ?_)
              | (refine held_take 8 30 ?vv131 rfl (by kernel_rfl) (by kernel_rfl) (by kernel_rfl) rfl (fun _ _ _ h => h) (by rfl) ?hy131 (by assumption) ?rest131
                 case hy131 => (intro w hSw; (try dsimp only at hSw); go_simp; try with_reducible rfl))
            try simp only [Act.put, List.setIfInBounds_toArray, List.set_cons_zero, List.set_cons_succ]
            first
              | (refine held_skip 9 31 rfl (by kernel_rfl) (by kernel_rfl) (by kernel_rfl) rfl (fun _ _ _ h => h) (by rfl) (by assumption) ?_)
              | (refine held_take 9 31 ?vv132 rfl (by kernel_rfl) (by kernel_rfl) (by kernel_rfl) rfl (fun _ _ _ h => h) (by rfl) ?hy132 (by assumption) ?rest132
                 case hy132 => (intro w hSw; (try dsimp only at hSw); go_simp; try with_reducible rfl))
            try simp only [Act.put, List.setIfInBounds_toArray, List.set_cons_zero, List.set_cons_succ]
            first
              | (refine held_skip 10 32 rfl (by kernel_rfl) (by kernel_rfl) (by kernel_rfl) rfl (fun _ _ _ h => h) (by rfl) (by assumption) ?_)
              | (refine held_take 10 32 ?vv133 rfl (by kernel_rfl) (by kernel_rfl) (by kernel_rfl) rfl (fun _ _ _ h => h) (by rfl) ?hy133 (by assumption) ?rest133
                 case hy133 => (intro w hSw; (try dsimp only at hSw); go_simp; try with_reducible rfl))
            try simp only [Act.put, List.setIfInBounds_toArray, List.set_cons_zero, List.set_cons_succ]
            first
              | (refine held_skip 11 33 rfl (by kernel_rfl) (by kernel_rfl) (by kernel_rfl) rfl (fun _ _ _ h => h) (by rfl) (by assumption) ?_)
              | (refine held_take 11 33 ?vv134 rfl (by kernel_rfl) (by kernel_rfl) (by kernel_rfl) rfl (fun _ _ _ h => h) (by rfl) ?hy134 (by assumption) ?rest134
                 case hy134 => (intro w hSw; (try dsimp only at hSw); go_simp; try with_reducible rfl))
            try simp only [Act.put, List.setIfInBounds_toArray, List.set_cons_zero, List.set_cons_succ]
            first
              | (refine held_skip 12 34 rfl (by kernel_rfl) (by kernel_rfl) (by kernel_rfl) rfl (fun _ _ _ h => h) (by rfl) (by assumption) ?_)
              | (refine held_take 12 34 ?vv135 rfl (by kernel_rfl) (by kernel_rfl) (by kernel_rfl) rfl (fun _ _ _ h => h) (by rfl) ?hy135 (by assumption) ?rest135
                 case hy135 => (intro w hSw; (try dsimp only at hSw); go_simp; try with_reducible rfl))
            try simp only [Act.put, List.setIfInBounds_toArray, List.set_cons_zero, List.set_cons_succ]
            first
              | (refine held_skip 13 35 rfl (by kernel_rfl) (by kernel_rfl) (by kernel_rfl) rfl (fun _ _ _ h => h) (by rfl) (by assumption) ?_)
              | (refine held_take 13 35 ?vv136 rfl (by kernel_rfl) (by kernel_rfl) (by kernel_rfl) rfl (fun _ _ _ h => h) (by rfl) ?hy136 (by assumption) ?rest136
                 case hy136 => (intro w hSw; (try dsimp only at hSw); go_simp; try with_reducible rfl))
            try simp only [Act.put, List.setIfInBounds_toArray, List.set_cons_zero, List.set_cons_succ]
            first
              | (refine held_skip 14 36 rfl (by kernel_rfl) (by kernel_rfl) (by kernel_rfl) rfl (fun _ _ _ h => h) (by rfl) (by assumption) ?_)
              | (refine held_take 14 36 ?vv137 rfl (by kernel_rfl) (by kernel_rfl) (by kernel_rfl) rfl (fun _ _ _ h => h) (by rfl) ?hy137 (by assumption) ?rest137
                 case hy137 => (intro w hSw; (try dsimp only at hSw); go_simp; try with_reducible rfl))
            try simp only [Act.put, List.setIfInBounds_toArray, List.set_cons_zero, List.set_cons_succ]
            first
              | (refine held_skip 15 37 rfl (by kernel_rfl) (by kernel_rfl) (by kernel_rfl) rfl (fun _ _ _ h => h) (by rfl) (by assumption) ?_)
              | (refine held_take 15 37 ?vv138 rfl (by kernel_rfl) (by kernel_rfl) (by kernel_rfl) rfl (fun _ _ _ h => h) (by rfl) ?hy138 (by assumption) ?rest138
                 case hy138 => (intro w hSw; (try dsimp only at hSw); go_simp; try with_reducible rfl))
            try simp only [Act.put, List.setIfInBounds_toArray, List.set_cons_zero, List.set_cons_succ]
            first
              | (refine held_skip 16 38 rfl (by kernel_rfl) (by kernel_rfl) (by kernel_rfl) rfl (fun _ _ _ h => h) (by rfl) (by assumption) ?_)
              | (refine held_take 16 38 ?vv139 rfl (by kernel_rfl) (by kernel_rfl) (by kernel_rfl) rfl (fun _ _ _ h => h) (by rfl) ?hy139 (by assumption) ?rest139
                 case hy139 => (intro w hSw; (try dsimp only at hSw); go_simp; try with_reducible rfl))
            try simp only [Act.put, List.setIfInBounds_toArray, List.set_cons_zero, List.set_cons_succ]
            first
              | (refine held_skip 17 39 rfl (by kernel_rfl) (by kernel_rfl) (by kernel_rfl) rfl (fun _ _ _ h => h) (by rfl) (by assumption) ?_)
              | (refine held_take 17 39 ?vv140 rfl (by kernel_rfl) (by kernel_rfl) (by kernel_rfl) rfl (fun _ _ _ h => h) (by rfl) ?hy140 (by assumption) ?rest140
                 case hy140 => (intro w hSw; (try dsimp only at hSw); go_simp; try with_reducible rfl))
            try simp only [Act.put, List.setIfInBounds_toArray, List.set_cons_zero, List.set_cons_succ]
            refine wpAnyH_done (by kernel_rfl) ?_ _
            clear hHeld
            obtain ⟨w2, hw2⟩ : ∃ w2, w2 = W.drew := ⟨_, rfl⟩
            rw [← hw2]
            have HB2 : Hid (Below w.heap.size w w2) := hide (by rw [hw2]; exact HB2.out.drew)
            have HO2 : Hid (w2.ownsRow w.heap.size 60 6 _ k ((picks zs (is.take k)).flatMap encCv)) := hide (by rw [hw2]; exact HO2.out)
            have hsz := HB2.out.size
            obtain ⟨hbx, d0, d1, d2, d3, d4, d5⟩ := HXC.out w2 HB2.out
            clear hw2
            have HNX := hide (picks_succ HQQ.out H1.out HXX.out)
            obtain ⟨hi, hz0, hz1, hz2⟩ := HI.out
            go_wp2_with (at_builtin; refine wpList_append_own _ rfl _ _ 26 rfl w.heap.size 60 i0 (.agg #[.int .i64 0, .int .i64 0, .int .i64 0, .int .i64 0, .int .i64 0, .int .i64 0]) 6 48 Try.underlying26 hi hz0 hz1 hz2 rfl (by decide) _ k _ rfl (HO2.out.alloc _) ⟨w2.heap.size, 0, none⟩ 1 1 [.int .i64 x'.i, .int .i64 x'.w, .int .i64 x'.s, .int .i64 x'.e, .int .i64 x'.n, .int .i64 x'.p] rfl rfl ?c1 ?c2 ?c3 ?c4 ?c5 ?_)
            case c1 => exact news_at #[.int .i64 x'.i, .int .i64 x'.w, .int .i64 x'.s, .int .i64 x'.e, .int .i64 x'.n, .int .i64 x'.p]
            case c2 => intro u hu; simp at hu; rcases hu with rfl | rfl | rfl | rfl | rfl | rfl <;> rfl
            case c3 => unfold maxLen; omega
            case c4 => omega
            case c5 => simp; omega
            intro v' w3 hown' hgrow _
            have HB3 := hide (bl_grown (HB2.out.alloc HB2.out.size _) (HO2.out.alloc _) (Nat.le_refl _) hgrow)
            have HO3 : Hid (w3.ownsRow w.heap.size 60 6 v' (k + 1) ((picks zs (is.take (k + 1))).flatMap encCv)) := hide (by rw [HNX.out, flat_snoc]; exact hown')
            clear hown' hgrow hi hz0 hz1 hz2
            go_wp2
            go_roundg (m - (k + 1))
            case measure => omega
            case rel => exact ⟨k + 1, by omega, by omega, by go_num, HO3.out, HB3.out, upto_succ A.out (by rw [HQ.out]; exact has_yes H1.out), upto_succ C.out HST.out⟩
    · have hltz : ¬ (k : Int) < (m : Int) := by omega
      obtain rfl : k = m := by omega
      have HT : Hid (is.take k = is) := hide (by rw [List.take_of_length_le (by rw [HZI.out]; exact Nat.le_refl _)])
      have HF := hide (found_end HZI.out A.out (Nat.le_refl k))
      rw [HT.out] at OW
      have HG : Hid ((foundB zs is && risB is) = true) := hide (by rw [HF.out, ris_end HZI.out C.out (Nat.le_refl k)]; rfl)
      go_wp2
      go_ret2
      exact ⟨_, ret_vb HG.out.symm, fun _ => OW.out, BW.out⟩

end Go.Proofs.Ytpdfbijfklmonaa
