/- DropPage: plain; pages numbered anew; slices.Concat. -/
import Derived.Test.YtdgalehipgdhiaaDoorA2
import Derived.Test.YtdgalehipgdhiaaDoorKit4
import Derived.Test.YtdgalehipgdhiaaDoorOwn
import Derived.Test.YtdgalehipgdhiaaDoorFInt
import Derived.Lib.AppendZeros
namespace Go.Proofs.YtdgalehipgdhiaaDoor
open Go.RowKit
set_option linter.unusedVariables false
set_option linter.unusedSimpArgs false

def numX (i : Nat) (x : Pg) : Pg := ⟨(i : Int) + 1, x.r, x.c, x.l⟩
def numL (zs : List Pg) : List Pg := zs.mapIdx numX
theorem num_len (zs : List Pg) : (numL zs).length = zs.length := by simp [numL]
theorem num_snoc (zs : List Pg) (x : Pg) : numL (zs ++ [x]) = numL zs ++ [numX zs.length x] := by simp [numL, List.mapIdx_append]
theorem num_take {zs : List Pg} {k n : Nat} {x : Pg} (hz : zs.length = n) (hk : k < n) (hx : zs[k]? = some x) : numL (zs.take (k + 1)) = numL (zs.take k) ++ [numX k x] := by
  have hl : (zs.take k).length = k := by rw [List.length_take, hz]; omega
  rw [List.take_add_one, hx]
  show numL (zs.take k ++ [x]) = _
  rw [num_snoc, hl]
theorem own_base {w : World} {b b2 n k : Nat} {e : TypeId} {v : Value} {xs : List Value} (ho : w.ownsRow b e k v n xs) (h : b2 ≤ b) : w.ownsRow b2 e k v n xs := ⟨ho.1, ho.2.imp id (fun ⟨g, cap, cur, h1, h2, r⟩ => ⟨g, cap, cur, h1, Nat.le_trans h h2, r⟩)⟩
set_option maxRecDepth 100000 in
set_option maxHeartbeats 1000000 in
theorem renumbered_any (ao : Option Addr) (n c : Nat) (zs : List Pg) (w : World) (hz : zs.length = n) (hn : n ≤ 1048576) (hr : Rd encPg 4 w.heap.size w ao zs) :
    Calls Tryd.prog 31 #[.slice ao n c] w fun e w' => ∃ v, e = .returned v ∧ w'.ownsRow w.heap.size 58 4 v n ((numL zs).flatMap encPg) ∧ Below w.heap.size w w' := by
  have HZ := hide hz
  have HR := hide hr
  obtain ⟨i0, hi, hz0, hz1, hz2⟩ := info_parts infoPg
  have HI := hide (And.intro hi (And.intro hz0 (And.intro hz1 hz2)))
  clear hi hz0 hz1 hz2 hz hr
  go_enter Tryd.func31, Tryd.ntmps31
  go_wp2
  go_loopg [3, 8] n (fun gk v i wr => ∃ k : Nat, k ≤ n ∧ n - k ≤ gk ∧ i = .int .i64 k ∧ Aside (wr.ownsRow w.heap.size 58 4 v k ((numL (zs.take k)).flatMap encPg)) ∧ Aside (Below w.heap.size w wr))
  case atStart => exact ⟨0, Nat.zero_le _, by omega, rfl, World.ownsRow_nil _ _ _ _, Below.refl _ _⟩
  case round =>
    obtain ⟨k, hk, hg, rfl, OW, BW⟩ := hrel
    by_cases hlt : k < n
    · have hltz : (k : Int) < (n : Int) := by omega
      obtain ⟨b', off, rfl, hb1, hat⟩ := rdPg HR.out (by rw [HZ.out]; omega)
      obtain ⟨x, hx, hxc⟩ := hat k (by rw [HZ.out]; exact hlt)
      have HNT := hide (num_take HZ.out hlt hx)
      obtain ⟨hbr, c0, c1, c2, c3⟩ := hxc wr BW.out
      clear hx hxc hat
      have k1 : IntKind.i64.wrap ((k : Int) + 1) = (k : Int) + 1 := IntWalk.i64_in _ (by omega)
      have HB2 := hide (BW.out.alloc BW.out.size (.cells #[.int .i64 ((k : Int) + 1), .int .i64 x.r, .int .i64 x.c, .int .i64 x.l] 58))
      have HO2 := hide (OW.out.alloc (.cells #[.int .i64 ((k : Int) + 1), .int .i64 x.r, .int .i64 x.c, .int .i64 x.l] 58))
      have hsz : (wr.alloc (.cells #[.int .i64 ((k : Int) + 1), .int .i64 x.r, .int .i64 x.c, .int .i64 x.l] 58)).heap.size = wr.heap.size + 1 := by simp
      have HSZ := hide hsz
      have hsw := BW.out.size
      clear hsz
      obtain ⟨hi, hz0, hz1, hz2⟩ := HI.out
      go_wp2_with (at_builtin; refine wpList_append_own _ rfl _ _ 26 rfl w.heap.size 58 i0 (.agg #[.int .i64 0, .int .i64 0, .int .i64 0, .int .i64 0]) 4 32 Tryd.underlying26 hi hz0 hz1 hz2 rfl (by decide) _ k _ rfl (HO2.out.alloc _) ⟨wr.heap.size + 1, 0, none⟩ 1 1 [.int .i64 ((k : Int) + 1), .int .i64 x.r, .int .i64 x.c, .int .i64 x.l] rfl rfl ?c1 ?c2 ?c3 ?c4 ?c5 ?_)
      case c1 => have := news_at (w := wr.alloc (.cells #[.int .i64 ((k : Int) + 1), .int .i64 x.r, .int .i64 x.c, .int .i64 x.l] 58)) (t := 58) #[.int .i64 ((k : Int) + 1), .int .i64 x.r, .int .i64 x.c, .int .i64 x.l]; rw [HSZ.out] at this; exact this
      case c2 => intro u hu; simp at hu; rcases hu with rfl | rfl | rfl | rfl <;> rfl
      case c3 => unfold maxLen; omega
      case c4 => omega
      case c5 => simp; omega
      intro v' w3 hown' hgrow _
      have HB3 := hide (bl_grown (HB2.out.alloc HB2.out.size _) (HO2.out.alloc _) (Nat.le_refl _) hgrow)
      have HO3 : Hid (w3.ownsRow w.heap.size 58 4 v' (k + 1) ((numL (zs.take (k + 1))).flatMap encPg)) := hide (by rw [HNT.out, flat_snoc]; exact hown')
      clear hown' hgrow hi hz0 hz1 hz2
      go_wp2
      go_roundg (n - (k + 1))
      case measure => omega
      case rel => exact ⟨k + 1, by omega, by omega, by go_num, HO3.out, HB3.out⟩
    · have hltz : ¬ (k : Int) < (n : Int) := by omega
      obtain rfl : k = n := by omega
      have HT : Hid (zs.take k = zs) := hide (by rw [List.take_of_length_le (by rw [HZ.out]; exact Nat.le_refl _)])
      rw [HT.out] at OW
      go_wp2
      go_ret
      exact ⟨_, rfl, OW.out, BW.out⟩
set_option maxRecDepth 100000 in
set_option maxHeartbeats 1000000 in
theorem l13Numbered_any (ao : Option Addr) (n c : Nat) (zs : List Pg) (w : World) (hz : zs.length = n) (hn : n ≤ 1048576) (hr : Rd encPg 4 w.heap.size w ao zs) :
    Calls Tryd.prog 41 #[.slice ao n c] w fun e w' => ∃ v, e = .returned v ∧ w'.ownsRow w.heap.size 58 4 v n ((numL zs).flatMap encPg) ∧ Below w.heap.size w w' := by
  have HZ := hide hz
  have HR := hide hr
  obtain ⟨i0, hi, hz0, hz1, hz2⟩ := info_parts infoPg
  have HI := hide (And.intro hi (And.intro hz0 (And.intro hz1 hz2)))
  clear hi hz0 hz1 hz2 hz hr
  go_enter Tryd.func41, Tryd.ntmps41
  go_wp2
  go_loopg [3, 4] n (fun gk v i wr => ∃ k : Nat, k ≤ n ∧ n - k ≤ gk ∧ i = .int .i64 k ∧ Aside (wr.ownsRow w.heap.size 58 4 v k ((numL (zs.take k)).flatMap encPg)) ∧ Aside (Below w.heap.size w wr))
  case atStart => exact ⟨0, Nat.zero_le _, by omega, rfl, World.ownsRow_made _ #[] 0 (Nat.le_refl _) (by simp [maxLen]) rfl, (Below.refl _ _).alloc (Nat.le_refl _) _⟩
  case round =>
    obtain ⟨k, hk, hg, rfl, OW, BW⟩ := hrel
    by_cases hlt : k < n
    · have hltz : (k : Int) < (n : Int) := by omega
      obtain ⟨b', off, rfl, hb1, hat⟩ := rdPg HR.out (by rw [HZ.out]; omega)
      obtain ⟨x, hx, hxc⟩ := hat k (by rw [HZ.out]; exact hlt)
      have HNT := hide (num_take HZ.out hlt hx)
      obtain ⟨hbr, c0, c1, c2, c3⟩ := hxc wr BW.out
      clear hx hxc hat
      have hk0 : (0 : Int) ≤ (k : Int) := by omega
      have k1 : IntKind.i64.wrap ((k : Int) + 1) = (k : Int) + 1 := IntWalk.i64_in _ (by omega)
      have HB2 := hide (BW.out.alloc BW.out.size (.cells #[.int .i64 ((k : Int) + 1), .int .i64 x.r, .int .i64 x.c, .int .i64 x.l] 58))
      have HO2 := hide (OW.out.alloc (.cells #[.int .i64 ((k : Int) + 1), .int .i64 x.r, .int .i64 x.c, .int .i64 x.l] 58))
      have hsz : (wr.alloc (.cells #[.int .i64 ((k : Int) + 1), .int .i64 x.r, .int .i64 x.c, .int .i64 x.l] 58)).heap.size = wr.heap.size + 1 := by simp
      have HSZ := hide hsz
      have hsw := BW.out.size
      clear hsz
      obtain ⟨hi, hz0, hz1, hz2⟩ := HI.out
      go_wp2_with (at_builtin; refine wpList_append_own _ rfl _ _ 26 rfl w.heap.size 58 i0 (.agg #[.int .i64 0, .int .i64 0, .int .i64 0, .int .i64 0]) 4 32 Tryd.underlying26 hi hz0 hz1 hz2 rfl (by decide) _ k _ rfl (HO2.out.alloc _) ⟨wr.heap.size + 1, 0, none⟩ 1 1 [.int .i64 ((k : Int) + 1), .int .i64 x.r, .int .i64 x.c, .int .i64 x.l] rfl rfl ?c1 ?c2 ?c3 ?c4 ?c5 ?_)
      case c1 => have := news_at (w := wr.alloc (.cells #[.int .i64 ((k : Int) + 1), .int .i64 x.r, .int .i64 x.c, .int .i64 x.l] 58)) (t := 58) #[.int .i64 ((k : Int) + 1), .int .i64 x.r, .int .i64 x.c, .int .i64 x.l]; rw [HSZ.out] at this; exact this
      case c2 => intro u hu; simp at hu; rcases hu with rfl | rfl | rfl | rfl <;> rfl
      case c3 => unfold maxLen; omega
      case c4 => omega
      case c5 => simp; omega
      intro v' w3 hown' hgrow _
      have HB3 := hide (bl_grown (HB2.out.alloc HB2.out.size _) (HO2.out.alloc _) (Nat.le_refl _) hgrow)
      have HO3 : Hid (w3.ownsRow w.heap.size 58 4 v' (k + 1) ((numL (zs.take (k + 1))).flatMap encPg)) := hide (by rw [HNT.out, flat_snoc]; exact hown')
      clear hown' hgrow hi hz0 hz1 hz2
      go_wp2
      go_roundg (n - (k + 1))
      case measure => omega
      case rel => exact ⟨k + 1, by omega, by omega, by go_num, HO3.out, HB3.out⟩
    · have hltz : ¬ (k : Int) < (n : Int) := by omega
      obtain rfl : k = n := by omega
      have HT : Hid (zs.take k = zs) := hide (by rw [List.take_of_length_le (by rw [HZ.out]; exact Nat.le_refl _)])
      rw [HT.out] at OW
      go_wp2
      go_ret
      exact ⟨_, rfl, OW.out, BW.out⟩

def dropP (zs : List Pg) (k : Nat) : List Pg := zs.take k ++ zs.drop (k + 1)
theorem dropP_len {zs : List Pg} {n k : Nat} (hz : zs.length = n) (hk : k < n) : (dropP zs k).length = k + (n - (k + 1)) := by simp [dropP, hz]; omega
theorem Rd.takeV {B : Nat} {w : World} {ao : Option Addr} {zs : List Pg} (k : Nat) (h : Rd encPg 4 B w ao zs) : Rd encPg 4 B w ao (zs.take k) := by
  rcases h with rfl | ⟨b, off, rfl, h1, h2, hc⟩
  · exact .inl (by simp)
  · refine .inr ⟨b, off, rfl, h1, h2, fun j x hx i v hv => hc j x ?_ i v hv⟩
    rw [List.getElem?_take] at hx
    split at hx
    · exact hx
    · cases hx
theorem Rd.dropV {B : Nat} {w : World} {b off : Nat} {zs : List Pg} (k : Nat) (h : Rd encPg 4 B w (some ⟨b, off, none⟩) zs) : Rd encPg 4 B w (some ⟨b, off + k * 4, none⟩) (zs.drop k) := by
  rcases h with rfl | ⟨b', off', he, h1, h2, hc⟩
  · exact .inl (by simp)
  · injection he with he; injection he with e1 e2 _; subst e1; subst e2
    refine .inr ⟨b, off + k * 4, rfl, h1, h2, fun j x hx i v hv => ?_⟩
    rw [List.getElem?_drop] at hx
    have := hc (k + j) x hx i v hv
    rw [show off + (k + j) * 4 + i = off + k * 4 + j * 4 + i from by omega] at this
    exact this
/-- the address behind the element left out -/
def behindA (b off k c : Nat) : Addr := if c = k + 1 then ⟨b, off, none⟩ else ⟨b, off + (k + 1) * 4, none⟩
theorem Rd.behind {B : Nat} {w : World} {b off n k c : Nat} {zs : List Pg} (hz : zs.length = n) (hc : n ≤ c) (h : Rd encPg 4 B w (some ⟨b, off, none⟩) zs) : Rd encPg 4 B w (some (behindA b off k c)) (zs.drop (k + 1)) := by
  unfold behindA
  split
  · exact .inl (by rw [List.drop_eq_nil_iff]; omega)
  · exact h.dropV (k + 1)
theorem step_append_own {P : Program} {w : World} {ops : Array Oper} {o : Oper} {a : Act} {K : Act → World → Prop} {Q : Exit → Act → World → Prop} {E : Prop} (hgd : o.guard = none) (s x : Operand) (t : TypeId)
    (ho : o.op = .call { callee := .builtin .append, args := #[s, x], argTypes := #[t, t] })
    (base : Nat) (e : TypeId) (i : TypeInfo) (z : Value) (size bytes : Nat) (ht : P.underlying t = some (.slice e)) (hi : P.info? e = some i) (hz : i.zero = some z)
    (hsize : i.size = size) (hby : i.bytes = bytes) (hzs : z.cells.size = size) (hsz : 0 < size)
    (v : Value) (n : Nat) (xs : List Value) (hs : a.eval s = v) (hown : w.ownsRow base e size v n xs)
    (ad : Addr) (m c : Nat) (news : List Value) (hx : a.eval x = .slice (some ad) m c) (hl : news.length = m * size) (hnews : ∀ j u, news[j]? = some u → w.cell? (ad.add j) = some u) (h1 : ∀ u ∈ news, u.oneCell' = true)
    (h63 : n + m ≤ maxLen) (hbytes : (n + m) * bytes ≤ 140737488355328) (hbase : base ≤ w.heap.size)
    (h : ∀ v' w', w'.ownsRow base e size v' (n + m) (xs ++ news) → w.grownBy w' v.ownBlock → K (a.put o.dst v') w') :
    if Region.wanted o (yielded ops a.tmps) = true then Oper.wp P o a w K Q else E := by
  have hw : Region.wanted o (yielded ops a.tmps) = true := by simp [Region.wanted, hgd]
  rw [if_pos hw]
  exact wp_append_own w s x t ho base e i z size bytes ht hi hz hsize hby hzs hsz v n xs hs hown ad m c news hx hl hnews h1 h63 hbytes hbase fun v' w' h2 h3 _ => h v' w' h2 h3

def okDrop (zs : List Pg) (m : Int) : Bool := atlasB zs && inB m 1 zs.length
def drpV (zs : List Pg) (m : Int) : List Pg := if okDrop zs m then numL (dropP zs (m - 1).toNat) else []
theorem drp_len {zs : List Pg} {m : Int} : (drpV zs m).length ≤ zs.length := by
  unfold drpV; split
  · rw [num_len]; unfold dropP; simp; omega
  · exact Nat.zero_le _
theorem isPageD_any (ao : Option Addr) (n c : Nat) (zs : List Pg) (m : Int) (w : World) (hz : zs.length = n) (hn : n ≤ 1048576) (hr : Rd encPg 4 w.heap.size w ao zs) :
    Calls Tryd.prog 39 #[.slice ao n c, .int .i64 m] w fun e w' => e = .returned (.bool (okDrop zs m)) ∧ Below w.heap.size w w' := by
  have HA := hide (IsAtlas_any ao n c zs w hz hn hr)
  rcases first2 (atlasB zs) (inB m 1 n) with h1 | ⟨h1, h2⟩ | ⟨h1, h2⟩
  all_goals
    have HO : Hid (okDrop zs m = (atlasB zs && inB m 1 n)) := hide (by unfold okDrop; rw [hz])
    go_enter Tryd.func39, Tryd.ntmps39
    go_wp2_with fail
    refine HA.out.mono ?_
    rintro e w1 ⟨rfl, hb⟩
    go_wp2_with (go_at_call 30; refine (within_any _ _ _ _).mono ?_; rintro e w' ⟨rfl, rfl⟩)
    go_ret
    exact ⟨ret_bool (by rw [HO.out]; simp [*]), hb⟩
theorem ret_vbD {u : Value} {c d : Bool} (h2 : c = d) : Ending.returned (.tuple #[u, .bool c]) = .returned (.tuple #[u, .bool d]) := by rw [h2]

theorem encPg_one : ∀ x, ∀ u ∈ encPg x, u.oneCell' = true := by
  intro x u hu
  simp [encPg] at hu
  rcases hu with rfl | rfl | rfl | rfl <;> rfl

set_option maxRecDepth 100000 in
theorem GrowPage_any (n : Nat) (s : Int) (hs : s = (n : Int)) (w : World) (hn : n ≤ 2097152) :
    Calls Tryd.prog 58 #[.slice none 0 0, .int .i64 s] w fun e w' => ∃ v, e = .returned v ∧ w'.ownsRow w.heap.size 58 4 v 0 [] ∧ Below w.heap.size w w' := by
  subst hs
  obtain ⟨i0, hi, hz0, hz1, hz2⟩ := info_parts infoPg
  rcases Nat.eq_zero_or_pos n with h0 | h0
  · subst h0
    go_enter Tryd.func58, Tryd.ntmps58
    go_wp2
    go_ret
    exact ⟨_, rfl, World.ownsRow_nil _ _ _ _, Below.refl _ _⟩
  · have hrun := Lib.run_append_nil_zeros (P := Tryd.prog) w 26 3 26 58 i0 (.agg #[.int .i64 0, .int .i64 0, .int .i64 0, .int .i64 0]) .i64 .i64 Tryd.underlying26 Tryd.underlying3 hi hz0 n h0 (by rw [hz1]; decide) (by omega) (by rw [hz2]; omega)
    have hp : ¬ (n : Int) < 0 := by omega
    have hp2 : 0 < (n : Int) := by omega
    have hcap1 := grownCap_ge w n 0 58
    have hcap2 := grownCap_le_maxLen w n 0 58 (by unfold maxLen; omega)
    have HRUN := hide hrun
    have HCAP := hide (And.intro hcap1 hcap2)
    have HZZ := hide (And.intro hz0 (And.intro hz1 hz2))
    clear hrun hcap1 hcap2 hi hz0 hz1 hz2
    go_enter Tryd.func58, Tryd.ntmps58
    go_wp2_with (at_builtin; refine Lib.wpList_append_run _ rfl _ _ _ _ rfl _ _ rfl rfl _ _ HRUN.out ?_)
    go_wp2
    go_ret
    refine ⟨_, rfl, ?_, (Below.drew (Below.refl _ _)).alloc (Nat.le_refl _) _⟩
    refine World.ownsRow_made w.drew _ _ (Nat.le_refl _) HCAP.out.2 ?_
    have hc := HCAP.out.1
    simp only [Array.size_append, size_zeroCells, Value.cells]
    show n * 4 + _ * 4 = _ * 4
    omega
def szK (a b : Nat) : Nat → Int | 0 => 0 | 1 => a | _ => a + b
def lnK (a b : Nat) : Nat → Nat | 0 => 0 | 1 => a | _ => a + b
def catK {α : Type} (xs ys : List α) : Nat → List α | 0 => [] | 1 => xs | _ => xs ++ ys
set_option maxRecDepth 100000 in
set_option maxHeartbeats 1000000 in
theorem ConcatPage_any (g : Nat) (a1 a2 : Addr) (n1 n2 c1 c2 : Nat) (xs ys : List Pg) (w : World) (e0 : w.cell? ⟨g, 0, none⟩ = some (.slice (some a1) n1 c1)) (e1 : w.cell? ⟨g, 1, none⟩ = some (.slice (some a2) n2 c2)) (hg : g < w.heap.size)
    (hx : xs.length = n1) (hy : ys.length = n2) (hn1 : n1 ≤ 1048576) (hn2 : n2 ≤ 1048576) (rx : Rd encPg 4 w.heap.size w (some a1) xs) (ry : Rd encPg 4 w.heap.size w (some a2) ys) :
    Calls Tryd.prog 40 #[.slice (some ⟨g, 0, none⟩) 2 2] w fun e w' => ∃ v, e = .returned v ∧ w'.ownsRow w.heap.size 58 4 v (n1 + n2) ((xs ++ ys).flatMap encPg) ∧ Below w.heap.size w w' := by
  have HX := hide hx
  have HY := hide hy
  have RX := hide rx
  have RY := hide ry
  obtain ⟨i0, hi, hz0, hz1, hz2⟩ := info_parts infoPg
  have HI := hide (And.intro hi (And.intro hz0 (And.intro hz1 hz2)))
  clear hi hz0 hz1 hz2 hx hy rx ry
  go_enter Tryd.func40, Tryd.ntmps40
  go_wp2
  go_loopg [3, 5, 11] 2 (fun gk sz _ i wr => ∃ k : Nat, k ≤ 2 ∧ 2 - k ≤ gk ∧ i = .int .i64 k ∧ sz = .int .i64 (szK n1 n2 k) ∧ w = wr)
  case atStart => exact ⟨0, Nat.zero_le _, by omega, rfl, rfl, rfl⟩
  case round =>
    obtain ⟨k, hk, hgk, rfl, rfl, rfl⟩ := hrel
    have h3 : k = 0 ∨ k = 1 ∨ k = 2 := by omega
    rcases h3 with rfl | rfl | rfl
    · have z1 : ¬ (n1 : Int) < 0 := by omega
      have z2 : IntKind.i64.wrap (n1 : Int) = n1 := IntWalk.i64_in _ (by omega)
      simp only [szK]
      go_wp2
      go_roundg 1
      case measure => omega
      case rel => exact ⟨1, by omega, by omega, by go_num, by simp [szK], rfl⟩
    · have z1 : ¬ (n1 : Int) + (n2 : Int) < 0 := by omega
      have z2 : IntKind.i64.wrap ((n1 : Int) + (n2 : Int)) = (n1 : Int) + (n2 : Int) := IntWalk.i64_in _ (by omega)
      simp only [szK]
      go_wp2
      go_roundg 0
      case measure => omega
      case rel => exact ⟨2, by omega, by omega, by go_num, by simp [szK], rfl⟩
    · simp only [szK]
      go_wp2_with fail
      refine (GrowPage_any (n1 + n2) ((n1 : Int) + (n2 : Int)) (by omega) w (by omega)).mono ?_
      rintro e w1 ⟨v, rfl, ho, hb⟩
      have HB1 := hide hb
      have HO1 := hide ho
      have f0 := (hb.cell (p := ⟨g, 0, none⟩) hg).trans e0
      have f1 := (hb.cell (p := ⟨g, 1, none⟩) hg).trans e1
      have F0 := hide f0
      have F1 := hide f1
      have hg1 : g < w1.heap.size := Nat.lt_of_lt_of_le hg hb.size
      clear hb ho f0 f1
      go_wp2
      go_loopg [6, 8, 27] 2 (fun gk v _ i wr => ∃ k : Nat, k ≤ 2 ∧ 2 - k ≤ gk ∧ i = .int .i64 k ∧ Aside (wr.ownsRow w.heap.size 58 4 v (lnK n1 n2 k) ((catK xs ys k).flatMap encPg)) ∧ Aside (Below w.heap.size w wr))
      case atStart => exact ⟨0, Nat.zero_le _, by omega, rfl, HO1.out, HB1.out⟩
      case round =>
        obtain ⟨k, hk, hgk, rfl, OW, BW⟩ := hrel
        have hsz := BW.out.size
        have h3 : k = 0 ∨ k = 1 ∨ k = 2 := by omega
        rcases h3 with rfl | rfl | rfl
        · have f0 := (BW.out.cell (p := ⟨g, 0, none⟩) hg).trans e0
          have hgw : g < wr.heap.size := Nat.lt_of_lt_of_le hg hsz
          have HF := hide (rd_flat encPg_len (rd_step RX.out BW.out))
          simp only [lnK, catK] at OW
          obtain ⟨hi, hz0, hz1, hz2⟩ := HI.out
          go_wp2_with (at_builtin; refine wpList_append_own _ rfl _ _ 26 rfl w.heap.size 58 i0 (.agg #[.int .i64 0, .int .i64 0, .int .i64 0, .int .i64 0]) 4 32 Tryd.underlying26 hi hz0 hz1 hz2 rfl (by decide) _ 0 _ rfl OW.out a1 n1 c1 (xs.flatMap encPg) rfl ?c0 ?c1 ?c2 ?c3 ?c4 ?c5 ?_)
          case c0 => rw [flat_len encPg_len, HX.out]
          case c1 => exact HF.out
          case c2 => exact flat_one encPg_one xs
          case c3 => unfold maxLen; omega
          case c4 => omega
          case c5 => exact hsz
          intro v' w3 hown' hgrow _
          have HB3 := hide (bl_grown BW.out OW.out (Nat.le_refl _) hgrow)
          have HO3 : Hid (w3.ownsRow w.heap.size 58 4 v' (lnK n1 n2 1) ((catK xs ys 1).flatMap encPg)) := hide (by simp only [lnK, catK]; first | exact hown' | (rw [Nat.zero_add] at hown'; simpa using hown') | (rw [List.flatMap_append]; exact hown'))
          clear hown' hgrow hi hz0 hz1 hz2
          go_wp2
          go_roundg 1
          case measure => omega
          case rel => exact ⟨1, by omega, by omega, by go_num, HO3.out, HB3.out⟩
        · have f0 := (BW.out.cell (p := ⟨g, 1, none⟩) hg).trans e1
          have hgw : g < wr.heap.size := Nat.lt_of_lt_of_le hg hsz
          have HF := hide (rd_flat encPg_len (rd_step RY.out BW.out))
          simp only [lnK, catK] at OW
          obtain ⟨hi, hz0, hz1, hz2⟩ := HI.out
          go_wp2_with (at_builtin; refine wpList_append_own _ rfl _ _ 26 rfl w.heap.size 58 i0 (.agg #[.int .i64 0, .int .i64 0, .int .i64 0, .int .i64 0]) 4 32 Tryd.underlying26 hi hz0 hz1 hz2 rfl (by decide) _ n1 _ rfl OW.out a2 n2 c2 (ys.flatMap encPg) rfl ?c0 ?c1 ?c2 ?c3 ?c4 ?c5 ?_)
          case c0 => rw [flat_len encPg_len, HY.out]
          case c1 => exact HF.out
          case c2 => exact flat_one encPg_one ys
          case c3 => unfold maxLen; omega
          case c4 => omega
          case c5 => exact hsz
          intro v' w3 hown' hgrow _
          have HB3 := hide (bl_grown BW.out OW.out (Nat.le_refl _) hgrow)
          have HO3 : Hid (w3.ownsRow w.heap.size 58 4 v' (lnK n1 n2 2) ((catK xs ys 2).flatMap encPg)) := hide (by simp only [lnK, catK]; first | exact hown' | (rw [Nat.zero_add] at hown'; simpa using hown') | (rw [List.flatMap_append]; exact hown'))
          clear hown' hgrow hi hz0 hz1 hz2
          go_wp2
          go_roundg 0
          case measure => omega
          case rel => exact ⟨2, by omega, by omega, by go_num, HO3.out, HB3.out⟩
        · simp only [lnK, catK] at OW
          go_wp2
          go_ret
          exact ⟨_, rfl, OW.out, BW.out⟩

theorem heldP_skip {P : Program} {md : Region.Mode} {ops : Array Oper} {Q : Exit → Act → World → Prop} {S : World → Prop} (i : Nat) (d : Tmp) {oi : Oper} {fuel : Nat} {listed : Array Bool} {a : Act} {w : World} (hi : ops[i]? = some oi)
    (hs : Region.noSelect ops = true) (hf : Region.free md ops listed i = true) (hr : (Region.ready md ops listed).contains i = true) (hd : oi.dst = some d) (hQ : ∀ c a w, Q (.panic c) (a.put (some d) undef) w → Q (.panic c) a w)
    (hw : Region.wanted oi (yielded ops a.tmps) = false) (hS : S w) (h : wpAnyH P md ops Q S fuel (listed.setIfInBounds i true) (a.put (some d) undef) w) : wpAnyH P md ops Q S (fuel + 1) listed a w :=
  wpAnyH_take hi hs hf hr (by rw [hd]; exact hQ) (Or.inr ⟨hw, rfl⟩) hS (by rw [hd]; exact h)
theorem heldP_take {P : Program} {md : Region.Mode} {ops : Array Oper} {Q : Exit → Act → World → Prop} {S : World → Prop} (i : Nat) (d : Tmp) {oi : Oper} (v : Value) {fuel : Nat} {listed : Array Bool} {a : Act} {w : World} (hi : ops[i]? = some oi)
    (hs : Region.noSelect ops = true) (hf : Region.free md ops listed i = true) (hr : (Region.ready md ops listed).contains i = true) (hd : oi.dst = some d) (hQ : ∀ c a w, Q (.panic c) (a.put (some d) v) w → Q (.panic c) a w)
    (hw : Region.wanted oi (yielded ops a.tmps) = true) (hy : ∀ w, S w → (execOp a.eval oi).run P w = .ok (.value v) w) (hS : S w) (h : wpAnyH P md ops Q S fuel (listed.setIfInBounds i true) (a.put (some d) v) w) : wpAnyH P md ops Q S (fuel + 1) listed a w :=
  wpAnyH_take hi hs hf hr (by rw [hd]; exact hQ) (Or.inl ⟨hw, hy⟩) hS (by rw [hd]; exact h)

end Go.Proofs.YtdgalehipgdhiaaDoor
