/- Pages numbered anew; the snake. -/
import Derived.Test.YtkbgibcakdaonaaA7
import Derived.Test.YtkbgibcakdaonaaOwn
namespace Go.Proofs.Ytkbgibcakdaonaa
open Go.RowKit
set_option linter.unusedVariables false
set_option linter.unusedSimpArgs false

def numX (i : Nat) (x : Pg) : Pg := ⟨(i : Int) + 1, x.r, x.c, x.l⟩
def numL (zs : List Pg) : List Pg := zs.mapIdx numX
theorem num_len (zs : List Pg) : (numL zs).length = zs.length := by simp [numL]
theorem num_snoc (zs : List Pg) (x : Pg) : numL (zs ++ [x]) = numL zs ++ [numX zs.length x] := by simp [numL, List.mapIdx_append]
theorem num_take {zs : List Pg} {k n : Nat} {x : Pg} (hz : zs.length = n) (hk : k < n) (hx : zs[k]? = some x) : numL (zs.take (k + 1)) = numL (zs.take k) ++ [numX k x] := by
  have hl : (zs.take k).length = k := by rw [List.length_take, hz]; omega
  rw [List.take_add_one, hx]
  show numL (zs.take k ++ [x]) = _
  rw [num_snoc, hl]
def snX (a b C l : Int) (r k : Nat) : Pg := ⟨0, a + r, b + (if r % 2 = 1 then C - 1 - k else k), l⟩
def snR (a b C l : Int) (r k : Nat) : List Pg := (List.range k).map (snX a b C l r)
def snA (a b C l : Int) (c : Nat) (r : Nat) : List Pg := (List.range r).flatMap fun i => snR a b C l i c
theorem snR_succ (a b C l : Int) (r k : Nat) : snR a b C l r (k + 1) = snR a b C l r k ++ [snX a b C l r k] := by simp [snR, List.range_succ]
theorem snR_len (a b C l : Int) (r k : Nat) : (snR a b C l r k).length = k := by simp [snR]
theorem snA_succ (a b C l : Int) (c r : Nat) : snA a b C l c (r + 1) = snA a b C l c r ++ snR a b C l r c := by simp [snA, List.range_succ]
theorem snA_len (a b C l : Int) (c : Nat) : ∀ r, (snA a b C l c r).length = r * c
  | 0 => by simp [snA]
  | r + 1 => by rw [snA_succ, List.length_append, snA_len a b C l c r, snR_len, Nat.succ_mul]
def okSn0 (a b R C : Int) : Bool := inB a 0 99 && inB b 0 99 && inB R 1 4 && inB C 1 4
def snL (a b R C l : Int) : List Pg := numL (snA a b C l C.toNat R.toNat)
def okSn (a b R C l : Int) : Bool := okSn0 a b R C && atlasB (snL a b R C l)
def snV (a b R C l : Int) : List Pg := if okSn a b R C l then snL a b R C l else []
theorem sn_len {a b R C l : Int} : (snV a b R C l).length ≤ 12 := by
  unfold snV
  split
  · rename_i h
    unfold okSn at h; simp only [Bool.and_eq_true] at h
    have := h.2
    unfold atlasB at this; simp only [Bool.and_eq_true, decide_eq_true_eq] at this
    exact this.2
  · simp
theorem own_base {w : World} {b b2 n k : Nat} {e : TypeId} {v : Value} {xs : List Value} (ho : w.ownsRow b e k v n xs) (h : b2 ≤ b) : w.ownsRow b2 e k v n xs := ⟨ho.1, ho.2.imp id (fun ⟨g, cap, cur, h1, h2, r⟩ => ⟨g, cap, cur, h1, Nat.le_trans h h2, r⟩)⟩
set_option maxRecDepth 100000 in
set_option maxHeartbeats 1000000 in
theorem renumbered_any (ao : Option Addr) (n c : Nat) (zs : List Pg) (w : World) (hz : zs.length = n) (hn : n ≤ 1048576) (hr : Rd encPg 4 w.heap.size w ao zs) :
    Calls Try.prog 61 #[.slice ao n c] w fun e w' => ∃ v, e = .returned v ∧ w'.ownsRow w.heap.size 55 4 v n ((numL zs).flatMap encPg) ∧ Below w.heap.size w w' := by
  have HZ := hide hz
  have HR := hide hr
  obtain ⟨i0, hi, hz0, hz1, hz2⟩ := info_parts infoPg
  have HI := hide (And.intro hi (And.intro hz0 (And.intro hz1 hz2)))
  clear hi hz0 hz1 hz2 hz hr
  go_enter Try.func61, Try.ntmps61
  go_wp2
  go_loopg [3, 8] n (fun gk v i wr => ∃ k : Nat, k ≤ n ∧ n - k ≤ gk ∧ i = .int .i64 k ∧ Aside (wr.ownsRow w.heap.size 55 4 v k ((numL (zs.take k)).flatMap encPg)) ∧ Aside (Below w.heap.size w wr))
  case atStart => exact ⟨0, Nat.zero_le _, by omega, rfl, World.ownsRow_nil _ _ _ _, Below.refl _ _⟩
  case round =>
    obtain ⟨k, hk, hg, rfl, OW, BW⟩ := hrel
    by_cases hlt : k < n
    · have hltz : (k : Int) < (n : Int) := by omega
      obtain ⟨b', off, rfl, hb1, hat⟩ := rdPg HR.out (by rw [HZ.out]; omega)
      obtain ⟨x, hx, hxc⟩ := hat k (by rw [HZ.out]; exact hlt)
      have HNT := hide (num_take HZ.out hlt hx)
      obtain ⟨hbr, c0, c1, c2, c3⟩ := hxc wr BW.out
      clear hx hxc hat
      have k1 : IntKind.i64.wrap ((k : Int) + 1) = (k : Int) + 1 := IntWalk.i64_in _ (by omega)
      have HB2 := hide (BW.out.alloc BW.out.size (.cells #[.int .i64 ((k : Int) + 1), .int .i64 x.r, .int .i64 x.c, .int .i64 x.l] 55))
      have HO2 := hide (OW.out.alloc (.cells #[.int .i64 ((k : Int) + 1), .int .i64 x.r, .int .i64 x.c, .int .i64 x.l] 55))
      have hsz : (wr.alloc (.cells #[.int .i64 ((k : Int) + 1), .int .i64 x.r, .int .i64 x.c, .int .i64 x.l] 55)).heap.size = wr.heap.size + 1 := by simp
      have HSZ := hide hsz
      have hsw := BW.out.size
      clear hsz
      obtain ⟨hi, hz0, hz1, hz2⟩ := HI.out
      go_wp2_with (at_builtin; refine wpList_append_own _ rfl _ _ 25 rfl w.heap.size 55 i0 (.agg #[.int .i64 0, .int .i64 0, .int .i64 0, .int .i64 0]) 4 32 Try.underlying25 hi hz0 hz1 hz2 rfl (by decide) _ k _ rfl (HO2.out.alloc _) ⟨wr.heap.size + 1, 0, none⟩ 1 1 [.int .i64 ((k : Int) + 1), .int .i64 x.r, .int .i64 x.c, .int .i64 x.l] rfl rfl ?c1 ?c2 ?c3 ?c4 ?c5 ?_)
      case c1 => have := news_at (w := wr.alloc (.cells #[.int .i64 ((k : Int) + 1), .int .i64 x.r, .int .i64 x.c, .int .i64 x.l] 55)) (t := 55) #[.int .i64 ((k : Int) + 1), .int .i64 x.r, .int .i64 x.c, .int .i64 x.l]; rw [HSZ.out] at this; exact this
      case c2 => intro u hu; simp at hu; rcases hu with rfl | rfl | rfl | rfl <;> rfl
      case c3 => unfold maxLen; omega
      case c4 => omega
      case c5 => simp; omega
      intro v' w3 hown' hgrow _
      have HB3 := hide (bl_grown (HB2.out.alloc HB2.out.size _) (HO2.out.alloc _) (Nat.le_refl _) hgrow)
      have HO3 : Hid (w3.ownsRow w.heap.size 55 4 v' (k + 1) ((numL (zs.take (k + 1))).flatMap encPg)) := hide (by rw [HNT.out, flat_snoc]; exact hown')
      clear hown' hgrow hi hz0 hz1 hz2
      go_wp2
      go_roundg (n - (k + 1))
      case measure => omega
      case rel => exact ⟨k + 1, by omega, by omega, by go_num, HO3.out, HB3.out⟩
    · have hltz : ¬ (k : Int) < (n : Int) := by omega
      obtain rfl : k = n := by omega
      have HT : Hid (zs.take k = zs) := hide (by rw [List.take_of_length_le (by rw [HZ.out]; exact Nat.le_refl _)])
      rw [HT.out] at OW
      go_wp2
      go_ret
      exact ⟨_, rfl, OW.out, BW.out⟩

end Go.Proofs.Ytkbgibcakdaonaa
