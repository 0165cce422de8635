/- Slices of int: contracts; what a call gathers by append. -/
import Derived.Test.YtdgalehipgdhiaaKit
import Derived.Test.YtdgalehipgdhiaaChecked
import Derived.StillTailTactics
import Derived.Deep.RegionHeld3
namespace Go.Proofs.Ytdgalehipgdhiaa
open Go.RowKit
set_option linter.unusedVariables false

/-! ### what a call gathers by append -/
section
variable {α β : Type}
/-- f of the elements of which c holds, in order -/
def gather (f : α → β) (c : α → Bool) (zs : List α) : List β := (zs.filter c).map f
theorem gather_yes {f : α → β} {c : α → Bool} {zs : List α} {k : Nat} {x : α} (hx : zs[k]? = some x) (hc : c x = true) : gather f c (zs.take (k + 1)) = gather f c (zs.take k) ++ [f x] := by
  unfold gather; rw [List.take_add_one, hx]; simp [List.filter_append, hc]
theorem gather_no {f : α → β} {c : α → Bool} {zs : List α} {k : Nat} {x : α} (hx : zs[k]? = some x) (hc : c x = false) : gather f c (zs.take (k + 1)) = gather f c (zs.take k) := by
  unfold gather; rw [List.take_add_one, hx]; simp [List.filter_append, hc]
theorem gather_all {f : α → β} {c : α → Bool} {zs : List α} {k : Nat} (hk : zs.length ≤ k) : gather f c (zs.take k) = gather f c zs := by rw [List.take_of_length_le hk]
theorem gather_zero {f : α → β} {c : α → Bool} {zs : List α} : gather f c (zs.take 0) = [] := by simp [gather]
theorem gather_len {f : α → β} {c : α → Bool} {zs : List α} : (gather f c zs).length ≤ zs.length := by unfold gather; rw [List.length_map]; exact List.length_filter_le ..
end
theorem news_at {w : World} {t : TypeId} (cs : Array Value) : ∀ j u, cs.toList[j]? = some u → (w.alloc (.cells cs t)).cell? ((⟨w.heap.size, 0, none⟩ : Addr).add j) = some u := by
  intro j u hu
  rw [Addr.add_lit, Nat.zero_add]
  simpa using hu
theorem flat_snoc {α : Type} {enc : α → List Value} (l : List α) (x : α) : (l ++ [x]).flatMap enc = l.flatMap enc ++ enc x := by simp
theorem bl_grown {a w w' : World} {v : Value} {base n k : Nat} {e : TypeId} {xs : List Value} (h : Below a.heap.size a w) (ho : w.ownsRow base e k v n xs) (hb : a.heap.size ≤ base) (hg : w.grownBy w' v.ownBlock) : Below a.heap.size a w' :=
  h.grown hg h.size fun j hj => Nat.le_trans hb (ho.lt j hj).1
/-- an own slice in its form -/
theorem own_form {α : Type} {enc : α → List Value} {k : Nat} (hk : ∀ x, (enc x).length = k) {w : World} {base n : Nat} {e : TypeId} {v : Value} {zs : List α} (h : w.ownsRow base e k v n (zs.flatMap enc)) (hz : zs.length = n) :
    (v = .slice none 0 0 ∧ n = 0 ∧ zs = []) ∨ ∃ g cap cs, v = .slice (some ⟨g, 0, none⟩) n cap ∧ base ≤ g ∧ Blk w g e cs ∧ cs.size = cap * k ∧ n ≤ cap ∧ cap ≤ maxLen ∧ cs.toList.take (n * k) = zs.flatMap enc := by
  rcases h.2 with ⟨rfl, rfl⟩ | ⟨g, cap, cs, rfl, hb, hB, h1, h2, h3, h4⟩
  · exact .inl ⟨rfl, rfl, List.eq_nil_of_length_eq_zero hz⟩
  · exact .inr ⟨g, cap, cs, rfl, hb, hB, h3, h1, h2, h4⟩
/-- the cells that marks left -/
theorem marks_cells {w : World} {g : Nat} {e : TypeId} {cs : Array Value} {N : Nat} {q : Int} (h : Blk w g e cs) (ht : cs.toList.take N = marks q N) : ∀ i, i < N → w.cell? ⟨g, 0 + i, none⟩ = some (.int .i64 (q + (i : Nat))) := by
  intro i hi
  rw [Nat.zero_add, h.cell_list]
  have := marks_at q N i hi
  rw [← ht, List.getElem?_take, if_pos hi] at this
  exact this
/-- a slice in other blocks still reads the same behind writes to block g -/
theorem rd_grown {α : Type} {enc : α → List Value} {k B : Nat} {w w' : World} {ao : Option Addr} {zs : List α} {g : Nat} (h : Rd enc k B w ao zs) (hg : w.grownBy w' (some g)) (hB : B ≤ g) : Rd enc k B w' ao zs := by
  rcases h with h | ⟨b, off, rfl, hlt, hlt2, hc⟩
  · exact .inl h
  · exact .inr ⟨b, off, rfl, hlt, Nat.lt_of_lt_of_le hlt2 hg.size, fun j x hx i v hv => (World.cell?_of_block (a := ⟨b, _, none⟩) (hg.block b hlt2 (fun e => by injection e with e; omega))).trans (hc j x hx i v hv)⟩
theorem bl_only {a w w' : World} {g : Nat} (h : Below a.heap.size a w) (hg : w.grownBy w' (some g)) (ha : a.heap.size ≤ g) : Below a.heap.size a w' :=
  h.grown hg h.size fun j hj => by injection hj with hj; omega

def encI (x : Int) : List Value := [.int .i64 x]
theorem encI_len : ∀ x, (encI x).length = 1 := fun _ => rfl
/-- element j of a []int that reads as zs, in every later world -/
theorem rdI {w : World} {ao : Option Addr} {zs : List Int} (h : Rd encI 1 w.heap.size w ao zs) (hn : 0 < zs.length) :
    ∃ b off, ao = some ⟨b, off, none⟩ ∧ b < w.heap.size ∧ ∀ j, j < zs.length → ∃ x, zs[j]? = some x ∧ ∀ wr, Below w.heap.size w wr → b < wr.heap.size ∧ wr.cell? ⟨b, off + j, none⟩ = some (.int .i64 x) := by
  obtain ⟨b, off, rfl, h1, h2, hc⟩ := h.at_ hn
  refine ⟨b, off, rfl, h1, fun j hj => ⟨zs[j], List.getElem?_eq_getElem hj, fun wr hb => ⟨Nat.lt_of_lt_of_le h2 hb.size, ?_⟩⟩⟩
  have := (hb.cell (p := ⟨b, off + j * 1 + 0, none⟩) h1).trans (hc j _ (List.getElem?_eq_getElem hj) 0 _ rfl)
  simpa using this
theorem infoI : (Try.prog.info? 3).map (fun i => (i.zero, i.size, i.bytes)) = some (some (.int .i64 0), 1, 8) := by kernel_rfl

set_option maxRecDepth 100000 in
theorem eqIntS_same (ao bo : Option Addr) (n c d : Nat) (zs : List Int) (w : World) (hz : zs.length = n) (hn : n ≤ 1048576) (hr : Rd encI 1 w.heap.size w ao zs) (hr2 : Rd encI 1 w.heap.size w bo zs) :
    Calls Try.prog 19 #[.slice ao n c, .slice bo n d] w fun e w' => e = .returned (.bool true) ∧ Below w.heap.size w w' := by
  have HZ := hide hz
  have HR := hide hr
  have HR2 := hide hr2
  clear hz hr hr2
  go_enter Try.func19, Try.ntmps19
  go_wp2
  go_loopg [5] n (fun gk i wr => ∃ k : Nat, k ≤ n ∧ n - k ≤ gk ∧ i = .int .i64 k ∧ Aside (Below w.heap.size w wr))
  case atStart => exact ⟨0, Nat.zero_le _, by omega, rfl, Below.refl _ _⟩
  case round =>
    obtain ⟨k, hk, hg, rfl, BW⟩ := hrel
    by_cases hlt : k < n
    · have hlti : (k : Int) < (n : Int) := by omega
      have hk0 : (0 : Int) ≤ (k : Int) := by omega
      obtain ⟨b, off, rfl, hb1, hat⟩ := rdI HR.out (by rw [HZ.out]; omega)
      obtain ⟨b', off', rfl, hb1', hat'⟩ := rdI HR2.out (by rw [HZ.out]; omega)
      obtain ⟨x, hx, hxc⟩ := hat k (by rw [HZ.out]; exact hlt)
      obtain ⟨x', hx', hxc'⟩ := hat' k (by rw [HZ.out]; exact hlt)
      obtain rfl : x' = x := by rw [hx] at hx'; injection hx' with h; exact h.symm
      obtain ⟨hbr, c0⟩ := hxc wr BW.out
      obtain ⟨hbr', d0⟩ := hxc' wr BW.out
      clear hx hx' hxc hxc' hat hat'
      go_wp2_with fail
      go_quiet (fail)
      go_wp2
      go_roundg (n - (k + 1))
      case measure => omega
      case rel => exact ⟨k + 1, by omega, by omega, by go_num, below_drewN BW.out _⟩
    · have hge : ¬ (k : Int) < (n : Int) := by omega
      go_wp2
      go_ret
      exact ⟨rfl, BW.out⟩

set_option maxRecDepth 100000 in
theorem markIntS_any (g n cap : Nat) (cs0 : Array Value) (q : Int) (w : World) (hB0 : Blk w g 3 cs0) (hs0 : cs0.size = cap * 1) (hnc : n ≤ cap) (hn : n ≤ 1048576) (hq0 : 0 ≤ q) (hq1 : q ≤ 1099511627776) :
    Calls Try.prog 20 #[.slice (some ⟨g, 0, none⟩) n cap, .int .i64 q] w fun e w' => e = .returned (.int .i64 (q + (n * 1 : Nat))) ∧ w.grownBy w' (some g) ∧ ∃ cs, Blk w' g 3 cs ∧ cs.size = cap * 1 ∧ cs.toList.take (n * 1) = marks q (n * 1) := by
  have HB0 := hide hB0
  have HS0 := hide hs0
  clear hB0 hs0
  go_enter Try.func20, Try.ntmps20
  go_wp2
  go_loopg [1, 5] n (fun gk m i wr => ∃ k : Nat, k ≤ n ∧ n - k ≤ gk ∧ i = .int .i64 k ∧ m = .int .i64 (q + (k : Nat)) ∧ Aside (w.grownBy wr (some g)) ∧ Aside (∃ cs, Blk wr g 3 cs ∧ cs.size = cap * 1 ∧ cs.toList.take k = marks q k))
  case atStart => exact ⟨0, Nat.zero_le _, by omega, rfl, by simp, World.grownBy.refl w _, ⟨cs0, HB0.out, HS0.out, by simp [marks]⟩⟩
  case round =>
    obtain ⟨k, hk, hg, rfl, rfl, BW, A⟩ := hrel
    by_cases hlt : k < n
    · have hlti : (k : Int) < (n : Int) := by omega
      obtain ⟨cs, hB, hs, ht⟩ := A.out
      clear A
      have HT := hide ht
      have HS := hide hs
      clear ht hs
      have d0 : wr.cell? ⟨g, k, none⟩ = some (cs[k]'(by rw [HS.out]; omega)) := by rw [hB.cell]; exact Array.getElem?_eq_getElem _
      have f0 : wr.frozen? ⟨g, k, none⟩ = false := hB.frozen _
      have HB := hide hB
      clear hB
      have hm0 : 0 ≤ q + (k : Nat) := by omega
      have hm1 : q + (k : Nat) ≤ 2199023255552 := by omega
      obtain ⟨m, hm⟩ : ∃ m : Int, m = q + (k : Nat) := ⟨_, rfl⟩
      rw [← hm] at hm0 hm1 ⊢
      have HM := hide hm
      clear hm
      go_wp2
      go_roundg (n - (k + 1))
      case measure => omega
      case rel =>
        refine ⟨k + 1, by omega, by omega, by go_num, ?_, grownBy_setOnly BW.out _ _, setL cs k [.int .i64 m], HB.out.set_ _ _, ?_, ?_⟩
        · rw [HM.out]; congr 1; omega
        · rw [setL_size]; exact HS.out
        · have e : marks m 1 = [.int .i64 m] := by simp [marks]
          rw [marks_add, ← HT.out, ← HM.out, e]
          exact setL_take cs k [.int .i64 m] (by rw [HS.out]; simp only [List.length_cons, List.length_nil]; omega)
    · have hge : ¬ (k : Int) < (n : Int) := by omega
      have : k = n := by omega
      subst this
      go_wp2
      go_ret
      exact ⟨ret_int (by simp), BW.out, by simpa using A.out⟩

set_option maxRecDepth 100000 in
theorem heldIntS_any (b off n cap : Nat) (q : Int) (w : World) (hn : n ≤ 1048576) (hq0 : 0 ≤ q) (hq1 : q ≤ 1099511627776) (hc : ∀ i, i < n * 1 → w.cell? ⟨b, off + i, none⟩ = some (.int .i64 (q + (i : Nat)))) :
    Calls Try.prog 21 #[.slice (some ⟨b, off, none⟩) n cap, .int .i64 q] w fun e w' => e = .returned (.int .i64 (q + (n * 1 : Nat))) ∧ w = w' := by
  have HC := hide hc
  clear hc
  go_enter Try.func21, Try.ntmps21
  go_wp2
  go_loopg [1, 5] n (fun gk m i wr => ∃ k : Nat, k ≤ n ∧ n - k ≤ gk ∧ i = .int .i64 k ∧ m = .int .i64 (q + (k : Nat)) ∧ w = wr)
  case atStart => exact ⟨0, Nat.zero_le _, by omega, rfl, by simp, rfl⟩
  case round =>
    obtain ⟨k, hk, hg, rfl, rfl, rfl⟩ := hrel
    by_cases hlt : k < n
    · have hlti : (k : Int) < (n : Int) := by omega
      have hm0 : 0 ≤ q + (k : Nat) := by omega
      have hm1 : q + (k : Nat) ≤ 2199023255552 := by omega
      have c0 := HC.out k (by omega)
      obtain ⟨m, hm⟩ : ∃ m : Int, m = q + (k : Nat) := ⟨_, rfl⟩
      rw [← hm] at hm0 hm1 c0 ⊢
      have HM := hide hm
      clear hm
      go_wp2
      go_roundg (n - (k + 1))
      case measure => omega
      case rel =>
        refine ⟨k + 1, by omega, by omega, by go_num, ?_, rfl⟩
        rw [HM.out]; congr 1; omega
    · have hge : ¬ (k : Int) < (n : Int) := by omega
      have : k = n := by omega
      subst this
      go_wp2
      go_ret
      exact ⟨ret_int (by simp), rfl⟩

end Go.Proofs.Ytdgalehipgdhiaa
