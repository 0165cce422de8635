/- Sheets of loans in order. -/
import Derived.Test.YtojahihkoaabdaaN16
import Derived.Test.YtojahihkoaabdaaOwn
import Derived.Ground.NamesProg
import Derived.Shelf.Lay
import Derived.Shelf.Slices.In.SortNone
import Derived.Shelf.Sort.Plain
import Derived.Sort.OwnSortedInts
namespace Go.Proofs.Ytojahihkoaabdaa
open Go.RowKit Go.Shelf
shelf_lay Lays.n189 Nm 189 at Try as Try.sortI
set_option linter.unusedVariables false
set_option linter.unusedSimpArgs false

theorem flatN (zs : List Int) : zs.flatMap encI = zs.map (Value.int .i64) := by
  induction zs with
  | nil => rfl
  | cons z zs ih => simp [encI, ih]
theorem own_baseL {w : World} {b b2 n k : Nat} {e : TypeId} {v : Value} {xs : List Value} (ho : w.ownsRow b e k v n xs) (h : b2 ≤ b) : w.ownsRow b2 e k v n xs := ⟨ho.1, ho.2.imp id (fun ⟨g, cap, cur, h1, h2, r⟩ => ⟨g, cap, cur, h1, Nat.le_trans h h2, r⟩)⟩
theorem Sort_own {base : Nat} (v : Value) (n : Nat) (zs : List Int) (w : World) (ho : w.ownsRow base 3 1 v n (zs.flatMap encI)) (hz : zs.length = n) (hn : n ≤ 1000000) :
    Calls Try.prog 32 #[v] w fun e w' => e = .returned (.tuple #[]) ∧ w.grownBy w' v.ownBlock ∧ w'.ownsRow base 3 1 v n ((sortL zs).flatMap encI) := by
  rcases own_form encI_len ho hz with ⟨rfl, rfl, rfl⟩ | ⟨g, cap, cs, rfl, hg, hB, hs, hnc, hm, ht⟩
  · have hc := Any.slices_Sort_int_none Try.sortI none 0 w
    change Calls Try.prog 32 _ _ _ at hc
    refine hc.mono ?_
    rintro e w' ⟨rfl, rfl⟩
    exact ⟨rfl, World.grownBy.refl _ _, by simpa [sortL] using World.ownsRow_nil _ _ _ _⟩
  · subst hz
    have hB' : w.heap[g]? = some (.cells cs 3 (0, 0)) := hB
    have hH := holds_of_blockI (ss := zs) hB' (by rw [← flatN]; simpa using ht)
    have hc := Any.slices_Sort_int Try.sortI g 0 cap zs w hH hB.lt (by omega)
    change Calls Try.prog 32 _ _ _ at hc
    refine hc.mono ?_
    rintro e w' ⟨rfl, m, os, rfl⟩
    refine ⟨rfl, grownBy_sortedI _, ?_⟩
    rw [flatN]
    exact ownsRow_sortedI (ss := zs) (ts := sortL zs) (sort_len zs) hg hB' hnc hm hs

/-- a test of a loan, by a closure that reads what it captured and makes memory of its own -/
def KeepL (g : Nat) (lb : Array Value) (p : Ln → Bool) (w : World) : Prop := ∀ (W : World) (x : Ln), Below w.heap.size w W → Calls Try.prog g (#[.agg #[.int .i64 x.s, .int .i64 x.r, .int .i64 x.o, .int .i64 x.d, .int .i64 x.b]] ++ lb) W fun e w' => e = .returned (.bool (p x)) ∧ Below W.heap.size W w'
set_option maxRecDepth 100000 in
set_option maxHeartbeats 1000000 in
theorem sheetsOf_any (g : Nat) (lb : Array Value) (p : Ln → Bool) (eg : ∀ args w, (callFunc g args).run Try.prog w = .ok (.enter g args) w) (ao : Option Addr) (n c : Nat) (zs : List Ln) (w : World) (hz : zs.length = n) (hn : n ≤ 1048576) (hr : Rd encLn 5 w.heap.size w ao zs) (hn15 : n ≤ 1000) (hp : KeepL g lb p w) :
    Calls Try.prog 19 #[.slice ao n c, .func (.func g) #[] lb] w fun e w' => ∃ v, e = .returned v ∧ w'.ownsRow w.heap.size 3 1 v (sortL (gather Ln.s p zs)).length ((sortL (gather Ln.s p zs)).flatMap encI) ∧ Below w.heap.size w w' := by
  have HZ := hide hz
  have HR := hide hr
  have HP := hide hp
  clear hz hr hp
  have hinf := infoI
  obtain ⟨i0, hi, hz0, hz1, hz2⟩ := info_parts hinf
  clear hinf
  have HI := hide (And.intro hi (And.intro hz0 (And.intro hz1 hz2)))
  clear hi hz0 hz1 hz2
  go_enter Try.func19, Try.ntmps19
  go_wp2
  go_loopg [5, 10] n (fun gk v i wr => ∃ k : Nat, k ≤ n ∧ n - k ≤ gk ∧ i = .int .i64 k ∧ Aside (wr.ownsRow w.heap.size 3 1 v (gather Ln.s p (zs.take k)).length ((gather Ln.s p (zs.take k)).flatMap encI)) ∧ Aside (Below w.heap.size w wr))
  case atStart => exact ⟨0, Nat.zero_le _, by omega, rfl, by rw [gather_zero]; exact World.ownsRow_nil _ _ _ _, Below.refl _ _⟩
  case round =>
    obtain ⟨k, hk, hg, rfl, OW, BW⟩ := hrel
    by_cases hlt : k < n
    · have hltz : (k : Int) < (n : Int) := by omega
      obtain ⟨b, off, rfl, hb1, hat⟩ := rdLn HR.out (by rw [HZ.out]; omega)
      obtain ⟨x, hx, hxc⟩ := hat k (by rw [HZ.out]; exact hlt)
      have HX := hide hx
      obtain ⟨hbr, c0, c1, c2, c3, c4⟩ := hxc wr BW.out
      have HWN := hide (BW.out.alloc BW.out.size (.cells #[.int .i64 x.s, .int .i64 x.r, .int .i64 x.o, .int .i64 x.d, .int .i64 x.b] 39))
      have OWN := hide (OW.out.alloc (.cells #[.int .i64 x.s, .int .i64 x.r, .int .i64 x.o, .int .i64 x.d, .int .i64 x.b] 39))
      have hcall := HP.out (wr.alloc (.cells #[.int .i64 x.s, .int .i64 x.r, .int .i64 x.o, .int .i64 x.d, .int .i64 x.b] 39)) x HWN.out
      clear hx hxc hat OW
      cases hq : p x with
      | true =>
        rw [hq] at hcall
        have HQ := hide hq
        clear hq
        go_wp2_with fail
        refine hcall.mono ?_
        rintro e w2 ⟨rfl, hb⟩
        have HB2 := hide (bl_step HWN.out hb)
        have HO2 := hide (own_step OWN.out hb)
        have f0 : w2.cell? ⟨wr.heap.size, 0, none⟩ = some (.int .i64 x.s) := (hb.cell (p := ⟨wr.heap.size, 0, none⟩) (by simp)).trans (by simp)
        have hsz := HB2.out.size
        have hgl := gather_len (f := Ln.s) (c := p) (zs := zs.take k)
        have htl : (zs.take k).length ≤ k := List.length_take_le _ _
        generalize hl : (gather Ln.s p (zs.take k)).length = L at hgl
        have HL := hide hl
        rw [hl] at HO2
        clear hb hcall hl OWN HWN
        obtain ⟨hi, hz0, hz1, hz2⟩ := HI.out
        go_wp2_with (at_builtin; refine wpList_append_own _ rfl _ _ 30 rfl w.heap.size 3 i0 (.int .i64 0) 1 8 Try.underlying30 hi hz0 hz1 hz2 rfl (by decide) _ L _ rfl (HO2.out.alloc _) ⟨w2.heap.size, 0, none⟩ 1 1 [.int .i64 x.s] rfl rfl ?c1 ?c2 ?c3 ?c4 ?c5 ?_)
        case c1 => exact news_at #[.int .i64 x.s]
        case c2 => intro u hu; simp at hu; subst hu; rfl
        case c3 => unfold maxLen; omega
        case c4 => omega
        case c5 => simp; omega
        intro v' w3 hown' hgrow _
        have HB3 := hide (bl_grown (HB2.out.alloc hsz _) (HO2.out.alloc _) (Nat.le_refl _) hgrow)
        have HO3 := hide hown'
        clear hown' hgrow hi hz0 hz1 hz2
        go_wp2
        go_roundg (n - (k + 1))
        case measure => omega
        case rel => exact ⟨k + 1, by omega, by omega, by go_num, by rw [gather_yes HX.out HQ.out, flat_snoc, List.length_append, HL.out]; exact HO3.out, HB3.out⟩
      | false =>
        rw [hq] at hcall
        have HQ := hide hq
        clear hq
        go_wp2_with fail
        refine hcall.mono ?_
        rintro e w2 ⟨rfl, hb⟩
        have HB2 := hide (bl_step HWN.out hb)
        have HO2 := hide (own_step OWN.out hb)
        clear hb hcall OWN HWN
        go_wp2
        go_roundg (n - (k + 1))
        case measure => omega
        case rel => exact ⟨k + 1, by omega, by omega, by go_num, by rw [gather_no HX.out HQ.out]; exact HO2.out, HB2.out⟩
    · have hltz : ¬ (k : Int) < (n : Int) := by omega
      have HOA := hide OW.out
      rw [gather_all (by rw [HZ.out]; omega)] at HOA
      have hgl := gather_len (f := Ln.s) (c := p) (zs := zs)
      rw [HZ.out] at hgl
      have HLS := hide (sort_len (gather Ln.s p zs))
      clear OW
      generalize hl : (gather Ln.s p zs).length = L at hgl HOA HLS
      have HL := hide hl
      clear hl
      go_wp2_with fail
      refine (Sort_own _ L (gather Ln.s p zs) wr HOA.out HL.out (by omega)).mono ?_
      rintro e w2 ⟨rfl, hgr, ho⟩
      have HB2 := hide (bl_grown BW.out HOA.out (Nat.le_refl _) hgr)
      have HO2 := hide ho
      clear hgr ho
      go_wp2
      go_ret
      exact ⟨_, rfl, by rw [HLS.out]; exact HO2.out, HB2.out⟩

end Go.Proofs.Ytojahihkoaabdaa
