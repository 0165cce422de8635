/- FavoriteSheet: the program. -/
import Derived.Test.YtojahihkoaabdaaN18
namespace Go.Proofs.Ytojahihkoaabdaa
open Go.RowKit
set_option linter.unusedVariables false
set_option linter.unusedSimpArgs false

theorem keepAll (w : World) : KeepL 20 #[] (fun _ => true) w := fun W x hb => by
  show Calls Try.prog 20 #[.agg #[.int .i64 x.s, .int .i64 x.r, .int .i64 x.o, .int .i64 x.d, .int .i64 x.b]] W _
  clear hb
  go_enter Try.func20, Try.ntmps20
  go_wp2
  go_ret
  exact ⟨rfl, (Below.refl _ _).alloc (Nat.le_refl _) _⟩
theorem gather_true (zs : List Ln) : gather Ln.s (fun _ => true) zs = shL zs := by unfold gather shL; rw [List.filter_eq_self.2 (fun _ _ => rfl)]
theorem runC_stay {l : List Int} {k : Nat} (h : k = 0 ∨ l[k]! = l[k - 1]!) : runC l (k + 1) = runC l k + 1 := by
  rw [runC, if_neg]; rintro ⟨h1, h2⟩; rcases h with h | h
  · omega
  · exact h2 h
theorem runC_new {l : List Int} {k : Nat} (h : 0 < k) (h2 : l[k]! ≠ l[k - 1]!) : runC l (k + 1) = 1 := by rw [runC, if_pos ⟨h, h2⟩]
theorem runB_new {l : List Int} {k : Nat} (h : (runB l k).2 < runC l (k + 1)) : runB l (k + 1) = (l[k]!, runC l (k + 1)) := by rw [runB, if_pos h]
theorem runB_stay {l : List Int} {k : Nat} (h : ¬ (runB l k).2 < runC l (k + 1)) : runB l (k + 1) = runB l k := by rw [runB, if_neg h]
set_option maxRecDepth 100000 in
set_option maxHeartbeats 2000000 in
theorem FavoriteSheet_any (ao : Option Addr) (n : Nat) (zs : List Ln) (w : World) (hz : zs.length = n) (hn : n ≤ 1048576) (hr : Rd encLn 5 w.heap.size w ao zs) :
    Calls Try.prog 8 #[.slice ao n n] w fun e w' => e = .returned (.tuple #[.int .i64 (favV zs), .bool (okFav zs)]) ∧ Below w.heap.size w w' := by
  have eg : Hid (∀ args w, (callFunc 20 args).run Try.prog w = .ok (.enter 20 args) w) := hide (enters_at Try.func20 (by kernel_rfl) rfl)
  have HZ := hide hz
  have HR := hide hr
  have HA := hide (AreLoans_any ao n n zs (Nat.le_refl _) w hz hn HR.out)
  clear hz hr
  have key : loansB zs = false ∨ (loansB zs = true ∧ n = 0) ∨ (loansB zs = true ∧ 0 < n) := by
    cases loansB zs
    · simp
    · simp; omega
  rcases key with h1 | ⟨h1, h2⟩ | ⟨h1, h2⟩
  · have HO : Hid (okFav zs = false) := hide (by simp [okFav, *])
    go_enter Try.func8, Try.ntmps8
    go_wp2_with fail
    refine HA.out.mono ?_
    rintro e w1 ⟨rfl, hb⟩
    rw [h1]
    have HB := hide hb
    clear hb
    go_wp2
    go_ret2
    exact ⟨ret_ib (by unfold favV; rw [HO.out]; rfl) HO.out.symm, HB.out⟩
  · have HO : Hid (okFav zs = false) := hide (by have := HZ.out; simp [okFav, *])
    subst h2
    go_enter Try.func8, Try.ntmps8
    go_wp2_with fail
    refine HA.out.mono ?_
    rintro e w1 ⟨rfl, hb⟩
    rw [h1]
    have HB := hide hb
    clear hb
    go_wp2
    go_ret2
    exact ⟨ret_ib (by unfold favV; rw [HO.out]; rfl) HO.out.symm, HB.out⟩
  have hn15 : n ≤ 15 := by rw [← HZ.out]; unfold loansB at h1; simp only [Bool.and_eq_true, decide_eq_true_eq] at h1; exact h1.2
  have HO : Hid (okFav zs = true) := hide (by have := HZ.out; simp [okFav, *]; omega)
  obtain ⟨S, hS⟩ : ∃ S, S = sortL (shL zs) := ⟨_, rfl⟩
  have HSL : Hid (S.length = n) := hide (by rw [hS, sort_len, sh_len, HZ.out])
  have HV : Hid (favV zs = (runB S n).1) := hide (by
    unfold favV; rw [HO.out]
    have := fav_eq (l := shL zs) (by rw [sh_len, HZ.out]; exact h2)
    rw [sh_len, HZ.out] at this
    rw [HZ.out, hS]; exact this)
  have HSS := hide hS
  clear hS
  have hn0 : ¬ (n : Int) = 0 := by omega
  go_enter Try.func8, Try.ntmps8
  go_wp2_with fail
  refine HA.out.mono ?_
  rintro e w1 ⟨rfl, hb⟩
  rw [h1]
  have HB := hide hb
  clear hb HA
  go_wp2_with fail
  refine (sheetsOf_any 20 #[] (fun _ => true) eg.out ao n n zs w1 HZ.out hn (rd_step HR.out HB.out) (by omega) (keepAll w1)).mono ?_
  rintro e w2 ⟨v, rfl, ho, hb⟩
  rw [gather_true, ← HSS.out, HSL.out] at ho
  have HB2 := hide (bl_step HB.out hb)
  obtain ⟨a2, c2, rfl, hc2, _, hrd⟩ := own_rd encI_len ho HSL.out
  have HRS := hide hrd
  clear hb ho hrd
  go_wp2
  go_loopg [5, 6, 7, 22] n (fun gk b m q i wr => ∃ k : Nat, k ≤ n ∧ n - k ≤ gk ∧ i = .int .i64 k ∧ b = .int .i64 (runB S k).1 ∧ m = .int .i64 ((runB S k).2 : Nat) ∧ q = .int .i64 (runC S k : Nat) ∧ Aside (Below w2.heap.size w2 wr))
  case atStart => exact ⟨0, Nat.zero_le _, by omega, rfl, rfl, rfl, rfl, Below.refl _ _⟩
  case round =>
    obtain ⟨k, hk, hgk, rfl, rfl, rfl, rfl, BW⟩ := hrel
    by_cases hlt : k < n
    · have hltz : (k : Int) < (n : Int) := by omega
      have hk0 : (0 : Int) ≤ (k : Int) := by omega
      obtain ⟨b, off, rfl, hb1, hat⟩ := rdI HRS.out (by rw [HSL.out]; omega)
      obtain ⟨x, hx, hxc⟩ := hat k (by rw [HSL.out]; exact hlt)
      have HX := hide (getB hx)
      obtain ⟨hbr, c0⟩ := hxc wr BW.out
      have bc := runC_le S k
      have bb := runB_le S k
      generalize hB : runB S k = B at bb
      generalize hC : runC S k = C at bc
      have HBB := hide hB
      have HCC := hide hC
      clear hB hC hx hxc
      obtain ⟨b0, m0⟩ := B
      dsimp only at bb ⊢
      have kw : IntKind.i64.wrap ((C : Int) + 1) = ((C + 1 : Nat) : Int) := by rw [IntWalk.i64_in _ (by omega)]; omega
      have kw1 : IntKind.i64.wrap ((0 : Int) + 1) = (1 : Int) := by decide
      have step : (k = 0 ∨ ∃ y, 0 < k ∧ S[k - 1]? = some y ∧ x = y) ∨ (∃ y, 0 < k ∧ S[k - 1]? = some y ∧ x ≠ y) := by
        rcases Nat.eq_zero_or_pos k with h | h
        · exact .inl (.inl h)
        · have hy := List.getElem?_eq_getElem (l := S) (i := k - 1) (by rw [HSL.out]; omega)
          by_cases he : x = S[k - 1]'(by rw [HSL.out]; omega)
          · exact .inl (.inr ⟨_, h, hy, he⟩)
          · exact .inr ⟨_, h, hy, he⟩
      rcases step with h | ⟨y, h0, hy, hne⟩
      · have HCN : Hid (runC S (k + 1) = C + 1) := hide (by
          rw [runC_stay, HCC.out]
          rcases h with h | ⟨y, _, hy, he⟩
          · exact .inl h
          · exact .inr (by rw [HX.out, getB hy, he]))
        have cmp : (m0 < C + 1 ∧ Hid (runB S (k + 1) = (x, C + 1))) ∨ (¬ m0 < C + 1 ∧ Hid (runB S (k + 1) = (b0, m0))) := by
          by_cases hm : m0 < C + 1
          · exact .inl ⟨hm, by show _ = _; rw [runB_new (by rw [HBB.out, HCN.out]; exact hm), HX.out, HCN.out]⟩
          · exact .inr ⟨hm, by show _ = _; rw [runB_stay (by rw [HBB.out, HCN.out]; exact hm), HBB.out]⟩
        rcases h with h00 | ⟨y, h0, hy, rfl⟩
        · have hkk : ¬ (0 : Int) < (k : Int) := by omega
          clear h00
          rcases cmp with ⟨hm, HN⟩ | ⟨hm, HN⟩
          · have hmz : (m0 : Int) < ((C + 1 : Nat) : Int) := by omega
            clear hm
            go_wp2
            go_roundg (n - (k + 1))
            case measure => omega
            case rel => exact ⟨k + 1, by omega, by omega, by go_num, by rw [HN.out], (by rw [HN.out] <;> first | rfl | simp | (congr 1)), (by rw [HCN.out] <;> first | rfl | simp | (congr 1)), BW.out⟩
          · exfalso; omega
        · obtain ⟨b', off', he', hb1', hat'⟩ := rdI HRS.out (by rw [HSL.out]; omega)
          cases he'
          obtain ⟨y', hy', hyc⟩ := hat (k - 1) (by rw [HSL.out]; omega)
          have hyy := hy'; rw [hy] at hyy; injection hyy with hyy; subst hyy
          obtain ⟨_, p0⟩ := hyc wr BW.out
          have k1 : (0 : Int) < (k : Int) := by omega
          have k3 : (0 : Int) ≤ (k : Int) - 1 := by omega
          have k4 : (k : Int) - 1 < (n : Int) := by omega
          have k5 : IntKind.i64.wrap ((k : Int) - 1) = (k : Int) - 1 := IntWalk.i64_in _ (by omega)
          have k6 : ((k : Int) - 1).toNat = k - 1 := by omega
          clear hy hy' hyc hat' hb1'
          rcases cmp with ⟨hm, HN⟩ | ⟨hm, HN⟩
          · have hmz : (m0 : Int) < ((C + 1 : Nat) : Int) := by omega
            clear hm
            go_wp2
            go_roundg (n - (k + 1))
            case measure => omega
            case rel => exact ⟨k + 1, by omega, by omega, by go_num, by rw [HN.out], (by rw [HN.out] <;> first | rfl | simp | (congr 1)), (by rw [HCN.out] <;> first | rfl | simp | (congr 1)), BW.out⟩
          · have hmz : ¬ (m0 : Int) < ((C + 1 : Nat) : Int) := by omega
            clear hm
            go_wp2
            go_roundg (n - (k + 1))
            case measure => omega
            case rel => exact ⟨k + 1, by omega, by omega, by go_num, by rw [HN.out], (by rw [HN.out] <;> first | rfl | simp | (congr 1)), (by rw [HCN.out] <;> first | rfl | simp | (congr 1)), BW.out⟩
      · have HCN : Hid (runC S (k + 1) = 1) := hide (runC_new h0 (by rw [HX.out, getB hy]; exact hne))
        have cmp : (m0 < 1 ∧ Hid (runB S (k + 1) = (x, 1))) ∨ (¬ m0 < 1 ∧ Hid (runB S (k + 1) = (b0, m0))) := by
          by_cases hm : m0 < 1
          · exact .inl ⟨hm, by show _ = _; rw [runB_new (by rw [HBB.out, HCN.out]; exact hm), HX.out, HCN.out]⟩
          · exact .inr ⟨hm, by show _ = _; rw [runB_stay (by rw [HBB.out, HCN.out]; exact hm), HBB.out]⟩
        obtain ⟨b', off', he', hb1', hat'⟩ := rdI HRS.out (by rw [HSL.out]; omega)
        cases he'
        obtain ⟨y', hy', hyc⟩ := hat (k - 1) (by rw [HSL.out]; omega)
        have hyy := hy'; rw [hy] at hyy; injection hyy with hyy; subst hyy
        obtain ⟨_, p0⟩ := hyc wr BW.out
        have k1 : (0 : Int) < (k : Int) := by omega
        have k3 : (0 : Int) ≤ (k : Int) - 1 := by omega
        have k4 : (k : Int) - 1 < (n : Int) := by omega
        have k5 : IntKind.i64.wrap ((k : Int) - 1) = (k : Int) - 1 := IntWalk.i64_in _ (by omega)
        have k6 : ((k : Int) - 1).toNat = k - 1 := by omega
        clear hy hy' hyc hat' hb1'
        have hne2 : ¬ x = y := hne
        rcases cmp with ⟨hm, HN⟩ | ⟨hm, HN⟩
        · have hmz : (m0 : Int) < (1 : Int) := by omega
          clear hm
          go_wp2
          go_roundg (n - (k + 1))
          case measure => omega
          case rel => exact ⟨k + 1, by omega, by omega, by go_num, by rw [HN.out], (by rw [HN.out] <;> first | rfl | simp | (congr 1)), (by rw [HCN.out] <;> first | rfl | simp | (congr 1)), BW.out⟩
        · have hmz : ¬ (m0 : Int) < (1 : Int) := by omega
          clear hm
          go_wp2
          go_roundg (n - (k + 1))
          case measure => omega
          case rel => exact ⟨k + 1, by omega, by omega, by go_num, by rw [HN.out], (by rw [HN.out] <;> first | rfl | simp | (congr 1)), (by rw [HCN.out] <;> first | rfl | simp | (congr 1)), BW.out⟩
    · have hltz : ¬ (k : Int) < (n : Int) := by omega
      obtain rfl : k = n := by omega
      go_wp2
      go_ret2
      exact ⟨ret_ib HV.out.symm HO.out.symm, bl_step HB2.out BW.out⟩

end Go.Proofs.Ytojahihkoaabdaa
