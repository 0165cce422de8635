/- The text of a loan. -/
import Derived.Test.YtojahihkoaabdaaDoorJ1
import Derived.Test.YtojahihkoaabdaaDoorN1
namespace Go.Proofs.YtojahihkoaabdaaDoor
open Go.RowKit
set_option linter.unusedVariables false
set_option linter.unusedSimpArgs false

/-- the text of a loan -/
def loanT0 (x : Ln) : ByteArray := itoaB x.s ++ (⟨#[32, 116, 111, 32]⟩ : ByteArray) ++ itoaB x.r ++ (⟨#[32]⟩ : ByteArray) ++ itoaB x.o ++ (⟨#[46, 46]⟩ : ByteArray) ++ itoaB x.d
def loanT (x : Ln) : ByteArray := if okLn x then (if x.b = -1 then loanT0 x else loanT0 x ++ (⟨#[32, 98, 97, 99, 107, 32]⟩ : ByteArray) ++ itoaB x.b) else ⟨#[]⟩
theorem ret_sb {a b : ByteArray} {c d : Bool} (h1 : a = b) (h2 : c = d) : Ending.returned (.tuple #[.string a, .bool c]) = .returned (.tuple #[.string b, .bool d]) := by rw [h1, h2]

set_option maxRecDepth 100000 in
set_option maxHeartbeats 1000000 in
theorem LoanText_any (x : Ln) (w : World) (ht : TabW w) :
    Calls Tryd.prog 6 #[.agg #[.int .i64 x.s, .int .i64 x.r, .int .i64 x.o, .int .i64 x.d, .int .i64 x.b]] w fun e w' => e = .returned (.tuple #[.string (loanT x), .bool (okLn x)]) ∧ Below w.heap.size w w' := by
  have mixed : Tryd.prog.follows .mixedOrders = true := by kernel_rfl
  obtain ⟨V, hV⟩ : ∃ V, V = w.alloc (.cells #[.int .i64 x.s, .int .i64 x.r, .int .i64 x.o, .int .i64 x.d, .int .i64 x.b] 26) := ⟨_, rfl⟩
  have HBV : Hid (Below w.heap.size w V) := hide (by rw [hV]; exact (Below.refl _ _).alloc (Nat.le_refl _) _)
  have g0 : w.heap.size < V.heap.size := by rw [hV]; simp
  have e0 : V.cell? ⟨w.heap.size, 0, none⟩ = some (.int .i64 x.s) := by rw [hV]; simp
  have e1 : V.cell? ⟨w.heap.size, 1, none⟩ = some (.int .i64 x.r) := by rw [hV]; simp
  have e2 : V.cell? ⟨w.heap.size, 2, none⟩ = some (.int .i64 x.o) := by rw [hV]; simp
  have e3 : V.cell? ⟨w.heap.size, 3, none⟩ = some (.int .i64 x.d) := by rw [hV]; simp
  have e4 : V.cell? ⟨w.heap.size, 4, none⟩ = some (.int .i64 x.b) := by rw [hV]; simp
  have HT := hide (ht.below HBV.out)
  clear ht
  have HW := hide hV
  clear hV
  cases hk : okLn x with
  | false =>
    have HK := hide hk
    have HV : Hid (loanT x = ⟨#[]⟩) := hide (by unfold loanT; rw [hk]; rfl)
    clear hk
    go_enter Tryd.func6, Tryd.ntmps6
    go_wp2_with fail
    rw [← HW.out]
    refine (isLoan_any x _).mono ?_
    rintro e w1 ⟨rfl, hb⟩
    rw [HK.out]
    have HB := hide (bl_step HBV.out hb)
    clear hb
    go_wp2
    go_ret2
    exact ⟨ret_sb HV.out.symm rfl, HB.out⟩
  | true =>
    have HK := hide hk
    have bd := okLn_bd hk
    clear hk
    go_enter Tryd.func6, Tryd.ntmps6
    go_wp2_with fail
    rw [← HW.out]
    refine (isLoan_any x _).mono ?_
    rintro e w1 ⟨rfl, hb⟩
    rw [HK.out]
    have HB := hide (bl_step HBV.out hb)
    have f0 := (hb.cell (p := ⟨w.heap.size, 0, none⟩) g0).trans e0
    have f1 := (hb.cell (p := ⟨w.heap.size, 1, none⟩) g0).trans e1
    have f2 := (hb.cell (p := ⟨w.heap.size, 2, none⟩) g0).trans e2
    have f3 := (hb.cell (p := ⟨w.heap.size, 3, none⟩) g0).trans e3
    have f4 := (hb.cell (p := ⟨w.heap.size, 4, none⟩) g0).trans e4
    have g1 : w.heap.size < w1.heap.size := Nat.lt_of_lt_of_le g0 hb.size
    have HT := hide (HT.out.below hb)
    clear hb e0 e1 e2 e3 e4
    have c0 : ∀ d os, (Go.Sort.grow (redrawn w1 d) os).cell? ⟨w.heap.size, 0, none⟩ = some (.int .i64 x.s) := cell_regrown f0
    have c1 : ∀ d os, (Go.Sort.grow (redrawn w1 d) os).cell? ⟨w.heap.size, 1, none⟩ = some (.int .i64 x.r) := cell_regrown f1
    have c2 : ∀ d os, (Go.Sort.grow (redrawn w1 d) os).cell? ⟨w.heap.size, 2, none⟩ = some (.int .i64 x.o) := cell_regrown f2
    have c3 : ∀ d os, (Go.Sort.grow (redrawn w1 d) os).cell? ⟨w.heap.size, 3, none⟩ = some (.int .i64 x.d) := cell_regrown f3
    have QS : ∀ (d : Nat) (os : Array Obj), Hid (Below w1.heap.size w1 (Go.Sort.grow (redrawn w1 d) os)) := fun d os => below_regrown w1 d os
    have hs := fun (d : Nat) (os : Array Obj) => text_any x.s (Go.Sort.grow (redrawn w1 d) os) (by omega) (by omega) (HT.out.below (below_regrown _ _ _))
    have hr := fun (d : Nat) (os : Array Obj) => text_any x.r (Go.Sort.grow (redrawn w1 d) os) (by omega) (by omega) (HT.out.below (below_regrown _ _ _))
    have ho := fun (d : Nat) (os : Array Obj) => text_any x.o (Go.Sort.grow (redrawn w1 d) os) (by omega) (by omega) (HT.out.below (below_regrown _ _ _))
    have hd := fun (d : Nat) (os : Array Obj) => text_any x.d (Go.Sort.grow (redrawn w1 d) os) (by omega) (by omega) (HT.out.below (below_regrown _ _ _))
    have zs : (itoaB x.s).size ≤ 21 := itoaB_size _ (by omega) (by omega)
    have zr : (itoaB x.r).size ≤ 21 := itoaB_size _ (by omega) (by omega)
    have zo : (itoaB x.o).size ≤ 21 := itoaB_size _ (by omega) (by omega)
    have zd : (itoaB x.d).size ≤ 21 := itoaB_size _ (by omega) (by omega)
    obtain ⟨a, ha⟩ : ∃ a, a = itoaB x.s := ⟨_, rfl⟩
    obtain ⟨b, hb⟩ : ∃ b, b = itoaB x.r := ⟨_, rfl⟩
    obtain ⟨c, hc⟩ : ∃ c, c = itoaB x.o := ⟨_, rfl⟩
    obtain ⟨t, ht⟩ : ∃ t, t = itoaB x.d := ⟨_, rfl⟩
    have HV0 : Hid (loanT0 x = a ++ (⟨#[32, 116, 111, 32]⟩ : ByteArray) ++ b ++ (⟨#[32]⟩ : ByteArray) ++ c ++ (⟨#[46, 46]⟩ : ByteArray) ++ t) := hide (by unfold loanT0; rw [ha, hb, hc, ht])
    rw [← ha] at hs zs
    rw [← hb] at hr zr
    rw [← hc] at ho zo
    rw [← ht] at hd zd
    clear ha hb hc ht
    have s1 : ¬ 9223372036854775807 < a.size + 4 := by omega
    have s2 : ¬ 9223372036854775807 < a.size + 4 + b.size := by omega
    have s3 : ¬ 9223372036854775807 < a.size + 4 + b.size + 1 := by omega
    have s4 : ¬ 9223372036854775807 < a.size + 4 + b.size + 1 + c.size := by omega
    have s5 : ¬ 9223372036854775807 < a.size + 4 + b.size + 1 + c.size + 2 := by omega
    have s6 : ¬ 9223372036854775807 < a.size + 4 + b.size + 1 + c.size + 2 + t.size := by omega
    go_wp2_with fail
    refine wp_region_quiet_below (by assumption) (by kernel_rfl) ?_
    repeat (quiet_step (first | (go_at_call 10; with_reducible refine Calls.regrown_of (hs _ _)) | (go_at_call 10; with_reducible refine Calls.regrown_of (hr _ _)) | (go_at_call 10; with_reducible refine Calls.regrown_of (ho _ _)) | (go_at_call 10; with_reducible refine Calls.regrown_of (hd _ _))))
    refine wpQuiet_nil ?_
    intro _ hw'
    obtain ⟨⟨nq, osq⟩, hw''⟩ := hw'
    subst hw''
    have HB2 := QS nq osq
    generalize Go.Sort.grow (redrawn w1 nq) osq = w2 at HB2 ⊢
    have k4 := (HB2.out.cell (p := ⟨w.heap.size, 4, none⟩) g1).trans f4
    have HB3 := hide (bl_step HB.out HB2.out)
    have HT := hide (HT.out.below HB2.out)
    obtain ⟨T, hT⟩ : ∃ T, T = a ++ (⟨#[32, 116, 111, 32]⟩ : ByteArray) ++ b ++ (⟨#[32]⟩ : ByteArray) ++ c ++ (⟨#[46, 46]⟩ : ByteArray) ++ t := ⟨_, rfl⟩
    have zT : T.size ≤ 100 := by rw [hT]; simp only [ByteArray.size_append', ByteArray.size_mk', List.size_toArray, List.length_cons, List.length_nil]; omega
    have HTT := hide hT
    rw [← hT]
    clear QS c0 c1 c2 c3 f0 f1 f2 f3 hs hr ho hd s1 s2 s3 s4 s5 s6 hT
    have hbk : x.b = -1 ∨ (¬ x.b = -1 ∧ 0 ≤ x.b ∧ x.b ≤ 4000) := by omega
    rcases hbk with hb | ⟨hb, hb0, hb1⟩
    · have HV : Hid (loanT x = T) := hide (by unfold loanT; rw [HK.out, if_pos rfl, if_pos hb, HV0.out, HTT.out])
      rw [hb] at k4
      clear hb
      go_wp2
      go_ret2
      exact ⟨ret_sb HV.out.symm rfl, HB3.out⟩
    · have HV : Hid (loanT x = T ++ (⟨#[32, 98, 97, 99, 107, 32]⟩ : ByteArray) ++ itoaB x.b) := hide (by unfold loanT; rw [HK.out, if_pos rfl, if_neg hb, HV0.out, HTT.out])
      have hbd : (x.b == -1) = false := by simp; omega
      have zb : (itoaB x.b).size ≤ 21 := itoaB_size _ (by omega) (by omega)
      have HC := hide (text_any x.b w2 (by omega) (by omega) HT.out)
      generalize itoaB x.b = tb at HV zb HC
      have s1 : ¬ 9223372036854775807 < 6 + tb.size := by omega
      have s2 : ¬ 9223372036854775807 < T.size + (6 + tb.size) := by omega
      have s3 : ¬ 9223372036854775807 < T.size + 6 := by omega
      have s4 : ¬ 9223372036854775807 < T.size + 6 + tb.size := by omega
      go_wp2_with fail
      refine HC.out.mono ?_
      rintro e w3 ⟨rfl, hb9⟩
      have HB4 := hide (bl_step HB3.out hb9)
      clear hb9
      go_wp2
      go_ret2
      exact ⟨ret_sb (by rw [HV.out]; exact (ByteArray.append_assoc).symm) rfl, HB4.out⟩

set_option maxRecDepth 100000 in
set_option maxHeartbeats 1000000 in
theorem sLoanText_any (x : Ln) (w : World) :
    Calls Tryd.prog 4 #[.agg #[.int .i64 x.s, .int .i64 x.r, .int .i64 x.o, .int .i64 x.d, .int .i64 x.b]] w fun e w' => e = .returned (.tuple #[.string (loanT x), .bool (okLn x)]) ∧ Below w.heap.size w w' := by
  have mixed : Tryd.prog.follows .mixedOrders = true := by kernel_rfl
  obtain ⟨V, hV⟩ : ∃ V, V = w.alloc (.cells #[.int .i64 x.s, .int .i64 x.r, .int .i64 x.o, .int .i64 x.d, .int .i64 x.b] 26) := ⟨_, rfl⟩
  have HBV : Hid (Below w.heap.size w V) := hide (by rw [hV]; exact (Below.refl _ _).alloc (Nat.le_refl _) _)
  have g0 : w.heap.size < V.heap.size := by rw [hV]; simp
  have e0 : V.cell? ⟨w.heap.size, 0, none⟩ = some (.int .i64 x.s) := by rw [hV]; simp
  have e1 : V.cell? ⟨w.heap.size, 1, none⟩ = some (.int .i64 x.r) := by rw [hV]; simp
  have e2 : V.cell? ⟨w.heap.size, 2, none⟩ = some (.int .i64 x.o) := by rw [hV]; simp
  have e3 : V.cell? ⟨w.heap.size, 3, none⟩ = some (.int .i64 x.d) := by rw [hV]; simp
  have e4 : V.cell? ⟨w.heap.size, 4, none⟩ = some (.int .i64 x.b) := by rw [hV]; simp
  have HW := hide hV
  clear hV
  cases hk : okLn x with
  | false =>
    have HK := hide hk
    have HV : Hid (loanT x = ⟨#[]⟩) := hide (by unfold loanT; rw [hk]; rfl)
    clear hk
    go_enter Tryd.func4, Tryd.ntmps4
    go_wp2_with fail
    rw [← HW.out]
    refine (l11One_any x _).mono ?_
    rintro e w1 ⟨rfl, hb⟩
    rw [HK.out]
    have HB := hide (bl_step HBV.out hb)
    clear hb
    go_wp2
    go_ret2
    exact ⟨ret_sb HV.out.symm rfl, HB.out⟩
  | true =>
    have HK := hide hk
    have bd := okLn_bd hk
    clear hk
    go_enter Tryd.func4, Tryd.ntmps4
    go_wp2_with fail
    rw [← HW.out]
    refine (l11One_any x _).mono ?_
    rintro e w1 ⟨rfl, hb⟩
    rw [HK.out]
    have HB := hide (bl_step HBV.out hb)
    have f0 := (hb.cell (p := ⟨w.heap.size, 0, none⟩) g0).trans e0
    have f1 := (hb.cell (p := ⟨w.heap.size, 1, none⟩) g0).trans e1
    have f2 := (hb.cell (p := ⟨w.heap.size, 2, none⟩) g0).trans e2
    have f3 := (hb.cell (p := ⟨w.heap.size, 3, none⟩) g0).trans e3
    have f4 := (hb.cell (p := ⟨w.heap.size, 4, none⟩) g0).trans e4
    have g1 : w.heap.size < w1.heap.size := Nat.lt_of_lt_of_le g0 hb.size
    clear hb e0 e1 e2 e3 e4
    have c0 : ∀ d os, (Go.Sort.grow (redrawn w1 d) os).cell? ⟨w.heap.size, 0, none⟩ = some (.int .i64 x.s) := cell_regrown f0
    have c1 : ∀ d os, (Go.Sort.grow (redrawn w1 d) os).cell? ⟨w.heap.size, 1, none⟩ = some (.int .i64 x.r) := cell_regrown f1
    have c2 : ∀ d os, (Go.Sort.grow (redrawn w1 d) os).cell? ⟨w.heap.size, 2, none⟩ = some (.int .i64 x.o) := cell_regrown f2
    have c3 : ∀ d os, (Go.Sort.grow (redrawn w1 d) os).cell? ⟨w.heap.size, 3, none⟩ = some (.int .i64 x.d) := cell_regrown f3
    have QS : ∀ (d : Nat) (os : Array Obj), Hid (Below w1.heap.size w1 (Go.Sort.grow (redrawn w1 d) os)) := fun d os => below_regrown w1 d os
    have hs := fun (d : Nat) (os : Array Obj) => l1Num_any x.s (Go.Sort.grow (redrawn w1 d) os) (by omega) (by omega)
    have hr := fun (d : Nat) (os : Array Obj) => l1Num_any x.r (Go.Sort.grow (redrawn w1 d) os) (by omega) (by omega)
    have ho := fun (d : Nat) (os : Array Obj) => l1Num_any x.o (Go.Sort.grow (redrawn w1 d) os) (by omega) (by omega)
    have hd := fun (d : Nat) (os : Array Obj) => l1Num_any x.d (Go.Sort.grow (redrawn w1 d) os) (by omega) (by omega)
    have zs : (itoaB x.s).size ≤ 21 := itoaB_size _ (by omega) (by omega)
    have zr : (itoaB x.r).size ≤ 21 := itoaB_size _ (by omega) (by omega)
    have zo : (itoaB x.o).size ≤ 21 := itoaB_size _ (by omega) (by omega)
    have zd : (itoaB x.d).size ≤ 21 := itoaB_size _ (by omega) (by omega)
    obtain ⟨a, ha⟩ : ∃ a, a = itoaB x.s := ⟨_, rfl⟩
    obtain ⟨b, hb⟩ : ∃ b, b = itoaB x.r := ⟨_, rfl⟩
    obtain ⟨c, hc⟩ : ∃ c, c = itoaB x.o := ⟨_, rfl⟩
    obtain ⟨t, ht⟩ : ∃ t, t = itoaB x.d := ⟨_, rfl⟩
    have HV0 : Hid (loanT0 x = a ++ (⟨#[32, 116, 111, 32]⟩ : ByteArray) ++ b ++ (⟨#[32]⟩ : ByteArray) ++ c ++ (⟨#[46, 46]⟩ : ByteArray) ++ t) := hide (by unfold loanT0; rw [ha, hb, hc, ht])
    rw [← ha] at hs zs
    rw [← hb] at hr zr
    rw [← hc] at ho zo
    rw [← ht] at hd zd
    clear ha hb hc ht
    have s1 : ¬ 9223372036854775807 < a.size + 4 := by omega
    have s2 : ¬ 9223372036854775807 < a.size + 4 + b.size := by omega
    have s3 : ¬ 9223372036854775807 < a.size + 4 + b.size + 1 := by omega
    have s4 : ¬ 9223372036854775807 < a.size + 4 + b.size + 1 + c.size := by omega
    have s5 : ¬ 9223372036854775807 < a.size + 4 + b.size + 1 + c.size + 2 := by omega
    have s6 : ¬ 9223372036854775807 < a.size + 4 + b.size + 1 + c.size + 2 + t.size := by omega
    go_wp2_with fail
    refine wp_region_quiet_below (by assumption) (by kernel_rfl) ?_
    repeat (quiet_step (first | (go_at_call 8; with_reducible refine Calls.regrown_of (hs _ _)) | (go_at_call 8; with_reducible refine Calls.regrown_of (hr _ _)) | (go_at_call 8; with_reducible refine Calls.regrown_of (ho _ _)) | (go_at_call 8; with_reducible refine Calls.regrown_of (hd _ _))))
    refine wpQuiet_nil ?_
    intro _ hw'
    obtain ⟨⟨nq, osq⟩, hw''⟩ := hw'
    subst hw''
    have HB2 := QS nq osq
    generalize Go.Sort.grow (redrawn w1 nq) osq = w2 at HB2 ⊢
    have k4 := (HB2.out.cell (p := ⟨w.heap.size, 4, none⟩) g1).trans f4
    have HB3 := hide (bl_step HB.out HB2.out)
    obtain ⟨T, hT⟩ : ∃ T, T = a ++ (⟨#[32, 116, 111, 32]⟩ : ByteArray) ++ b ++ (⟨#[32]⟩ : ByteArray) ++ c ++ (⟨#[46, 46]⟩ : ByteArray) ++ t := ⟨_, rfl⟩
    have zT : T.size ≤ 100 := by rw [hT]; simp only [ByteArray.size_append', ByteArray.size_mk', List.size_toArray, List.length_cons, List.length_nil]; omega
    have HTT := hide hT
    rw [← hT]
    clear QS c0 c1 c2 c3 f0 f1 f2 f3 hs hr ho hd s1 s2 s3 s4 s5 s6 hT
    have hbk : x.b = -1 ∨ (¬ x.b = -1 ∧ 0 ≤ x.b ∧ x.b ≤ 4000) := by omega
    rcases hbk with hb | ⟨hb, hb0, hb1⟩
    · have HV : Hid (loanT x = T) := hide (by unfold loanT; rw [HK.out, if_pos rfl, if_pos hb, HV0.out, HTT.out])
      have hbz : ¬ 0 ≤ x.b := by omega
      rw [hb] at k4
      clear hb
      go_wp2
      go_ret2
      exact ⟨ret_sb HV.out.symm rfl, HB3.out⟩
    · have HV : Hid (loanT x = T ++ (⟨#[32, 98, 97, 99, 107, 32]⟩ : ByteArray) ++ itoaB x.b) := hide (by unfold loanT; rw [HK.out, if_pos rfl, if_neg hb, HV0.out, HTT.out])
      have hbd : (x.b == -1) = false := by simp; omega
      have zb : (itoaB x.b).size ≤ 21 := itoaB_size _ (by omega) (by omega)
      have HC := hide (l1Num_any x.b w2 (by omega) (by omega))
      generalize itoaB x.b = tb at HV zb HC
      have s1 : ¬ 9223372036854775807 < 6 + tb.size := by omega
      have s2 : ¬ 9223372036854775807 < T.size + (6 + tb.size) := by omega
      have s3 : ¬ 9223372036854775807 < T.size + 6 := by omega
      have s4 : ¬ 9223372036854775807 < T.size + 6 + tb.size := by omega
      go_wp2_with fail
      refine HC.out.mono ?_
      rintro e w3 ⟨rfl, hb9⟩
      have HB4 := hide (bl_step HB3.out hb9)
      clear hb9
      go_wp2
      go_ret2
      exact ⟨ret_sb (by rw [HV.out]) rfl, HB4.out⟩

end Go.Proofs.YtojahihkoaabdaaDoor
