/- AtlasText: the reference at whatever room. -/
import Derived.Test.YtdgalehipgdhiaaDoorJ5
import Derived.Test.YtdgalehipgdhiaaDoorA11g
namespace Go.Proofs.YtdgalehipgdhiaaDoor
open Go.RowKit
set_option linter.unusedVariables false
set_option linter.unusedSimpArgs false
set_option maxHeartbeats 1000000

set_option maxRecDepth 100000 in
set_option maxHeartbeats 1000000 in
theorem sAtlasTextC_any (ao : Option Addr) (n c : Nat) (zs : List Pg) (hcap : n ≤ c) (w : World) (hz : zs.length = n) (hn : n ≤ 1048576) (hr : Rd encPg 4 w.heap.size w ao zs) :
    Calls Tryd.prog 21 #[.slice ao n c] w fun e w' => e = .returned (.tuple #[.string (atlasT zs), .bool (atlasB zs)]) ∧ Below w.heap.size w w' := by
  have mixed : Tryd.prog.follows .mixedOrders = true := by kernel_rfl
  have HZ := hide hz
  have HR := hide hr
  have HA := hide (l13GoodC_any ao n c zs hcap w hz hn hr)
  clear hz hr
  cases h1 : atlasB zs with
  | false =>
    have HO : Hid (atlasT zs = ⟨#[]⟩) := hide (by unfold atlasT; rw [h1]; rfl)
    have H1 := hide h1
    clear h1
    go_enter Tryd.func21, Tryd.ntmps21
    go_wp2_with fail
    refine HA.out.mono ?_
    rintro e w1 ⟨rfl, hb⟩
    rw [H1.out]
    have HB := hide hb
    clear hb
    go_wp2
    go_ret2
    exact ⟨ret_sb HO.out.symm rfl, HB.out⟩
  | true =>
    have H1 := hide h1
    have H12 := hide (atlas_len12 h1)
    have h12 : n ≤ 12 := by have := H12.out; rw [HZ.out] at this; exact this
    clear h1
    by_cases hn0 : n = 0
    · subst hn0
      have HO : Hid (atlasT zs = ⟨#[45]⟩) := hide (by unfold atlasT; rw [H1.out, if_pos rfl, if_pos HZ.out])
      go_enter Tryd.func21, Tryd.ntmps21
      go_wp2_with fail
      refine HA.out.mono ?_
      rintro e w1 ⟨rfl, hb⟩
      rw [H1.out]
      have HB := hide hb
      clear hb HA
      go_wp2
      go_ret2
      exact ⟨ret_sb HO.out.symm rfl, HB.out⟩
    · have HO : Hid (atlasT zs = joinB (wordsP zs)) := hide (by unfold atlasT; rw [H1.out, if_pos rfl, if_neg (by rw [HZ.out]; exact hn0)])
      have hnz : ((n : Int) == 0) = false := by simp; omega
      go_enter Tryd.func21, Tryd.ntmps21
      go_wp2_with fail
      refine HA.out.mono ?_
      rintro e w1 ⟨rfl, hb⟩
      rw [H1.out]
      have HB := hide hb
      clear hb HA
      go_wp2
      go_loopg [4, 5] n (fun gk v i wr => ∃ k : Nat, k ≤ n ∧ n - k ≤ gk ∧ v = .string (joinB (wordsP (zs.take k))) ∧ i = .int .i64 k ∧ Aside (Below w.heap.size w wr))
      case atStart => exact ⟨0, Nat.zero_le _, by omega, rfl, rfl, HB.out⟩
      case round =>
        obtain ⟨k, hk, hg, rfl, rfl, BW⟩ := hrel
        by_cases hlt : k < n
        · have hltz : (k : Int) < (n : Int) := by omega
          have hkz : (0 : Int) ≤ (k : Int) := by omega
          obtain ⟨b9, off, rfl, hb1, hat⟩ := rdPg HR.out (by rw [HZ.out]; omega)
          obtain ⟨x, hx, hxc⟩ := hat k (by rw [HZ.out]; exact hlt)
          obtain ⟨hbr, c0, c1, c2, c3⟩ := hxc wr BW.out
          have HX := hide hx
          obtain ⟨hnk, bd⟩ := atlas_bd H1.out hx
          have HBR := hide BW.out
          have k1 : IntKind.i64.wrap ((k : Int) + 1) = (k : Int) + 1 := IntWalk.i64_in _ (by omega)
          have HK1 := hide hnk
          clear hnk hx hxc hat
          have k1c : ∀ d os, (Go.Sort.grow (redrawn wr d) os).cell? ⟨b9, off + k * 4 + 1, none⟩ = some (.int .i64 x.r) := cell_regrown c1
          have k2c : ∀ d os, (Go.Sort.grow (redrawn wr d) os).cell? ⟨b9, off + k * 4 + 2, none⟩ = some (.int .i64 x.c) := cell_regrown c2
          have QS : ∀ (d : Nat) (os : Array Obj), Hid (Below wr.heap.size wr (Go.Sort.grow (redrawn wr d) os)) := fun d os => below_regrown wr d os
          have hn2 := fun (d : Nat) (os : Array Obj) => l1Num_any ((k : Int) + 1) (Go.Sort.grow (redrawn wr d) os) (by omega) (by omega)
          have hr2 := fun (d : Nat) (os : Array Obj) => l1Num_any x.r (Go.Sort.grow (redrawn wr d) os) (by omega) (by omega)
          have hc2 := fun (d : Nat) (os : Array Obj) => l1Num_any x.c (Go.Sort.grow (redrawn wr d) os) (by omega) (by omega)
          have za : (itoaB ((k : Int) + 1)).size ≤ 21 := itoaB_size _ (by omega) (by omega)
          have zb : (itoaB x.r).size ≤ 21 := itoaB_size _ (by omega) (by omega)
          have zc : (itoaB x.c).size ≤ 21 := itoaB_size _ (by omega) (by omega)
          have zj := joinP_size H1.out k
          obtain ⟨a, ha⟩ : ∃ a, a = itoaB ((k : Int) + 1) := ⟨_, rfl⟩
          obtain ⟨b, hb⟩ : ∃ b, b = itoaB x.r := ⟨_, rfl⟩
          obtain ⟨tc, hc⟩ : ∃ c, c = itoaB x.c := ⟨_, rfl⟩
          have HWD : Hid (wordP x = a ++ (⟨#[64]⟩ : ByteArray) ++ b ++ (⟨#[44]⟩ : ByteArray) ++ tc) := hide (by unfold wordP; rw [HK1.out, ha, hb, hc])
          rw [← ha] at hn2 za
          rw [← hb] at hr2 zb
          rw [← hc] at hc2 zc
          clear ha hb hc c0 c1 c2 c3
          by_cases h0 : 0 < k
          · have h0z : (0 : Int) < (k : Int) := by omega
            have HTT : Hid (joinB (wordsP (zs.take k)) ++ (⟨#[32]⟩ : ByteArray) ++ wordP x = joinB (wordsP (zs.take (k + 1)))) := hide (joinP_step HX.out h0).symm
            generalize joinB (wordsP (zs.take k)) = J at zj HTT ⊢
            have sJ : ¬ 9223372036854775807 < J.size + 1 := by omega
            obtain ⟨T, hT⟩ : ∃ T, T = J ++ (⟨#[32]⟩ : ByteArray) := ⟨_, rfl⟩
            have zT : T.size ≤ 900 := by rw [hT]; simp only [ByteArray.size_append', ByteArray.size_mk', List.size_toArray, List.length_cons, List.length_nil]; omega
            rw [← hT] at HTT
            go_wp2_with fail
            rw [← hT]
            clear hT
            have s0 : ¬ 9223372036854775807 < T.size + a.size := by omega
            have s1 : ¬ 9223372036854775807 < T.size + a.size + 1 := by omega
            have s2 : ¬ 9223372036854775807 < T.size + a.size + 1 + b.size := by omega
            have s3 : ¬ 9223372036854775807 < T.size + a.size + 1 + b.size + 1 := by omega
            have s4 : ¬ 9223372036854775807 < T.size + a.size + 1 + b.size + 1 + tc.size := by omega
            go_wp2_with fail
            refine wp_region_quiet_below (by assumption) (by kernel_rfl) ?_
            repeat (quiet_step (first | (go_at_call 48; with_reducible refine Calls.regrown_of (hn2 _ _)) | (go_at_call 48; with_reducible refine Calls.regrown_of (hr2 _ _)) | (go_at_call 48; with_reducible refine Calls.regrown_of (hc2 _ _))))
            refine wpQuiet_nil ?_
            intro _ hw'
            obtain ⟨⟨nq, osq⟩, hw''⟩ := hw'
            subst hw''
            have HB2 := QS nq osq
            generalize Go.Sort.grow (redrawn wr nq) osq = w2 at HB2 ⊢
            have HB3 := hide (bl_step HBR.out HB2.out)
            clear QS k1c k2c hn2 hr2 hc2
            go_wp2
            go_roundg (n - (k + 1))
            case measure => omega
            case rel =>
              refine ⟨k + 1, by omega, by omega, congrArg Value.string ?_, by go_num, HB3.out⟩
              rw [← HTT.out, HWD.out]
              simp only [ByteArray.append_assoc]
          · have h0z : ¬ (0 : Int) < (k : Int) := by omega
            have HTT : Hid (joinB (wordsP (zs.take k)) ++ wordP x = joinB (wordsP (zs.take (k + 1)))) := hide (by
              obtain rfl : k = 0 := by omega
              rw [joinP_one HX.out]
              apply ByteArray.ext
              simp [wordsP, joinB, ByteArray.data_append])
            generalize joinB (wordsP (zs.take k)) = T at zj HTT ⊢
            have zT : T.size ≤ 900 := by omega
            have s0 : ¬ 9223372036854775807 < T.size + a.size := by omega
            have s1 : ¬ 9223372036854775807 < T.size + a.size + 1 := by omega
            have s2 : ¬ 9223372036854775807 < T.size + a.size + 1 + b.size := by omega
            have s3 : ¬ 9223372036854775807 < T.size + a.size + 1 + b.size + 1 := by omega
            have s4 : ¬ 9223372036854775807 < T.size + a.size + 1 + b.size + 1 + tc.size := by omega
            go_wp2_with fail
            refine wp_region_quiet_below (by assumption) (by kernel_rfl) ?_
            repeat (quiet_step (first | (go_at_call 48; with_reducible refine Calls.regrown_of (hn2 _ _)) | (go_at_call 48; with_reducible refine Calls.regrown_of (hr2 _ _)) | (go_at_call 48; with_reducible refine Calls.regrown_of (hc2 _ _))))
            refine wpQuiet_nil ?_
            intro _ hw'
            obtain ⟨⟨nq, osq⟩, hw''⟩ := hw'
            subst hw''
            have HB2 := QS nq osq
            generalize Go.Sort.grow (redrawn wr nq) osq = w2 at HB2 ⊢
            have HB3 := hide (bl_step HBR.out HB2.out)
            clear QS k1c k2c hn2 hr2 hc2
            go_wp2
            go_roundg (n - (k + 1))
            case measure => omega
            case rel =>
              refine ⟨k + 1, by omega, by omega, congrArg Value.string ?_, by go_num, HB3.out⟩
              rw [← HTT.out, HWD.out]
              simp only [ByteArray.append_assoc]
        · have hltz : ¬ (k : Int) < (n : Int) := by omega
          obtain rfl : k = n := by omega
          have HTK : Hid (zs.take k = zs) := hide (by rw [List.take_of_length_le (by rw [HZ.out]; exact Nat.le_refl _)])
          rw [HTK.out]
          go_wp2
          go_ret2
          exact ⟨ret_sb HO.out.symm rfl, BW.out⟩

end Go.Proofs.YtdgalehipgdhiaaDoor
