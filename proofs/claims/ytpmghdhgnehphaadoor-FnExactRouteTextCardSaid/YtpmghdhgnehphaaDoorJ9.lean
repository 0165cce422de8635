/- The text of a route: the reference. -/
import Derived.Test.YtpmghdhgnehphaaDoorJ8
namespace Go.Proofs.YtpmghdhgnehphaaDoor
open Go.RowKit
set_option linter.unusedVariables false
set_option linter.unusedSimpArgs false

set_option maxRecDepth 100000 in
set_option maxHeartbeats 2000000 in
theorem l15Text_any (x : Lg) (bd : (0 ≤ x.w ∧ x.w ≤ 7) ∧ (1 ≤ x.u ∧ x.u ≤ 999) ∧ (-999 ≤ x.c ∧ x.c ≤ 999)) (w : World) :
    Calls Tryd.prog 10 #[.agg #[.int .i64 x.w, .int .i64 x.u, .int .i64 x.c]] w fun e w' => e = .returned (.string (wordL x)) ∧ Below w.heap.size w w' := by
  have mixed : Tryd.prog.follows .mixedOrders = true := by kernel_rfl
  obtain ⟨V, hV⟩ : ∃ V, V = w.alloc (.cells #[.int .i64 x.w, .int .i64 x.u, .int .i64 x.c] 33) := ⟨_, rfl⟩
  have HBV : Hid (Below w.heap.size w V) := hide (by rw [hV]; exact (Below.refl _ _).alloc (Nat.le_refl _) _)
  have g0 : w.heap.size < V.heap.size := by rw [hV]; simp
  have e0 : V.cell? ⟨w.heap.size, 0, none⟩ = some (.int .i64 x.w) := by rw [hV]; simp
  have e1 : V.cell? ⟨w.heap.size, 1, none⟩ = some (.int .i64 x.u) := by rw [hV]; simp
  have e2 : V.cell? ⟨w.heap.size, 2, none⟩ = some (.int .i64 x.c) := by rw [hV]; simp
  have HW := hide hV
  clear hV
  obtain ⟨kw, hkw⟩ : ∃ kw : Nat, x.w = kw := ⟨x.w.toNat, by omega⟩
  have hk7 : kw ≤ 7 := by omega
  have hk8 : (kw : Int) < 8 := by omega
  have hk0 : (0 : Int) ≤ (kw : Int) := by omega
  rw [hkw] at e0
  obtain ⟨a, ha⟩ : ∃ a, wayB kw = a := ⟨_, rfl⟩
  obtain ⟨b, hb2⟩ : ∃ b, itoaB x.u = b := ⟨_, rfl⟩
  obtain ⟨t, ht⟩ : ∃ t, itoaB x.c = t := ⟨_, rfl⟩
  have za : a.size ≤ 2 := by rw [← ha]; exact way_size kw
  have zb : b.size ≤ 21 := by rw [← hb2]; exact itoaB_size _ (by omega) (by omega)
  have zt : t.size ≤ 21 := by rw [← ht]; exact itoaB_size _ (by omega) (by omega)
  have HAW := hide ha
  have HBU := hide hb2
  have HTC := hide ht
  have s1 : ¬ 9223372036854775807 < a.size + b.size := by omega
  have s2 : ¬ 9223372036854775807 < a.size + b.size + 1 := by omega
  have s3 : ¬ 9223372036854775807 < a.size + b.size + 1 + t.size := by omega
  have s4 : ¬ 9223372036854775807 < a.size + b.size + t.size := by omega
  have h3 : 0 < x.c ∨ x.c = 0 ∨ x.c < 0 := by omega
  rcases h3 with hp | hp | hp
  · have HWD : Hid (wordL x = a ++ b ++ (⟨#[43]⟩ : ByteArray) ++ t) := hide (by unfold wordL signT; rw [if_pos hp, hkw, Int.toNat_natCast, ha, hb2, ht])
    clear ha hb2 ht hkw
    have HP := hide hp
    have p1 : decide (x.c = 0) = false := decide_eq_false (by omega)
    have p2 : (x.c == 0) = false := by simp; omega
    have p3 : (x.c != 0) = true := by simp; omega
    go_enter Tryd.func10, Tryd.ntmps10
    go_wp2_with fail
    rw [← HW.out]
    have q0 : Below V.heap.size V V.drew := (Below.refl _ _).drew
    refine wp_region_held_drew (S := fun w' => w'.cell? ⟨w.heap.size, 0, none⟩ = some (.int .i64 kw) ∧ w'.cell? ⟨w.heap.size, 1, none⟩ = some (.int .i64 x.u) ∧ Below V.heap.size V w') (by kernel_rfl) ⟨(q0.cell (p := ⟨w.heap.size, 0, none⟩) g0).trans e0, (q0.cell (p := ⟨w.heap.size, 1, none⟩) g0).trans e1, q0⟩ (fun hHeld => ?_)
    generalize V.drew = V0 at q0 hHeld ⊢
    refine heldI_take 1 5 ?vv68 rfl (by kernel_rfl) (by kernel_rfl) (by kernel_rfl) rfl (fun _ _ _ h => h) (by rfl) ?hy68 (by assumption) ?rest68
    case hy68 => (intro w hSw; (try dsimp only at hSw); go_simp; try with_reducible rfl)
    try simp only [Act.put, List.setIfInBounds_toArray, List.set_cons_zero, List.set_cons_succ]
    refine heldI_take 2 6 ?vv69 rfl (by kernel_rfl) (by kernel_rfl) (by kernel_rfl) rfl (fun _ _ _ h => h) (by rfl) ?hy69 (by assumption) ?rest69
    case hy69 => (intro w hSw; (try dsimp only at hSw); go_simp; try with_reducible rfl)
    try simp only [Act.put, List.setIfInBounds_toArray, List.set_cons_zero, List.set_cons_succ]
    refine heldI_take 5 9 ?vv70 rfl (by kernel_rfl) (by kernel_rfl) (by kernel_rfl) rfl (fun _ _ _ h => h) (by rfl) ?hy70 (by assumption) ?rest70
    case hy70 => (intro w hSw; (try dsimp only at hSw); go_simp; try with_reducible rfl)
    try simp only [Act.put, List.setIfInBounds_toArray, List.set_cons_zero, List.set_cons_succ]
    refine heldI_take 6 10 ?vv71 rfl (by kernel_rfl) (by kernel_rfl) (by kernel_rfl) rfl (fun _ _ _ h => h) (by rfl) ?hy71 (by assumption) ?rest71
    case hy71 => (intro w hSw; (try dsimp only at hSw); go_simp; try with_reducible rfl)
    try simp only [Act.put, List.setIfInBounds_toArray, List.set_cons_zero, List.set_cons_succ]
    refine wpAnyH_ready (rs := [0, 7]) (by kernel_rfl) (by simp) ?_
    refine AllReadyH.cons rfl (fun K hK => ?_) (AllReadyH.cons rfl (fun K hK => ?_) AllReadyH.nil)
    · go_simp
      have z1 : (World.alloc V0 (.cells #[.string ⟨#[110]⟩, .string ⟨#[110, 101]⟩, .string ⟨#[101]⟩, .string ⟨#[115, 101]⟩, .string ⟨#[115]⟩, .string ⟨#[115, 119]⟩, .string ⟨#[119]⟩, .string ⟨#[110, 119]⟩] 9)).cell? ⟨V0.heap.size, kw, none⟩ = some (.string a) := by rw [← HAW.out]; exact way_cell V0 kw hk7
      have y1 : V0.heap.size < (World.alloc V0 (.cells #[.string ⟨#[110]⟩, .string ⟨#[110, 101]⟩, .string ⟨#[101]⟩, .string ⟨#[115, 101]⟩, .string ⟨#[115]⟩, .string ⟨#[115, 119]⟩, .string ⟨#[119]⟩, .string ⟨#[110, 119]⟩] 9)).heap.size := by simp
      have q1 : Below V.heap.size V (World.alloc V0 (.cells #[.string ⟨#[110]⟩, .string ⟨#[110, 101]⟩, .string ⟨#[101]⟩, .string ⟨#[115, 101]⟩, .string ⟨#[115]⟩, .string ⟨#[115, 119]⟩, .string ⟨#[119]⟩, .string ⟨#[110, 119]⟩] 9)) := q0.alloc q0.size _
      generalize World.alloc V0 (.cells #[.string ⟨#[110]⟩, .string ⟨#[110, 101]⟩, .string ⟨#[101]⟩, .string ⟨#[115, 101]⟩, .string ⟨#[115]⟩, .string ⟨#[115, 119]⟩, .string ⟨#[119]⟩, .string ⟨#[110, 119]⟩] 9) = V1 at z1 y1 q1 ⊢
      refine hK.out _ _ ⟨(q1.cell (p := ⟨w.heap.size, 0, none⟩) g0).trans e0, (q1.cell (p := ⟨w.heap.size, 1, none⟩) g0).trans e1, q1⟩ (fun hHeld => ?_)
      clear hK K
      try simp only [Act.put, List.setIfInBounds_toArray, List.set_cons_zero, List.set_cons_succ]
      refine heldI_take 3 7 ?vv72 rfl (by kernel_rfl) (by kernel_rfl) (by kernel_rfl) rfl (fun _ _ _ h => h) (by rfl) ?hy72 (by assumption) ?rest72
      case hy72 => (intro w hSw; (try dsimp only at hSw); go_simp; try with_reducible rfl)
      try simp only [Act.put, List.setIfInBounds_toArray, List.set_cons_zero, List.set_cons_succ]
      refine wpAnyH_ready (rs := [4, 7]) (by kernel_rfl) (by simp) ?_
      refine AllReadyH.cons rfl (fun K hK => ?_) (AllReadyH.cons rfl (fun K hK => ?_) AllReadyH.nil)
      · go_simp
        refine hK.out _ _ ⟨(q1.cell (p := ⟨w.heap.size, 0, none⟩) g0).trans e0, (q1.cell (p := ⟨w.heap.size, 1, none⟩) g0).trans e1, q1⟩ (fun hHeld => ?_)
        clear hK K
        try simp only [Act.put, List.setIfInBounds_toArray, List.set_cons_zero, List.set_cons_succ]
        refine wpAnyH_ready (rs := [7]) (by kernel_rfl) (by simp) ?_
        refine AllReadyH.cons rfl (fun K hK => ?_) AllReadyH.nil
        go_simp
        refine (l1Num_any x.u _ (by omega) (by omega)).mono ?_
        rintro e V2 ⟨rfl, hb⟩
        rw [HBU.out]
        go_wp2_with fail
        have q2 : Below V.heap.size V V2 := bl_step q1 hb
        replace z1 := (hb.cell (p := ⟨V0.heap.size, kw, none⟩) y1).trans z1
        refine hK.out _ _ ⟨(q2.cell (p := ⟨w.heap.size, 0, none⟩) g0).trans e0, (q2.cell (p := ⟨w.heap.size, 1, none⟩) g0).trans e1, q2⟩ (fun hHeld => ?_)
        clear hb hK K
        try simp only [Act.put, List.setIfInBounds_toArray, List.set_cons_zero, List.set_cons_succ]
        try simp only [List.getElem_toArray, List.getElem_cons_succ, List.getElem_cons_zero]
        try simp only [Act.put, List.setIfInBounds_toArray, List.set_cons_zero, List.set_cons_succ]
        refine heldI_take 8 12 ?vv73 rfl (by kernel_rfl) (by kernel_rfl) (by kernel_rfl) rfl (fun _ _ _ h => h) (by rfl) ?hy73 (by assumption) ?rest73
        case hy73 => (intro w hSw; (try dsimp only at hSw); go_simp; try with_reducible rfl)
        try simp only [Act.put, List.setIfInBounds_toArray, List.set_cons_zero, List.set_cons_succ]
        refine heldI_take 9 3 ?vv74 rfl (by kernel_rfl) (by kernel_rfl) (by kernel_rfl) rfl (fun _ _ _ h => h) (by rfl) ?hy74 (by assumption) ?rest74
        case hy74 => (intro w hSw; (try dsimp only at hSw); go_simp; try with_reducible rfl)
        try simp only [Act.put, List.setIfInBounds_toArray, List.set_cons_zero, List.set_cons_succ]
        refine wpAnyH_done (by kernel_rfl) ?_ _
        have HQ9 : Hid (Below V.heap.size V V2) := hide q2
        clear z1 q0 q1 hHeld
        try clear q2
        try clear y1
        generalize V2 = V9 at HQ9 ⊢
        have k2 := (HQ9.out.cell (p := ⟨w.heap.size, 2, none⟩) g0).trans e2
        have HB9 := hide (bl_step HBV.out HQ9.out)
        clear e0 e1 e2
        go_wp2_with fail
        refine (l1Num_any x.c _ (by omega) (by omega)).mono ?_
        rintro e V8 ⟨rfl, hb⟩
        rw [HTC.out]
        have HB8 := hide (bl_step HB9.out hb)
        clear hb
        go_wp2
        go_ret
        exact ⟨ret_strB HWD.out.symm, HB8.out⟩
      · go_simp
        refine (l1Num_any x.u _ (by omega) (by omega)).mono ?_
        rintro e V2 ⟨rfl, hb⟩
        rw [HBU.out]
        go_wp2_with fail
        have q2 : Below V.heap.size V V2 := bl_step q1 hb
        replace z1 := (hb.cell (p := ⟨V0.heap.size, kw, none⟩) y1).trans z1
        refine hK.out _ _ ⟨(q2.cell (p := ⟨w.heap.size, 0, none⟩) g0).trans e0, (q2.cell (p := ⟨w.heap.size, 1, none⟩) g0).trans e1, q2⟩ (fun hHeld => ?_)
        clear hb hK K
        try simp only [Act.put, List.setIfInBounds_toArray, List.set_cons_zero, List.set_cons_succ]
        refine wpAnyH_ready (rs := [4]) (by kernel_rfl) (by simp) ?_
        refine AllReadyH.cons rfl (fun K hK => ?_) AllReadyH.nil
        go_simp
        refine hK.out _ _ ⟨(q2.cell (p := ⟨w.heap.size, 0, none⟩) g0).trans e0, (q2.cell (p := ⟨w.heap.size, 1, none⟩) g0).trans e1, q2⟩ (fun hHeld => ?_)
        clear hK K
        try simp only [Act.put, List.setIfInBounds_toArray, List.set_cons_zero, List.set_cons_succ]
        try simp only [List.getElem_toArray, List.getElem_cons_succ, List.getElem_cons_zero]
        try simp only [Act.put, List.setIfInBounds_toArray, List.set_cons_zero, List.set_cons_succ]
        refine heldI_take 8 12 ?vv75 rfl (by kernel_rfl) (by kernel_rfl) (by kernel_rfl) rfl (fun _ _ _ h => h) (by rfl) ?hy75 (by assumption) ?rest75
        case hy75 => (intro w hSw; (try dsimp only at hSw); go_simp; try with_reducible rfl)
        try simp only [Act.put, List.setIfInBounds_toArray, List.set_cons_zero, List.set_cons_succ]
        refine heldI_take 9 3 ?vv76 rfl (by kernel_rfl) (by kernel_rfl) (by kernel_rfl) rfl (fun _ _ _ h => h) (by rfl) ?hy76 (by assumption) ?rest76
        case hy76 => (intro w hSw; (try dsimp only at hSw); go_simp; try with_reducible rfl)
        try simp only [Act.put, List.setIfInBounds_toArray, List.set_cons_zero, List.set_cons_succ]
        refine wpAnyH_done (by kernel_rfl) ?_ _
        have HQ9 : Hid (Below V.heap.size V V2) := hide q2
        clear z1 q0 q1 hHeld
        try clear q2
        try clear y1
        generalize V2 = V9 at HQ9 ⊢
        have k2 := (HQ9.out.cell (p := ⟨w.heap.size, 2, none⟩) g0).trans e2
        have HB9 := hide (bl_step HBV.out HQ9.out)
        clear e0 e1 e2
        go_wp2_with fail
        refine (l1Num_any x.c _ (by omega) (by omega)).mono ?_
        rintro e V8 ⟨rfl, hb⟩
        rw [HTC.out]
        have HB8 := hide (bl_step HB9.out hb)
        clear hb
        go_wp2
        go_ret
        exact ⟨ret_strB HWD.out.symm, HB8.out⟩
    · go_simp
      refine (l1Num_any x.u _ (by omega) (by omega)).mono ?_
      rintro e V1 ⟨rfl, hb⟩
      rw [HBU.out]
      go_wp2_with fail
      have q1 : Below V.heap.size V V1 := bl_step q0 hb
      refine hK.out _ _ ⟨(q1.cell (p := ⟨w.heap.size, 0, none⟩) g0).trans e0, (q1.cell (p := ⟨w.heap.size, 1, none⟩) g0).trans e1, q1⟩ (fun hHeld => ?_)
      clear hb hK K
      try simp only [Act.put, List.setIfInBounds_toArray, List.set_cons_zero, List.set_cons_succ]
      refine wpAnyH_ready (rs := [0]) (by kernel_rfl) (by simp) ?_
      refine AllReadyH.cons rfl (fun K hK => ?_) AllReadyH.nil
      go_simp
      have z1 : (World.alloc V1 (.cells #[.string ⟨#[110]⟩, .string ⟨#[110, 101]⟩, .string ⟨#[101]⟩, .string ⟨#[115, 101]⟩, .string ⟨#[115]⟩, .string ⟨#[115, 119]⟩, .string ⟨#[119]⟩, .string ⟨#[110, 119]⟩] 9)).cell? ⟨V1.heap.size, kw, none⟩ = some (.string a) := by rw [← HAW.out]; exact way_cell V1 kw hk7
      have y1 : V1.heap.size < (World.alloc V1 (.cells #[.string ⟨#[110]⟩, .string ⟨#[110, 101]⟩, .string ⟨#[101]⟩, .string ⟨#[115, 101]⟩, .string ⟨#[115]⟩, .string ⟨#[115, 119]⟩, .string ⟨#[119]⟩, .string ⟨#[110, 119]⟩] 9)).heap.size := by simp
      have q2 : Below V.heap.size V (World.alloc V1 (.cells #[.string ⟨#[110]⟩, .string ⟨#[110, 101]⟩, .string ⟨#[101]⟩, .string ⟨#[115, 101]⟩, .string ⟨#[115]⟩, .string ⟨#[115, 119]⟩, .string ⟨#[119]⟩, .string ⟨#[110, 119]⟩] 9)) := q1.alloc q1.size _
      generalize World.alloc V1 (.cells #[.string ⟨#[110]⟩, .string ⟨#[110, 101]⟩, .string ⟨#[101]⟩, .string ⟨#[115, 101]⟩, .string ⟨#[115]⟩, .string ⟨#[115, 119]⟩, .string ⟨#[119]⟩, .string ⟨#[110, 119]⟩] 9) = V2 at z1 y1 q2 ⊢
      refine hK.out _ _ ⟨(q2.cell (p := ⟨w.heap.size, 0, none⟩) g0).trans e0, (q2.cell (p := ⟨w.heap.size, 1, none⟩) g0).trans e1, q2⟩ (fun hHeld => ?_)
      clear hK K
      try simp only [Act.put, List.setIfInBounds_toArray, List.set_cons_zero, List.set_cons_succ]
      refine heldI_take 3 7 ?vv77 rfl (by kernel_rfl) (by kernel_rfl) (by kernel_rfl) rfl (fun _ _ _ h => h) (by rfl) ?hy77 (by assumption) ?rest77
      case hy77 => (intro w hSw; (try dsimp only at hSw); go_simp; try with_reducible rfl)
      try simp only [Act.put, List.setIfInBounds_toArray, List.set_cons_zero, List.set_cons_succ]
      refine wpAnyH_ready (rs := [4]) (by kernel_rfl) (by simp) ?_
      refine AllReadyH.cons rfl (fun K hK => ?_) AllReadyH.nil
      go_simp
      refine hK.out _ _ ⟨(q2.cell (p := ⟨w.heap.size, 0, none⟩) g0).trans e0, (q2.cell (p := ⟨w.heap.size, 1, none⟩) g0).trans e1, q2⟩ (fun hHeld => ?_)
      clear hK K
      try simp only [Act.put, List.setIfInBounds_toArray, List.set_cons_zero, List.set_cons_succ]
      try simp only [List.getElem_toArray, List.getElem_cons_succ, List.getElem_cons_zero]
      try simp only [Act.put, List.setIfInBounds_toArray, List.set_cons_zero, List.set_cons_succ]
      refine heldI_take 8 12 ?vv78 rfl (by kernel_rfl) (by kernel_rfl) (by kernel_rfl) rfl (fun _ _ _ h => h) (by rfl) ?hy78 (by assumption) ?rest78
      case hy78 => (intro w hSw; (try dsimp only at hSw); go_simp; try with_reducible rfl)
      try simp only [Act.put, List.setIfInBounds_toArray, List.set_cons_zero, List.set_cons_succ]
      refine heldI_take 9 3 ?vv79 rfl (by kernel_rfl) (by kernel_rfl) (by kernel_rfl) rfl (fun _ _ _ h => h) (by rfl) ?hy79 (by assumption) ?rest79
      case hy79 => (intro w hSw; (try dsimp only at hSw); go_simp; try with_reducible rfl)
      try simp only [Act.put, List.setIfInBounds_toArray, List.set_cons_zero, List.set_cons_succ]
      refine wpAnyH_done (by kernel_rfl) ?_ _
      have HQ9 : Hid (Below V.heap.size V V2) := hide q2
      clear z1 q0 q1 hHeld
      try clear q2
      try clear y1
      generalize V2 = V9 at HQ9 ⊢
      have k2 := (HQ9.out.cell (p := ⟨w.heap.size, 2, none⟩) g0).trans e2
      have HB9 := hide (bl_step HBV.out HQ9.out)
      clear e0 e1 e2
      go_wp2_with fail
      refine (l1Num_any x.c _ (by omega) (by omega)).mono ?_
      rintro e V8 ⟨rfl, hb⟩
      rw [HTC.out]
      have HB8 := hide (bl_step HB9.out hb)
      clear hb
      go_wp2
      go_ret
      exact ⟨ret_strB HWD.out.symm, HB8.out⟩
  · have HWD : Hid (wordL x = a ++ b) := hide (by unfold wordL signT; rw [if_neg (by omega), if_pos hp, hkw, Int.toNat_natCast, ha, hb2])
    clear ha hb2 ht hkw
    have HP := hide hp
    rw [hp] at e2
    clear hp
    go_enter Tryd.func10, Tryd.ntmps10
    go_wp2_with fail
    rw [← HW.out]
    have q0 : Below V.heap.size V V.drew := (Below.refl _ _).drew
    refine wp_region_held_drew (S := fun w' => w'.cell? ⟨w.heap.size, 0, none⟩ = some (.int .i64 kw) ∧ w'.cell? ⟨w.heap.size, 1, none⟩ = some (.int .i64 x.u) ∧ Below V.heap.size V w') (by kernel_rfl) ⟨(q0.cell (p := ⟨w.heap.size, 0, none⟩) g0).trans e0, (q0.cell (p := ⟨w.heap.size, 1, none⟩) g0).trans e1, q0⟩ (fun hHeld => ?_)
    generalize V.drew = V0 at q0 hHeld ⊢
    refine heldI_take 1 5 ?vv80 rfl (by kernel_rfl) (by kernel_rfl) (by kernel_rfl) rfl (fun _ _ _ h => h) (by rfl) ?hy80 (by assumption) ?rest80
    case hy80 => (intro w hSw; (try dsimp only at hSw); go_simp; try with_reducible rfl)
    try simp only [Act.put, List.setIfInBounds_toArray, List.set_cons_zero, List.set_cons_succ]
    refine heldI_take 2 6 ?vv81 rfl (by kernel_rfl) (by kernel_rfl) (by kernel_rfl) rfl (fun _ _ _ h => h) (by rfl) ?hy81 (by assumption) ?rest81
    case hy81 => (intro w hSw; (try dsimp only at hSw); go_simp; try with_reducible rfl)
    try simp only [Act.put, List.setIfInBounds_toArray, List.set_cons_zero, List.set_cons_succ]
    refine heldI_take 5 9 ?vv82 rfl (by kernel_rfl) (by kernel_rfl) (by kernel_rfl) rfl (fun _ _ _ h => h) (by rfl) ?hy82 (by assumption) ?rest82
    case hy82 => (intro w hSw; (try dsimp only at hSw); go_simp; try with_reducible rfl)
    try simp only [Act.put, List.setIfInBounds_toArray, List.set_cons_zero, List.set_cons_succ]
    refine heldI_take 6 10 ?vv83 rfl (by kernel_rfl) (by kernel_rfl) (by kernel_rfl) rfl (fun _ _ _ h => h) (by rfl) ?hy83 (by assumption) ?rest83
    case hy83 => (intro w hSw; (try dsimp only at hSw); go_simp; try with_reducible rfl)
    try simp only [Act.put, List.setIfInBounds_toArray, List.set_cons_zero, List.set_cons_succ]
    refine wpAnyH_ready (rs := [0, 7]) (by kernel_rfl) (by simp) ?_
    refine AllReadyH.cons rfl (fun K hK => ?_) (AllReadyH.cons rfl (fun K hK => ?_) AllReadyH.nil)
    · go_simp
      have z1 : (World.alloc V0 (.cells #[.string ⟨#[110]⟩, .string ⟨#[110, 101]⟩, .string ⟨#[101]⟩, .string ⟨#[115, 101]⟩, .string ⟨#[115]⟩, .string ⟨#[115, 119]⟩, .string ⟨#[119]⟩, .string ⟨#[110, 119]⟩] 9)).cell? ⟨V0.heap.size, kw, none⟩ = some (.string a) := by rw [← HAW.out]; exact way_cell V0 kw hk7
      have y1 : V0.heap.size < (World.alloc V0 (.cells #[.string ⟨#[110]⟩, .string ⟨#[110, 101]⟩, .string ⟨#[101]⟩, .string ⟨#[115, 101]⟩, .string ⟨#[115]⟩, .string ⟨#[115, 119]⟩, .string ⟨#[119]⟩, .string ⟨#[110, 119]⟩] 9)).heap.size := by simp
      have q1 : Below V.heap.size V (World.alloc V0 (.cells #[.string ⟨#[110]⟩, .string ⟨#[110, 101]⟩, .string ⟨#[101]⟩, .string ⟨#[115, 101]⟩, .string ⟨#[115]⟩, .string ⟨#[115, 119]⟩, .string ⟨#[119]⟩, .string ⟨#[110, 119]⟩] 9)) := q0.alloc q0.size _
      generalize World.alloc V0 (.cells #[.string ⟨#[110]⟩, .string ⟨#[110, 101]⟩, .string ⟨#[101]⟩, .string ⟨#[115, 101]⟩, .string ⟨#[115]⟩, .string ⟨#[115, 119]⟩, .string ⟨#[119]⟩, .string ⟨#[110, 119]⟩] 9) = V1 at z1 y1 q1 ⊢
      refine hK.out _ _ ⟨(q1.cell (p := ⟨w.heap.size, 0, none⟩) g0).trans e0, (q1.cell (p := ⟨w.heap.size, 1, none⟩) g0).trans e1, q1⟩ (fun hHeld => ?_)
      clear hK K
      try simp only [Act.put, List.setIfInBounds_toArray, List.set_cons_zero, List.set_cons_succ]
      refine heldI_take 3 7 ?vv84 rfl (by kernel_rfl) (by kernel_rfl) (by kernel_rfl) rfl (fun _ _ _ h => h) (by rfl) ?hy84 (by assumption) ?rest84
      case hy84 => (intro w hSw; (try dsimp only at hSw); go_simp; try with_reducible rfl)
      try simp only [Act.put, List.setIfInBounds_toArray, List.set_cons_zero, List.set_cons_succ]
      refine wpAnyH_ready (rs := [4, 7]) (by kernel_rfl) (by simp) ?_
      refine AllReadyH.cons rfl (fun K hK => ?_) (AllReadyH.cons rfl (fun K hK => ?_) AllReadyH.nil)
      · go_simp
        refine hK.out _ _ ⟨(q1.cell (p := ⟨w.heap.size, 0, none⟩) g0).trans e0, (q1.cell (p := ⟨w.heap.size, 1, none⟩) g0).trans e1, q1⟩ (fun hHeld => ?_)
        clear hK K
        try simp only [Act.put, List.setIfInBounds_toArray, List.set_cons_zero, List.set_cons_succ]
        refine wpAnyH_ready (rs := [7]) (by kernel_rfl) (by simp) ?_
        refine AllReadyH.cons rfl (fun K hK => ?_) AllReadyH.nil
        go_simp
        refine (l1Num_any x.u _ (by omega) (by omega)).mono ?_
        rintro e V2 ⟨rfl, hb⟩
        rw [HBU.out]
        go_wp2_with fail
        have q2 : Below V.heap.size V V2 := bl_step q1 hb
        replace z1 := (hb.cell (p := ⟨V0.heap.size, kw, none⟩) y1).trans z1
        refine hK.out _ _ ⟨(q2.cell (p := ⟨w.heap.size, 0, none⟩) g0).trans e0, (q2.cell (p := ⟨w.heap.size, 1, none⟩) g0).trans e1, q2⟩ (fun hHeld => ?_)
        clear hb hK K
        try simp only [Act.put, List.setIfInBounds_toArray, List.set_cons_zero, List.set_cons_succ]
        try simp only [List.getElem_toArray, List.getElem_cons_succ, List.getElem_cons_zero]
        try simp only [Act.put, List.setIfInBounds_toArray, List.set_cons_zero, List.set_cons_succ]
        refine heldI_take 8 12 ?vv85 rfl (by kernel_rfl) (by kernel_rfl) (by kernel_rfl) rfl (fun _ _ _ h => h) (by rfl) ?hy85 (by assumption) ?rest85
        case hy85 => (intro w hSw; (try dsimp only at hSw); go_simp; try with_reducible rfl)
        try simp only [Act.put, List.setIfInBounds_toArray, List.set_cons_zero, List.set_cons_succ]
        refine heldI_take 9 3 ?vv86 rfl (by kernel_rfl) (by kernel_rfl) (by kernel_rfl) rfl (fun _ _ _ h => h) (by rfl) ?hy86 (by assumption) ?rest86
        case hy86 => (intro w hSw; (try dsimp only at hSw); go_simp; try with_reducible rfl)
        try simp only [Act.put, List.setIfInBounds_toArray, List.set_cons_zero, List.set_cons_succ]
        refine wpAnyH_done (by kernel_rfl) ?_ _
        have HQ9 : Hid (Below V.heap.size V V2) := hide q2
        clear z1 q0 q1 hHeld
        try clear q2
        try clear y1
        generalize V2 = V9 at HQ9 ⊢
        have k2 := (HQ9.out.cell (p := ⟨w.heap.size, 2, none⟩) g0).trans e2
        have HB9 := hide (bl_step HBV.out HQ9.out)
        clear e0 e1 e2
        go_wp2
        go_ret
        exact ⟨ret_strB HWD.out.symm, HB9.out⟩
      · go_simp
        refine (l1Num_any x.u _ (by omega) (by omega)).mono ?_
        rintro e V2 ⟨rfl, hb⟩
        rw [HBU.out]
        go_wp2_with fail
        have q2 : Below V.heap.size V V2 := bl_step q1 hb
        replace z1 := (hb.cell (p := ⟨V0.heap.size, kw, none⟩) y1).trans z1
        refine hK.out _ _ ⟨(q2.cell (p := ⟨w.heap.size, 0, none⟩) g0).trans e0, (q2.cell (p := ⟨w.heap.size, 1, none⟩) g0).trans e1, q2⟩ (fun hHeld => ?_)
        clear hb hK K
        try simp only [Act.put, List.setIfInBounds_toArray, List.set_cons_zero, List.set_cons_succ]
        refine wpAnyH_ready (rs := [4]) (by kernel_rfl) (by simp) ?_
        refine AllReadyH.cons rfl (fun K hK => ?_) AllReadyH.nil
        go_simp
        refine hK.out _ _ ⟨(q2.cell (p := ⟨w.heap.size, 0, none⟩) g0).trans e0, (q2.cell (p := ⟨w.heap.size, 1, none⟩) g0).trans e1, q2⟩ (fun hHeld => ?_)
        clear hK K
        try simp only [Act.put, List.setIfInBounds_toArray, List.set_cons_zero, List.set_cons_succ]
        try simp only [List.getElem_toArray, List.getElem_cons_succ, List.getElem_cons_zero]
        try simp only [Act.put, List.setIfInBounds_toArray, List.set_cons_zero, List.set_cons_succ]
        refine heldI_take 8 12 ?vv87 rfl (by kernel_rfl) (by kernel_rfl) (by kernel_rfl) rfl (fun _ _ _ h => h) (by rfl) ?hy87 (by assumption) ?rest87
        case hy87 => (intro w hSw; (try dsimp only at hSw); go_simp; try with_reducible rfl)
        try simp only [Act.put, List.setIfInBounds_toArray, List.set_cons_zero, List.set_cons_succ]
        refine heldI_take 9 3 ?vv88 rfl (by kernel_rfl) (by kernel_rfl) (by kernel_rfl) rfl (fun _ _ _ h => h) (by rfl) ?hy88 (by assumption) ?rest88
        case hy88 => (intro w hSw; (try dsimp only at hSw); go_simp; try with_reducible rfl)
        try simp only [Act.put, List.setIfInBounds_toArray, List.set_cons_zero, List.set_cons_succ]
        refine wpAnyH_done (by kernel_rfl) ?_ _
        have HQ9 : Hid (Below V.heap.size V V2) := hide q2
        clear z1 q0 q1 hHeld
        try clear q2
        try clear y1
        generalize V2 = V9 at HQ9 ⊢
        have k2 := (HQ9.out.cell (p := ⟨w.heap.size, 2, none⟩) g0).trans e2
        have HB9 := hide (bl_step HBV.out HQ9.out)
        clear e0 e1 e2
        go_wp2
        go_ret
        exact ⟨ret_strB HWD.out.symm, HB9.out⟩
    · go_simp
      refine (l1Num_any x.u _ (by omega) (by omega)).mono ?_
      rintro e V1 ⟨rfl, hb⟩
      rw [HBU.out]
      go_wp2_with fail
      have q1 : Below V.heap.size V V1 := bl_step q0 hb
      refine hK.out _ _ ⟨(q1.cell (p := ⟨w.heap.size, 0, none⟩) g0).trans e0, (q1.cell (p := ⟨w.heap.size, 1, none⟩) g0).trans e1, q1⟩ (fun hHeld => ?_)
      clear hb hK K
      try simp only [Act.put, List.setIfInBounds_toArray, List.set_cons_zero, List.set_cons_succ]
      refine wpAnyH_ready (rs := [0]) (by kernel_rfl) (by simp) ?_
      refine AllReadyH.cons rfl (fun K hK => ?_) AllReadyH.nil
      go_simp
      have z1 : (World.alloc V1 (.cells #[.string ⟨#[110]⟩, .string ⟨#[110, 101]⟩, .string ⟨#[101]⟩, .string ⟨#[115, 101]⟩, .string ⟨#[115]⟩, .string ⟨#[115, 119]⟩, .string ⟨#[119]⟩, .string ⟨#[110, 119]⟩] 9)).cell? ⟨V1.heap.size, kw, none⟩ = some (.string a) := by rw [← HAW.out]; exact way_cell V1 kw hk7
      have y1 : V1.heap.size < (World.alloc V1 (.cells #[.string ⟨#[110]⟩, .string ⟨#[110, 101]⟩, .string ⟨#[101]⟩, .string ⟨#[115, 101]⟩, .string ⟨#[115]⟩, .string ⟨#[115, 119]⟩, .string ⟨#[119]⟩, .string ⟨#[110, 119]⟩] 9)).heap.size := by simp
      have q2 : Below V.heap.size V (World.alloc V1 (.cells #[.string ⟨#[110]⟩, .string ⟨#[110, 101]⟩, .string ⟨#[101]⟩, .string ⟨#[115, 101]⟩, .string ⟨#[115]⟩, .string ⟨#[115, 119]⟩, .string ⟨#[119]⟩, .string ⟨#[110, 119]⟩] 9)) := q1.alloc q1.size _
      generalize World.alloc V1 (.cells #[.string ⟨#[110]⟩, .string ⟨#[110, 101]⟩, .string ⟨#[101]⟩, .string ⟨#[115, 101]⟩, .string ⟨#[115]⟩, .string ⟨#[115, 119]⟩, .string ⟨#[119]⟩, .string ⟨#[110, 119]⟩] 9) = V2 at z1 y1 q2 ⊢
      refine hK.out _ _ ⟨(q2.cell (p := ⟨w.heap.size, 0, none⟩) g0).trans e0, (q2.cell (p := ⟨w.heap.size, 1, none⟩) g0).trans e1, q2⟩ (fun hHeld => ?_)
      clear hK K
      try simp only [Act.put, List.setIfInBounds_toArray, List.set_cons_zero, List.set_cons_succ]
      refine heldI_take 3 7 ?vv89 rfl (by kernel_rfl) (by kernel_rfl) (by kernel_rfl) rfl (fun _ _ _ h => h) (by rfl) ?hy89 (by assumption) ?rest89
      case hy89 => (intro w hSw; (try dsimp only at hSw); go_simp; try with_reducible rfl)
      try simp only [Act.put, List.setIfInBounds_toArray, List.set_cons_zero, List.set_cons_succ]
      refine wpAnyH_ready (rs := [4]) (by kernel_rfl) (by simp) ?_
      refine AllReadyH.cons rfl (fun K hK => ?_) AllReadyH.nil
      go_simp
      refine hK.out _ _ ⟨(q2.cell (p := ⟨w.heap.size, 0, none⟩) g0).trans e0, (q2.cell (p := ⟨w.heap.size, 1, none⟩) g0).trans e1, q2⟩ (fun hHeld => ?_)
      clear hK K
      try simp only [Act.put, List.setIfInBounds_toArray, List.set_cons_zero, List.set_cons_succ]
      try simp only [List.getElem_toArray, List.getElem_cons_succ, List.getElem_cons_zero]
      try simp only [Act.put, List.setIfInBounds_toArray, List.set_cons_zero, List.set_cons_succ]
      refine heldI_take 8 12 ?vv90 rfl (by kernel_rfl) (by kernel_rfl) (by kernel_rfl) rfl (fun _ _ _ h => h) (by rfl) ?hy90 (by assumption) ?rest90
      case hy90 => (intro w hSw; (try dsimp only at hSw); go_simp; try with_reducible rfl)
      try simp only [Act.put, List.setIfInBounds_toArray, List.set_cons_zero, List.set_cons_succ]
      refine heldI_take 9 3 ?vv91 rfl (by kernel_rfl) (by kernel_rfl) (by kernel_rfl) rfl (fun _ _ _ h => h) (by rfl) ?hy91 (by assumption) ?rest91
      case hy91 => (intro w hSw; (try dsimp only at hSw); go_simp; try with_reducible rfl)
      try simp only [Act.put, List.setIfInBounds_toArray, List.set_cons_zero, List.set_cons_succ]
      refine wpAnyH_done (by kernel_rfl) ?_ _
      have HQ9 : Hid (Below V.heap.size V V2) := hide q2
      clear z1 q0 q1 hHeld
      try clear q2
      try clear y1
      generalize V2 = V9 at HQ9 ⊢
      have k2 := (HQ9.out.cell (p := ⟨w.heap.size, 2, none⟩) g0).trans e2
      have HB9 := hide (bl_step HBV.out HQ9.out)
      clear e0 e1 e2
      go_wp2
      go_ret
      exact ⟨ret_strB HWD.out.symm, HB9.out⟩
  · have HWD : Hid (wordL x = a ++ b ++ t) := hide (by unfold wordL signT; rw [if_neg (by omega), if_neg (by omega), hkw, Int.toNat_natCast, ha, hb2, ht])
    clear ha hb2 ht hkw
    have HP := hide hp
    have p0 : ¬ 0 < x.c := by omega
    have p0' : decide (0 < x.c) = false := decide_eq_false (by omega)
    have p1 : decide (x.c = 0) = false := decide_eq_false (by omega)
    have p2 : (x.c == 0) = false := by simp; omega
    have p3 : (x.c != 0) = true := by simp; omega
    clear hp
    go_enter Tryd.func10, Tryd.ntmps10
    go_wp2_with fail
    rw [← HW.out]
    have q0 : Below V.heap.size V V.drew := (Below.refl _ _).drew
    refine wp_region_held_drew (S := fun w' => w'.cell? ⟨w.heap.size, 0, none⟩ = some (.int .i64 kw) ∧ w'.cell? ⟨w.heap.size, 1, none⟩ = some (.int .i64 x.u) ∧ Below V.heap.size V w') (by kernel_rfl) ⟨(q0.cell (p := ⟨w.heap.size, 0, none⟩) g0).trans e0, (q0.cell (p := ⟨w.heap.size, 1, none⟩) g0).trans e1, q0⟩ (fun hHeld => ?_)
    generalize V.drew = V0 at q0 hHeld ⊢
    refine heldI_take 1 5 ?vv92 rfl (by kernel_rfl) (by kernel_rfl) (by kernel_rfl) rfl (fun _ _ _ h => h) (by rfl) ?hy92 (by assumption) ?rest92
    case hy92 => (intro w hSw; (try dsimp only at hSw); go_simp; try with_reducible rfl)
    try simp only [Act.put, List.setIfInBounds_toArray, List.set_cons_zero, List.set_cons_succ]
    refine heldI_take 2 6 ?vv93 rfl (by kernel_rfl) (by kernel_rfl) (by kernel_rfl) rfl (fun _ _ _ h => h) (by rfl) ?hy93 (by assumption) ?rest93
    case hy93 => (intro w hSw; (try dsimp only at hSw); go_simp; try with_reducible rfl)
    try simp only [Act.put, List.setIfInBounds_toArray, List.set_cons_zero, List.set_cons_succ]
    refine heldI_take 5 9 ?vv94 rfl (by kernel_rfl) (by kernel_rfl) (by kernel_rfl) rfl (fun _ _ _ h => h) (by rfl) ?hy94 (by assumption) ?rest94
    case hy94 => (intro w hSw; (try dsimp only at hSw); go_simp; try with_reducible rfl)
    try simp only [Act.put, List.setIfInBounds_toArray, List.set_cons_zero, List.set_cons_succ]
    refine heldI_take 6 10 ?vv95 rfl (by kernel_rfl) (by kernel_rfl) (by kernel_rfl) rfl (fun _ _ _ h => h) (by rfl) ?hy95 (by assumption) ?rest95
    case hy95 => (intro w hSw; (try dsimp only at hSw); go_simp; try with_reducible rfl)
    try simp only [Act.put, List.setIfInBounds_toArray, List.set_cons_zero, List.set_cons_succ]
    refine wpAnyH_ready (rs := [0, 7]) (by kernel_rfl) (by simp) ?_
    refine AllReadyH.cons rfl (fun K hK => ?_) (AllReadyH.cons rfl (fun K hK => ?_) AllReadyH.nil)
    · go_simp
      have z1 : (World.alloc V0 (.cells #[.string ⟨#[110]⟩, .string ⟨#[110, 101]⟩, .string ⟨#[101]⟩, .string ⟨#[115, 101]⟩, .string ⟨#[115]⟩, .string ⟨#[115, 119]⟩, .string ⟨#[119]⟩, .string ⟨#[110, 119]⟩] 9)).cell? ⟨V0.heap.size, kw, none⟩ = some (.string a) := by rw [← HAW.out]; exact way_cell V0 kw hk7
      have y1 : V0.heap.size < (World.alloc V0 (.cells #[.string ⟨#[110]⟩, .string ⟨#[110, 101]⟩, .string ⟨#[101]⟩, .string ⟨#[115, 101]⟩, .string ⟨#[115]⟩, .string ⟨#[115, 119]⟩, .string ⟨#[119]⟩, .string ⟨#[110, 119]⟩] 9)).heap.size := by simp
      have q1 : Below V.heap.size V (World.alloc V0 (.cells #[.string ⟨#[110]⟩, .string ⟨#[110, 101]⟩, .string ⟨#[101]⟩, .string ⟨#[115, 101]⟩, .string ⟨#[115]⟩, .string ⟨#[115, 119]⟩, .string ⟨#[119]⟩, .string ⟨#[110, 119]⟩] 9)) := q0.alloc q0.size _
      generalize World.alloc V0 (.cells #[.string ⟨#[110]⟩, .string ⟨#[110, 101]⟩, .string ⟨#[101]⟩, .string ⟨#[115, 101]⟩, .string ⟨#[115]⟩, .string ⟨#[115, 119]⟩, .string ⟨#[119]⟩, .string ⟨#[110, 119]⟩] 9) = V1 at z1 y1 q1 ⊢
      refine hK.out _ _ ⟨(q1.cell (p := ⟨w.heap.size, 0, none⟩) g0).trans e0, (q1.cell (p := ⟨w.heap.size, 1, none⟩) g0).trans e1, q1⟩ (fun hHeld => ?_)
      clear hK K
      try simp only [Act.put, List.setIfInBounds_toArray, List.set_cons_zero, List.set_cons_succ]
      refine heldI_take 3 7 ?vv96 rfl (by kernel_rfl) (by kernel_rfl) (by kernel_rfl) rfl (fun _ _ _ h => h) (by rfl) ?hy96 (by assumption) ?rest96
      case hy96 => (intro w hSw; (try dsimp only at hSw); go_simp; try with_reducible rfl)
      try simp only [Act.put, List.setIfInBounds_toArray, List.set_cons_zero, List.set_cons_succ]
      refine wpAnyH_ready (rs := [4, 7]) (by kernel_rfl) (by simp) ?_
      refine AllReadyH.cons rfl (fun K hK => ?_) (AllReadyH.cons rfl (fun K hK => ?_) AllReadyH.nil)
      · go_simp
        refine hK.out _ _ ⟨(q1.cell (p := ⟨w.heap.size, 0, none⟩) g0).trans e0, (q1.cell (p := ⟨w.heap.size, 1, none⟩) g0).trans e1, q1⟩ (fun hHeld => ?_)
        clear hK K
        try simp only [Act.put, List.setIfInBounds_toArray, List.set_cons_zero, List.set_cons_succ]
        refine wpAnyH_ready (rs := [7]) (by kernel_rfl) (by simp) ?_
        refine AllReadyH.cons rfl (fun K hK => ?_) AllReadyH.nil
        go_simp
        refine (l1Num_any x.u _ (by omega) (by omega)).mono ?_
        rintro e V2 ⟨rfl, hb⟩
        rw [HBU.out]
        go_wp2_with fail
        have q2 : Below V.heap.size V V2 := bl_step q1 hb
        replace z1 := (hb.cell (p := ⟨V0.heap.size, kw, none⟩) y1).trans z1
        refine hK.out _ _ ⟨(q2.cell (p := ⟨w.heap.size, 0, none⟩) g0).trans e0, (q2.cell (p := ⟨w.heap.size, 1, none⟩) g0).trans e1, q2⟩ (fun hHeld => ?_)
        clear hb hK K
        try simp only [Act.put, List.setIfInBounds_toArray, List.set_cons_zero, List.set_cons_succ]
        try simp only [List.getElem_toArray, List.getElem_cons_succ, List.getElem_cons_zero]
        try simp only [Act.put, List.setIfInBounds_toArray, List.set_cons_zero, List.set_cons_succ]
        refine heldI_take 8 12 ?vv97 rfl (by kernel_rfl) (by kernel_rfl) (by kernel_rfl) rfl (fun _ _ _ h => h) (by rfl) ?hy97 (by assumption) ?rest97
        case hy97 => (intro w hSw; (try dsimp only at hSw); go_simp; try with_reducible rfl)
        try simp only [Act.put, List.setIfInBounds_toArray, List.set_cons_zero, List.set_cons_succ]
        refine heldI_take 9 3 ?vv98 rfl (by kernel_rfl) (by kernel_rfl) (by kernel_rfl) rfl (fun _ _ _ h => h) (by rfl) ?hy98 (by assumption) ?rest98
        case hy98 => (intro w hSw; (try dsimp only at hSw); go_simp; try with_reducible rfl)
        try simp only [Act.put, List.setIfInBounds_toArray, List.set_cons_zero, List.set_cons_succ]
        refine wpAnyH_done (by kernel_rfl) ?_ _
        have HQ9 : Hid (Below V.heap.size V V2) := hide q2
        clear z1 q0 q1 hHeld
        try clear q2
        try clear y1
        generalize V2 = V9 at HQ9 ⊢
        have k2 := (HQ9.out.cell (p := ⟨w.heap.size, 2, none⟩) g0).trans e2
        have HB9 := hide (bl_step HBV.out HQ9.out)
        clear e0 e1 e2
        go_wp2_with fail
        refine (l1Num_any x.c _ (by omega) (by omega)).mono ?_
        rintro e V8 ⟨rfl, hb⟩
        rw [HTC.out]
        have HB8 := hide (bl_step HB9.out hb)
        clear hb
        go_wp2
        go_ret
        exact ⟨ret_strB HWD.out.symm, HB8.out⟩
      · go_simp
        refine (l1Num_any x.u _ (by omega) (by omega)).mono ?_
        rintro e V2 ⟨rfl, hb⟩
        rw [HBU.out]
        go_wp2_with fail
        have q2 : Below V.heap.size V V2 := bl_step q1 hb
        replace z1 := (hb.cell (p := ⟨V0.heap.size, kw, none⟩) y1).trans z1
        refine hK.out _ _ ⟨(q2.cell (p := ⟨w.heap.size, 0, none⟩) g0).trans e0, (q2.cell (p := ⟨w.heap.size, 1, none⟩) g0).trans e1, q2⟩ (fun hHeld => ?_)
        clear hb hK K
        try simp only [Act.put, List.setIfInBounds_toArray, List.set_cons_zero, List.set_cons_succ]
        refine wpAnyH_ready (rs := [4]) (by kernel_rfl) (by simp) ?_
        refine AllReadyH.cons rfl (fun K hK => ?_) AllReadyH.nil
        go_simp
        refine hK.out _ _ ⟨(q2.cell (p := ⟨w.heap.size, 0, none⟩) g0).trans e0, (q2.cell (p := ⟨w.heap.size, 1, none⟩) g0).trans e1, q2⟩ (fun hHeld => ?_)
        clear hK K
        try simp only [Act.put, List.setIfInBounds_toArray, List.set_cons_zero, List.set_cons_succ]
        try simp only [List.getElem_toArray, List.getElem_cons_succ, List.getElem_cons_zero]
        try simp only [Act.put, List.setIfInBounds_toArray, List.set_cons_zero, List.set_cons_succ]
        refine heldI_take 8 12 ?vv99 rfl (by kernel_rfl) (by kernel_rfl) (by kernel_rfl) rfl (fun _ _ _ h => h) (by rfl) ?hy99 (by assumption) ?rest99
        case hy99 => (intro w hSw; (try dsimp only at hSw); go_simp; try with_reducible rfl)
        try simp only [Act.put, List.setIfInBounds_toArray, List.set_cons_zero, List.set_cons_succ]
        refine heldI_take 9 3 ?vv100 rfl (by kernel_rfl) (by kernel_rfl) (by kernel_rfl) rfl (fun _ _ _ h => h) (by rfl) ?hy100 (by assumption) ?rest100
        case hy100 => (intro w hSw; (try dsimp only at hSw); go_simp; try with_reducible rfl)
        try simp only [Act.put, List.setIfInBounds_toArray, List.set_cons_zero, List.set_cons_succ]
        refine wpAnyH_done (by kernel_rfl) ?_ _
        have HQ9 : Hid (Below V.heap.size V V2) := hide q2
        clear z1 q0 q1 hHeld
        try clear q2
        try clear y1
        generalize V2 = V9 at HQ9 ⊢
        have k2 := (HQ9.out.cell (p := ⟨w.heap.size, 2, none⟩) g0).trans e2
        have HB9 := hide (bl_step HBV.out HQ9.out)
        clear e0 e1 e2
        go_wp2_with fail
        refine (l1Num_any x.c _ (by omega) (by omega)).mono ?_
        rintro e V8 ⟨rfl, hb⟩
        rw [HTC.out]
        have HB8 := hide (bl_step HB9.out hb)
        clear hb
        go_wp2
        go_ret
        exact ⟨ret_strB HWD.out.symm, HB8.out⟩
    · go_simp
      refine (l1Num_any x.u _ (by omega) (by omega)).mono ?_
      rintro e V1 ⟨rfl, hb⟩
      rw [HBU.out]
      go_wp2_with fail
      have q1 : Below V.heap.size V V1 := bl_step q0 hb
      refine hK.out _ _ ⟨(q1.cell (p := ⟨w.heap.size, 0, none⟩) g0).trans e0, (q1.cell (p := ⟨w.heap.size, 1, none⟩) g0).trans e1, q1⟩ (fun hHeld => ?_)
      clear hb hK K
      try simp only [Act.put, List.setIfInBounds_toArray, List.set_cons_zero, List.set_cons_succ]
      refine wpAnyH_ready (rs := [0]) (by kernel_rfl) (by simp) ?_
      refine AllReadyH.cons rfl (fun K hK => ?_) AllReadyH.nil
      go_simp
      have z1 : (World.alloc V1 (.cells #[.string ⟨#[110]⟩, .string ⟨#[110, 101]⟩, .string ⟨#[101]⟩, .string ⟨#[115, 101]⟩, .string ⟨#[115]⟩, .string ⟨#[115, 119]⟩, .string ⟨#[119]⟩, .string ⟨#[110, 119]⟩] 9)).cell? ⟨V1.heap.size, kw, none⟩ = some (.string a) := by rw [← HAW.out]; exact way_cell V1 kw hk7
      have y1 : V1.heap.size < (World.alloc V1 (.cells #[.string ⟨#[110]⟩, .string ⟨#[110, 101]⟩, .string ⟨#[101]⟩, .string ⟨#[115, 101]⟩, .string ⟨#[115]⟩, .string ⟨#[115, 119]⟩, .string ⟨#[119]⟩, .string ⟨#[110, 119]⟩] 9)).heap.size := by simp
      have q2 : Below V.heap.size V (World.alloc V1 (.cells #[.string ⟨#[110]⟩, .string ⟨#[110, 101]⟩, .string ⟨#[101]⟩, .string ⟨#[115, 101]⟩, .string ⟨#[115]⟩, .string ⟨#[115, 119]⟩, .string ⟨#[119]⟩, .string ⟨#[110, 119]⟩] 9)) := q1.alloc q1.size _
      generalize World.alloc V1 (.cells #[.string ⟨#[110]⟩, .string ⟨#[110, 101]⟩, .string ⟨#[101]⟩, .string ⟨#[115, 101]⟩, .string ⟨#[115]⟩, .string ⟨#[115, 119]⟩, .string ⟨#[119]⟩, .string ⟨#[110, 119]⟩] 9) = V2 at z1 y1 q2 ⊢
      refine hK.out _ _ ⟨(q2.cell (p := ⟨w.heap.size, 0, none⟩) g0).trans e0, (q2.cell (p := ⟨w.heap.size, 1, none⟩) g0).trans e1, q2⟩ (fun hHeld => ?_)
      clear hK K
      try simp only [Act.put, List.setIfInBounds_toArray, List.set_cons_zero, List.set_cons_succ]
      refine heldI_take 3 7 ?vv101 rfl (by kernel_rfl) (by kernel_rfl) (by kernel_rfl) rfl (fun _ _ _ h => h) (by rfl) ?hy101 (by assumption) ?rest101
      case hy101 => (intro w hSw; (try dsimp only at hSw); go_simp; try with_reducible rfl)
      try simp only [Act.put, List.setIfInBounds_toArray, List.set_cons_zero, List.set_cons_succ]
      refine wpAnyH_ready (rs := [4]) (by kernel_rfl) (by simp) ?_
      refine AllReadyH.cons rfl (fun K hK => ?_) AllReadyH.nil
      go_simp
      refine hK.out _ _ ⟨(q2.cell (p := ⟨w.heap.size, 0, none⟩) g0).trans e0, (q2.cell (p := ⟨w.heap.size, 1, none⟩) g0).trans e1, q2⟩ (fun hHeld => ?_)
      clear hK K
      try simp only [Act.put, List.setIfInBounds_toArray, List.set_cons_zero, List.set_cons_succ]
      try simp only [List.getElem_toArray, List.getElem_cons_succ, List.getElem_cons_zero]
      try simp only [Act.put, List.setIfInBounds_toArray, List.set_cons_zero, List.set_cons_succ]
      refine heldI_take 8 12 ?vv102 rfl (by kernel_rfl) (by kernel_rfl) (by kernel_rfl) rfl (fun _ _ _ h => h) (by rfl) ?hy102 (by assumption) ?rest102
      case hy102 => (intro w hSw; (try dsimp only at hSw); go_simp; try with_reducible rfl)
      try simp only [Act.put, List.setIfInBounds_toArray, List.set_cons_zero, List.set_cons_succ]
      refine heldI_take 9 3 ?vv103 rfl (by kernel_rfl) (by kernel_rfl) (by kernel_rfl) rfl (fun _ _ _ h => h) (by rfl) ?hy103 (by assumption) ?rest103
      case hy103 => (intro w hSw; (try dsimp only at hSw); go_simp; try with_reducible rfl)
      try simp only [Act.put, List.setIfInBounds_toArray, List.set_cons_zero, List.set_cons_succ]
      refine wpAnyH_done (by kernel_rfl) ?_ _
      have HQ9 : Hid (Below V.heap.size V V2) := hide q2
      clear z1 q0 q1 hHeld
      try clear q2
      try clear y1
      generalize V2 = V9 at HQ9 ⊢
      have k2 := (HQ9.out.cell (p := ⟨w.heap.size, 2, none⟩) g0).trans e2
      have HB9 := hide (bl_step HBV.out HQ9.out)
      clear e0 e1 e2
      go_wp2_with fail
      refine (l1Num_any x.c _ (by omega) (by omega)).mono ?_
      rintro e V8 ⟨rfl, hb⟩
      rw [HTC.out]
      have HB8 := hide (bl_step HB9.out hb)
      clear hb
      go_wp2
      go_ret
      exact ⟨ret_strB HWD.out.symm, HB8.out⟩

set_option maxRecDepth 100000 in
set_option maxHeartbeats 1000000 in
theorem sRouteText_any (ao : Option Addr) (n : Nat) (zs : List Lg) (w : World) (hz : zs.length = n) (hn : n ≤ 1048576) (hr : Rd encLg 3 w.heap.size w ao zs) :
    Calls Tryd.prog 5 #[.slice ao n n] w fun e w' => e = .returned (.tuple #[.string (routeT zs), .bool (routeB zs)]) ∧ Below w.heap.size w w' := by
  have mixed : Tryd.prog.follows .mixedOrders = true := by kernel_rfl
  have HZ := hide hz
  have HR := hide hr
  have HA := hide (l15Good_any ao n n zs w hz hn hr)
  clear hz hr
  cases h1 : routeB zs with
  | false =>
    have HO : Hid (routeT zs = ⟨#[]⟩) := hide (by unfold routeT; rw [h1]; rfl)
    have H1 := hide h1
    clear h1
    go_enter Tryd.func5, Tryd.ntmps5
    go_wp2_with fail
    refine HA.out.mono ?_
    rintro e w1 ⟨rfl, hb⟩
    rw [H1.out]
    have HB := hide hb
    clear hb
    go_wp2
    go_ret2
    exact ⟨ret_sb HO.out.symm rfl, HB.out⟩
  | true =>
    have H1 := hide h1
    have H12 := hide (route_12 h1)
    have h12 : n ≤ 12 := by have := H12.out; rw [HZ.out] at this; exact this
    clear h1
    by_cases hn0 : n = 0
    · subst hn0
      have HO : Hid (routeT zs = ⟨#[45]⟩) := hide (by unfold routeT; rw [H1.out, if_pos rfl, if_pos HZ.out])
      go_enter Tryd.func5, Tryd.ntmps5
      go_wp2_with fail
      refine HA.out.mono ?_
      rintro e w1 ⟨rfl, hb⟩
      rw [H1.out]
      have HB := hide hb
      clear hb HA
      go_wp2
      go_ret2
      exact ⟨ret_sb HO.out.symm rfl, HB.out⟩
    · have HO : Hid (routeT zs = joinB (wordsL zs)) := hide (by unfold routeT; rw [H1.out, if_pos rfl, if_neg (by rw [HZ.out]; exact hn0)])
      have hnz : ((n : Int) == 0) = false := by simp; omega
      go_enter Tryd.func5, Tryd.ntmps5
      go_wp2_with fail
      refine HA.out.mono ?_
      rintro e w1 ⟨rfl, hb⟩
      rw [H1.out]
      have HB := hide hb
      clear hb HA
      go_wp2
      go_loopg [4, 5] n (fun gk v i wr => ∃ k : Nat, k ≤ n ∧ n - k ≤ gk ∧ v = .string (joinB (wordsL (zs.take k))) ∧ i = .int .i64 k ∧ Aside (Below w.heap.size w wr))
      case atStart => exact ⟨0, Nat.zero_le _, by omega, rfl, rfl, HB.out⟩
      case round =>
        obtain ⟨k, hk, hg, rfl, rfl, BW⟩ := hrel
        by_cases hlt : k < n
        · have hltz : (k : Int) < (n : Int) := by omega
          have hkz : (0 : Int) ≤ (k : Int) := by omega
          obtain ⟨b9, off, rfl, hb1, hat⟩ := rdLg HR.out (by rw [HZ.out]; omega)
          obtain ⟨x, hx, hxc⟩ := hat k (by rw [HZ.out]; exact hlt)
          obtain ⟨hbr, c0, c1, c2⟩ := hxc wr BW.out
          have HX := hide hx
          have HBD := hide (route_bd H1.out hx)
          have HBR := hide BW.out
          clear hx hxc hat
          have zj := joinL_size H1.out k
          have zw := wordL_size HBD.out
          by_cases h0 : 0 < k
          · have h0z : (0 : Int) < (k : Int) := by omega
            have HTT : Hid (joinB (wordsL (zs.take k)) ++ (⟨#[32]⟩ : ByteArray) ++ wordL x = joinB (wordsL (zs.take (k + 1)))) := hide (joinL_step HX.out h0).symm
            generalize joinB (wordsL (zs.take k)) = J at zj HTT ⊢
            have sJ : ¬ 9223372036854775807 < J.size + 1 := by omega
            have sK : ¬ 9223372036854775807 < J.size + 1 + (wordL x).size := by omega
            go_wp2_with fail
            refine (l15Text_any x HBD.out _).mono ?_
            rintro e w2 ⟨rfl, hb⟩
            have HB3 := hide (bl_step HBR.out hb)
            clear hb
            go_wp2
            go_roundg (n - (k + 1))
            case measure => omega
            case rel => exact ⟨k + 1, by omega, by omega, congrArg Value.string HTT.out, by go_num, HB3.out⟩
          · have h0z : ¬ (0 : Int) < (k : Int) := by omega
            have HTT : Hid (joinB (wordsL (zs.take k)) ++ wordL x = joinB (wordsL (zs.take (k + 1)))) := hide (by
              obtain rfl : k = 0 := by omega
              rw [joinL_one HX.out]
              apply ByteArray.ext
              simp [wordsL, joinB, ByteArray.data_append])
            generalize joinB (wordsL (zs.take k)) = J at zj HTT ⊢
            have sK : ¬ 9223372036854775807 < J.size + (wordL x).size := by omega
            go_wp2_with fail
            refine (l15Text_any x HBD.out _).mono ?_
            rintro e w2 ⟨rfl, hb⟩
            have HB3 := hide (bl_step HBR.out hb)
            clear hb
            go_wp2
            go_roundg (n - (k + 1))
            case measure => omega
            case rel => exact ⟨k + 1, by omega, by omega, congrArg Value.string HTT.out, by go_num, HB3.out⟩
        · have hltz : ¬ (k : Int) < (n : Int) := by omega
          obtain rfl : k = n := by omega
          have HTK : Hid (zs.take k = zs) := hide (by rw [List.take_of_length_le (by rw [HZ.out]; exact Nat.le_refl _)])
          rw [HTK.out]
          go_wp2
          go_ret2
          exact ⟨ret_sb HO.out.symm rfl, BW.out⟩

end Go.Proofs.YtpmghdhgnehphaaDoor
