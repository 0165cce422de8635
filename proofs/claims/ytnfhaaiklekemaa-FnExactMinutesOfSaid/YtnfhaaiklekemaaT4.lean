/- Greatest common divisors; minutes as fractions. -/
import Derived.Test.YtnfhaaiklekemaaT3
namespace Go.Proofs.Ytnfhaaiklekemaa
open Go.RowKit

theorem ediv_uniq {a d q : Int} (h0 : 0 < d) (h1 : d * q ≤ a) (h2 : a < d * q + d) : a / d = q :=
  ((Int.ediv_emod_unique h0).2 ⟨show (a - d * q) + d * q = a by omega, by omega, by omega⟩).1
/-- the fraction in lowest terms, rounded up, is the fraction rounded up -/
theorem ceil_frac {m d g : Int} (hg : 0 < g) (hd : 0 < d) : (m + d - 1) / d = (g * m + g * d - 1) / (g * d) := by
  have hgd : 0 < g * d := Int.mul_pos hg hd
  generalize hq : (m + d - 1) / d = q
  have e1 : d * q ≤ m + d - 1 := by rw [← hq]; exact Int.mul_ediv_self_le (by omega)
  have e2 : m + d - 1 < d * q + d := by rw [← hq]; exact Int.lt_mul_ediv_self_add hd
  symm
  refine ediv_uniq hgd ?_ ?_
  · have h := Int.mul_le_mul_of_nonneg_left e1 (Int.le_of_lt hg)
    have e : g * (m + d - 1) = g * m + g * d - g := by rw [Int.mul_sub, Int.mul_add, Int.mul_one]
    have e' : g * d * q = g * (d * q) := Int.mul_assoc ..
    omega
  · have h : m ≤ d * q := by omega
    have h' := Int.mul_le_mul_of_nonneg_left h (Int.le_of_lt hg)
    have e' : g * d * q = g * (d * q) := Int.mul_assoc ..
    omega
def gV (M : Int) : Int := (Int.gcd M 150 : Nat)
theorem g_pos (M : Int) : 0 < gV M := by
  unfold gV
  have := Int.gcd_pos_of_ne_zero_right M (b := 150) (by omega)
  omega
theorem g_le (M : Int) : gV M ≤ 150 := by
  have h : gV M ∣ 150 := by unfold gV; exact Int.gcd_dvd_right ..
  exact Int.le_of_dvd (by omega) h
theorem enough_eq (M : Int) : (M / gV M + 150 / gV M - 1) / (150 / gV M) = (M + 149) / 150 := by
  have hg := g_pos M
  obtain ⟨m, hm⟩ : gV M ∣ M := by unfold gV; exact Int.gcd_dvd_left ..
  obtain ⟨d, hd⟩ : gV M ∣ 150 := by unfold gV; exact Int.gcd_dvd_right ..
  generalize gV M = g at *
  have hd0 : 0 < d := by
    rcases Int.lt_or_le 0 d with h | h
    · exact h
    · have := Int.mul_nonpos_of_nonneg_of_nonpos (Int.le_of_lt hg) h; omega
  have e1 : M / g = m := by rw [hm]; exact Int.mul_ediv_cancel_left _ (by omega)
  have e2 : (150 : Int) / g = d := by rw [hd]; exact Int.mul_ediv_cancel_left _ (by omega)
  rw [e1, e2, ceil_frac hg hd0, ← hm, ← hd]
  congr 1; omega

theorem ret_iib {a b c d : Int} {x y : Bool} (h1 : a = b) (h2 : c = d) (h3 : x = y) : Ending.returned (.tuple #[.int .i64 a, .int .i64 c, .bool x]) = .returned (.tuple #[.int .i64 b, .int .i64 d, .bool y]) := by rw [h1, h2, h3]
theorem ret_ii {a b c d : Int} (h1 : a = b) (h2 : c = d) : Ending.returned (.tuple #[.int .i64 a, .int .i64 c]) = .returned (.tuple #[.int .i64 b, .int .i64 d]) := by rw [h1, h2]
theorem gcd_step {p q : Int} (hp : 0 ≤ p) (hq : 0 < q) : Int.gcd q (p % q) = Int.gcd p q := by
  obtain ⟨a, rfl⟩ := Int.eq_ofNat_of_zero_le hp
  obtain ⟨b, rfl⟩ := Int.eq_ofNat_of_zero_le (Int.le_of_lt hq)
  rw [← Int.natCast_emod]
  show Nat.gcd b (a % b) = Nat.gcd a b
  rw [Nat.gcd_comm a b, Nat.gcd_rec b a, Nat.gcd_comm]
theorem abs_any (n : Int) (w : World) (h0 : 0 ≤ n) (h1 : n ≤ 1099511627776) : Calls Try.prog 70 #[.int .i64 n] w fun e w' => e = .returned (.int .i64 n) ∧ w = w' := by
  have h2 : ¬ n < -n := by omega
  go_enter Try.func70, Try.ntmps70
  go_wp2
  go_ret
  exact ⟨rfl, rfl⟩
set_option maxRecDepth 100000 in
theorem gcd_any (a b : Int) (w : World) (ha : 0 ≤ a) (ha1 : a ≤ 1099511627776) (hb : 0 ≤ b) (hb1 : b ≤ 1099511627776) : Calls Try.prog 85 #[.int .i64 a, .int .i64 b] w fun e w' => e = .returned (.int .i64 (Int.gcd a b : Nat)) ∧ Below w.heap.size w w' := by
  go_enter Try.func85, Try.ntmps85
  go_wp2
  go_loopg [0, 1] b.toNat (fun gk u v wr => ∃ p q : Int, u = .int .i64 p ∧ v = .int .i64 q ∧ 0 ≤ p ∧ p ≤ 1099511627776 ∧ 0 ≤ q ∧ q ≤ 1099511627776 ∧ q.toNat ≤ gk ∧ Aside (Int.gcd p q = Int.gcd a b) ∧ Aside (Below w.heap.size w wr))
  case atStart => exact ⟨a, b, rfl, rfl, ha, ha1, hb, hb1, Nat.le_refl _, rfl, Below.refl _ _⟩
  case round =>
    obtain ⟨p, q, rfl, rfl, hp0, hp1, hq0, hq1, hg, HG, BW⟩ := hrel
    by_cases hq : q = 0
    · have k1 : (q == 0) = true := by rw [hq]; rfl
      have k2 : (q != 0) = false := by rw [hq]; rfl
      have HQ := hide hq
      clear hq
      go_wp2
      go_ret
      exact ⟨ret_int (by rw [← HG.out, HQ.out, Int.gcd_zero_right]; omega), BW.out⟩
    · have k1 : (q == 0) = false := by simpa using hq
      have k2 : (q != 0) = true := by simpa using hq
      have hq2 : 0 < q := by omega
      have hm0 : 0 ≤ p % q := Int.emod_nonneg _ (by omega)
      have hm1 : p % q < q := Int.emod_lt_of_pos _ hq2
      have t1 : p.tmod q = p % q := Int.tmod_eq_emod_of_nonneg hp0
      go_wp2_with fail
      go_quiet (fail)
      go_wp2
      go_roundg (p % q).toNat
      case measure => omega
      case rel => exact ⟨q, p % q, rfl, rfl, by omega, by omega, by omega, by omega, Nat.le_refl _, by rw [gcd_step hp0 hq2]; exact HG.out, below_drewN BW.out _⟩

theorem min_bd {zs : List Lg} (h : routeB zs = true) : 0 ≤ sumI partsV yes zs ∧ sumI partsV yes zs ≤ 3600000 := by
  have hl := route_12 h
  have := sum_bd (f := partsV) (c := yes) zs (m := 300000) (by omega) (by omega) (fun x hx => by
    obtain ⟨k, hk, hkx⟩ := List.getElem_of_mem hx
    have := parts_bd (route_bd h (show zs[k]? = some x by rw [List.getElem?_eq_getElem hk, hkx]))
    omega)
  have : (zs.length : Int) * (300000 : Nat) ≤ 12 * 300000 := Int.mul_le_mul_of_nonneg_right (by omega) (by omega)
  omega
set_option maxRecDepth 100000 in
theorem fraction_any (M : Int) (w : World) (h0 : 0 ≤ M) (h1 : M ≤ 3600000) : Calls Try.prog 76 #[.int .i64 M, .int .i64 150] w fun e w' => e = .returned (.tuple #[.int .i64 (M / gV M), .int .i64 (150 / gV M)]) ∧ Below w.heap.size w w' := by
  go_enter Try.func76, Try.ntmps76
  go_wp2_with fail
  refine (abs_any M _ h0 (by omega)).mono ?_
  rintro e w1 ⟨rfl, rfl⟩
  go_wp2_with fail
  refine (gcd_any M 150 _ h0 (by omega) (by omega) (by omega)).mono ?_
  rintro e w1 ⟨rfl, hb⟩
  have hg0 := g_pos M
  have hg1 := g_le M
  have HB := hide hb
  clear hb
  rw [show ((Int.gcd M 150 : Nat) : Int) = gV M from rfl]
  generalize hgg : gV M = g at hg0 hg1 ⊢
  have HG := hide hgg
  clear hgg
  have k1 : (g == 0) = false := by rw [beq_eq_false_iff_ne]; omega
  have q0 : 0 ≤ M / g := Int.ediv_nonneg h0 (by omega)
  have q1 : M / g ≤ M := Int.ediv_le_self _ h0
  have q2 : 0 ≤ 150 / g := Int.ediv_nonneg (by omega) (by omega)
  have q3 : 150 / g ≤ 150 := Int.ediv_le_self _ (by omega)
  have t1 : M.tdiv g = M / g := Int.tdiv_eq_ediv_of_nonneg h0
  have t2 : Int.tdiv 150 g = 150 / g := Int.tdiv_eq_ediv_of_nonneg (by omega)
  have u1 : IntKind.i64.wrap (M / g) = M / g := IntWalk.i64_in _ (by omega)
  have u2 : IntKind.i64.wrap (150 / g) = 150 / g := IntWalk.i64_in _ (by omega)
  go_wp2_with fail
  go_quiet (fail)
  go_wp2
  go_ret2
  exact ⟨ret_ii (by rw [HG.out]) (by rw [HG.out]), below_drewN HB.out _⟩
set_option maxRecDepth 100000 in
theorem l2Reduce_any (M : Int) (w : World) (h0 : 0 ≤ M) (h1 : M ≤ 3600000) : Calls Try.prog 75 #[.int .i64 M, .int .i64 150] w fun e w' => e = .returned (.tuple #[.int .i64 (M / gV M), .int .i64 (150 / gV M)]) ∧ Below w.heap.size w w' := by
  have HX : Hid (mx M (-M) = M) := hide (by unfold mx; split <;> omega)
  go_enter Try.func75, Try.ntmps75
  go_wp2_with fail
  refine (l1Most_any _ _ _).mono ?_
  rintro e w1 ⟨rfl, rfl⟩
  rw [HX.out]
  go_wp2
  go_loopg [6, 7] 150 (fun gk u v wr => ∃ p q : Int, u = .int .i64 p ∧ v = .int .i64 q ∧ 0 ≤ p ∧ p ≤ 1099511627776 ∧ 0 ≤ q ∧ q ≤ 1099511627776 ∧ q.toNat ≤ gk ∧ Aside (Int.gcd p q = Int.gcd M 150) ∧ w = wr)
  case atStart => exact ⟨M, 150, rfl, rfl, h0, by omega, by omega, by omega, by omega, rfl, rfl⟩
  case round =>
    obtain ⟨p, q, rfl, rfl, hp0, hp1, hq0, hq1, hg, HG, rfl⟩ := hrel
    by_cases hq : q = 0
    · have k1 : (q == 0) = true := by rw [hq]; rfl
      have k2 : (q != 0) = false := by rw [hq]; rfl
      have hpg : p = gV M := by
        have := HG.out
        rw [hq, Int.gcd_zero_right] at this
        unfold gV
        omega
      have hg0 := g_pos M
      have hg1 := g_le M
      have HP := hide hpg
      clear hq
      rw [← hpg] at hg0 hg1
      clear hpg
      have k3 : (p == 0) = false := by rw [beq_eq_false_iff_ne]; omega
      have q0 : 0 ≤ M / p := Int.ediv_nonneg h0 (by omega)
      have q1 : M / p ≤ M := Int.ediv_le_self _ h0
      have q2 : 0 ≤ 150 / p := Int.ediv_nonneg (by omega) (by omega)
      have q3 : 150 / p ≤ 150 := Int.ediv_le_self _ (by omega)
      have t1 : M.tdiv p = M / p := Int.tdiv_eq_ediv_of_nonneg h0
      have t2 : Int.tdiv 150 p = 150 / p := Int.tdiv_eq_ediv_of_nonneg (by omega)
      have u1 : IntKind.i64.wrap (M / p) = M / p := IntWalk.i64_in _ (by omega)
      have u2 : IntKind.i64.wrap (150 / p) = 150 / p := IntWalk.i64_in _ (by omega)
      go_wp2_with fail
      go_quiet (fail)
      go_wp2
      go_ret2
      exact ⟨ret_ii (by rw [← HP.out]) (by rw [← HP.out]), below_drewN (Below.refl _ _) _⟩
    · have k1 : (q == 0) = false := by simpa using hq
      have k2 : (q != 0) = true := by simpa using hq
      have hq2 : 0 < q := by omega
      have hm0 : 0 ≤ p % q := Int.emod_nonneg _ (by omega)
      have hm1 : p % q < q := Int.emod_lt_of_pos _ hq2
      go_wp2
      go_roundg (p % q).toNat
      case measure => omega
      case rel => exact ⟨q, p % q, rfl, rfl, by omega, by omega, by omega, by omega, Nat.le_refl _, by rw [gcd_step hp0 hq2]; exact HG.out, rfl⟩
def minV (zs : List Lg) : Int := if routeB zs then sumI partsV yes zs / gV (sumI partsV yes zs) else 0
def denV (zs : List Lg) : Int := if routeB zs then 150 / gV (sumI partsV yes zs) else 0
def enoughV (zs : List Lg) : Int := if routeB zs then (sumI partsV yes zs + 149) / 150 else 0

end Go.Proofs.Ytnfhaaiklekemaa
