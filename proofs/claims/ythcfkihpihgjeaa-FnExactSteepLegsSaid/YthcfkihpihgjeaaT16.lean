/- EndOfRoute: the plain law. -/
import Derived.Test.YthcfkihpihgjeaaT15b
import Derived.Test.YthcfkihpihgjeaaT2
import Derived.Test.YthcfkihpihgjeaaOwn
namespace Go.Proofs.Ythcfkihpihgjeaa
open Go.RowKit
set_option linter.unusedVariables false
set_option linter.unusedSimpArgs false

def fE (x : Lg) : Int := x.u * dX x.w
def fN (x : Lg) : Int := x.u * dY x.w
def fC (x : Lg) : Int := x.c
theorem d_bd (w : Int) : (-1 ≤ dX w ∧ dX w ≤ 1) ∧ (-1 ≤ dY w ∧ dY w ≤ 1) := by
  unfold dX dY
  generalize w.toNat = k
  match k with
  | 0 => decide
  | 1 => decide
  | 2 => decide
  | 3 => decide
  | 4 => decide
  | 5 => decide
  | 6 => decide
  | 7 => decide
  | k + 8 => simp
theorem up_bd {u p : Int} (hu : 1 ≤ u ∧ u ≤ 999) (hp : -1 ≤ p ∧ p ≤ 1) : -999 ≤ u * p ∧ u * p ≤ 999 := by
  have : p = -1 ∨ p = 0 ∨ p = 1 := by omega
  rcases this with rfl | rfl | rfl <;> omega
def encP (p : Int × Int) : List Value := [.int .i64 p.1, .int .i64 p.2]
theorem encP_len : ∀ x, (encP x).length = 2 := fun _ => rfl
theorem infoP : (Try.prog.info? 60).map (fun i => (i.zero, i.size, i.bytes)) = some (some (.agg #[.int .i64 0, .int .i64 0]), 2, 16) := by kernel_rfl
def psL (zs : List Lg) (k : Nat) : List (Int × Int) := (List.range k).map fun j => (sumI fE yes (zs.take (j + 1)), sumI fN yes (zs.take (j + 1)))
theorem psL_len (zs : List Lg) (k : Nat) : (psL zs k).length = k := by simp [psL]
theorem psL_succ (zs : List Lg) (k : Nat) : psL zs (k + 1) = psL zs k ++ [(sumI fE yes (zs.take (k + 1)), sumI fN yes (zs.take (k + 1)))] := by simp [psL, List.range_succ]
theorem psL_last {zs : List Lg} {n j : Nat} (hz : zs.length = n) (hj : n = j + 1) : (psL zs n)[j]? = some (sumI fE yes zs, sumI fN yes zs) := by
  subst hj
  have : zs.take (j + 1) = zs := List.take_of_length_le (by omega)
  simp [psL, this]
theorem own_setfar {w : World} {base n k : Nat} {e : TypeId} {v : Value} {xs : List Value} (h : w.ownsRow base e k v n xs) {p : Addr} (hp : p.block < base) (u : Value) : (w.setCell p u).ownsRow base e k v n xs :=
  ⟨h.1, h.2.imp id (fun ⟨g, cap, cur, h1, h2, hg, r⟩ => ⟨g, cap, cur, h1, h2, (Blk.far (show Blk w g e cur from hg) (by omega) u), r⟩)⟩
theorem results_tmp4 {fn : Func} {t u v x : Tmp} (h : fn.results = #[.tmp t, .tmp u, .tmp v, .tmp x]) (tmps : Array Value) (P : Program) (w : World) :
    (results fn tmps).run P w = .ok (.tuple #[tmps.getD t undef, tmps.getD u undef, tmps.getD v undef, tmps.getD x undef]) w := by
  simp [results, h]
theorem ret_i4 {a b c a' b' c' : Int} {d d' : Bool} (h1 : a = a') (h2 : b = b') (h3 : c = c') (h4 : d = d') : Ending.returned (.tuple #[.int .i64 a, .int .i64 b, .int .i64 c, .bool d]) = .returned (.tuple #[.int .i64 a', .int .i64 b', .int .i64 c', .bool d']) := by rw [h1, h2, h3, h4]
theorem ret_i3 {a b c a' b' c' : Int} (h1 : a = a') (h2 : b = b') (h3 : c = c') : Ending.returned (.tuple #[.int .i64 a, .int .i64 b, .int .i64 c]) = .returned (.tuple #[.int .i64 a', .int .i64 b', .int .i64 c']) := by rw [h1, h2, h3]

end Go.Proofs.Ythcfkihpihgjeaa
