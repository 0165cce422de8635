/- The covers without one. -/
import Derived.Test.YtpdfbijfklmonaaM8
import Derived.Test.YtpdfbijfklmonaaM6
namespace Go.Proofs.Ytpdfbijfklmonaa
open Go.RowKit
set_option linter.unusedVariables false
set_option linter.unusedSimpArgs false

def dropC (zs : List Cv) (k : Nat) : List Cv := zs.take k ++ zs.drop (k + 1)
theorem dropC_len {zs : List Cv} {n k : Nat} (hz : zs.length = n) (hk : k < n) : (dropC zs k).length = k + (n - (k + 1)) := by simp [dropC, hz]; omega
theorem good_drop {zs : List Cv} (h : goodAll zs) (k : Nat) : goodAll (dropC zs k) := by
  intro i x hx
  have hm : x ∈ zs := by
    have := List.mem_of_getElem? hx
    unfold dropC at this
    rcases List.mem_append.1 this with h1 | h1
    · exact List.mem_of_mem_take h1
    · exact List.mem_of_mem_drop h1
  obtain ⟨j, hj⟩ := List.getElem?_of_mem hm
  exact h j x hj
theorem Rd.takeV {B : Nat} {w : World} {ao : Option Addr} {zs : List Cv} (k : Nat) (h : Rd encCv 6 B w ao zs) : Rd encCv 6 B w ao (zs.take k) := by
  rcases h with rfl | ⟨b, off, rfl, h1, h2, hc⟩
  · exact .inl (by simp)
  · refine .inr ⟨b, off, rfl, h1, h2, fun j x hx i v hv => hc j x ?_ i v hv⟩
    rw [List.getElem?_take] at hx
    split at hx
    · exact hx
    · cases hx
theorem Rd.dropV {B : Nat} {w : World} {b off : Nat} {zs : List Cv} (k : Nat) (h : Rd encCv 6 B w (some ⟨b, off, none⟩) zs) : Rd encCv 6 B w (some ⟨b, off + k * 6, none⟩) (zs.drop k) := by
  rcases h with rfl | ⟨b', off', he, h1, h2, hc⟩
  · exact .inl (by simp)
  · injection he with he; injection he with e1 e2 _; subst e1; subst e2
    refine .inr ⟨b, off + k * 6, rfl, h1, h2, fun j x hx i v hv => ?_⟩
    rw [List.getElem?_drop] at hx
    have := hc (k + j) x hx i v hv
    rw [show off + (k + j) * 6 + i = off + k * 6 + j * 6 + i from by omega] at this
    exact this
/-- the address behind the element left out -/
def behindA (b off k c : Nat) : Addr := if c = k + 1 then ⟨b, off, none⟩ else ⟨b, off + (k + 1) * 6, none⟩
theorem Rd.behind {B : Nat} {w : World} {b off n k c : Nat} {zs : List Cv} (hz : zs.length = n) (hc : n ≤ c) (h : Rd encCv 6 B w (some ⟨b, off, none⟩) zs) : Rd encCv 6 B w (some (behindA b off k c)) (zs.drop (k + 1)) := by
  unfold behindA
  split
  · exact .inl (by rw [List.drop_eq_nil_iff]; omega)
  · exact h.dropV (k + 1)
def onlyOk (a b : Int) (zs : List Cv) (s : Int) : Bool := wallB a b zs && hasC zs s
def onlyV (a b : Int) (zs : List Cv) (s : Int) : Int := if onlyOk a b zs s then cntX (dropC zs (idxB (isC s) zs).toNat) b.toNat a.toNat - cntX zs b.toNat a.toNat else 0
theorem has_no {zs : List Cv} {q : Int} (h : idxB (isC q) zs = -1) : hasC zs q = false := by unfold hasC; rw [h]; rfl
theorem step_append_own {P : Program} {w : World} {ops : Array Oper} {o : Oper} {a : Act} {K : Act → World → Prop} {Q : Exit → Act → World → Prop} {E : Prop} (hgd : o.guard = none) (s x : Operand) (t : TypeId)
    (ho : o.op = .call { callee := .builtin .append, args := #[s, x], argTypes := #[t, t] })
    (base : Nat) (e : TypeId) (i : TypeInfo) (z : Value) (size bytes : Nat) (ht : P.underlying t = some (.slice e)) (hi : P.info? e = some i) (hz : i.zero = some z)
    (hsize : i.size = size) (hby : i.bytes = bytes) (hzs : z.cells.size = size) (hsz : 0 < size)
    (v : Value) (n : Nat) (xs : List Value) (hs : a.eval s = v) (hown : w.ownsRow base e size v n xs)
    (ad : Addr) (m c : Nat) (news : List Value) (hx : a.eval x = .slice (some ad) m c) (hl : news.length = m * size) (hnews : ∀ j u, news[j]? = some u → w.cell? (ad.add j) = some u) (h1 : ∀ u ∈ news, u.oneCell' = true)
    (h63 : n + m ≤ maxLen) (hbytes : (n + m) * bytes ≤ 140737488355328) (hbase : base ≤ w.heap.size)
    (h : ∀ v' w', w'.ownsRow base e size v' (n + m) (xs ++ news) → w.grownBy w' v.ownBlock → K (a.put o.dst v') w') :
    if Region.wanted o (yielded ops a.tmps) = true then Oper.wp P o a w K Q else E := by
  have hw : Region.wanted o (yielded ops a.tmps) = true := by simp [Region.wanted, hgd]
  rw [if_pos hw]
  exact wp_append_own w s x t ho base e i z size bytes ht hi hz hsize hby hzs hsz v n xs hs hown ad m c news hx hl hnews h1 h63 hbytes hbase fun v' w' h2 h3 _ => h v' w' h2 h3

end Go.Proofs.Ytpdfbijfklmonaa
