/- The abstract layer, part 22: freezing what blocks hold, bytes of strings, calls of closures. -/
import Derived.Test.YtpoehckffpbfiaaGreatXAAb21
namespace Go.Ab
open Go.RowKit
variable {lim : Nat}
section
variable {P : Program} {tt : TT}
theorem awp_freezeM {Q : Exit → St → Prop} {body : Code} {n : Nat} {t : List (Nat × AV)} {m : Mem} (K KB : List Nat) (L : Mem) (ρ : Rho) (mt : List (Nat × AV)) (mm : Mem) {kt : List (Nat × AV)} {km : Mem} (hk : keepF t K = some kt) (hkb : keepM m KB = some km) (hr : rhoOK ρ (mm ++ km) = true) (ht : idT ρ kt = true) (hm : idM ρ km = true)
  (hL : lendsOK ρ m L) (hmt : wkTL L ρ ⟨n, t, m⟩ mt) (hmm : wkML L ρ m mm) (h : AWP P lim body Q ⟨n, mt ++ kt, mm ++ km⟩) : AWP P lim body Q ⟨n, t, m⟩ :=
 awp_freeze0 (h := ⟨n, mt ++ kt, mm ++ km⟩) ⟨L, ρ, rfl, hr, hL, wkTL_append hmt (wkT_up (keepF_wk hk ht)), wkML_append hmm (wkM_up (keepM_wk hkb hm))⟩ h
def byteAt (s : ByteArray) (k : Nat) : Int := ((s.data[k]?).getD 0).toNat
variable {ops : Array Oper} {draw : Bool} {Q : St → Prop} {acc : List (Option Eff)} {l : List Oper}
theorem go_indexS {o : Oper} {n ty : Nat} {t t' : List (Nat × AV)} {m : Mem} {x y : Operand} {D : TyD} {kd : IntKind} {i : Nat} {s : ByteArray} (ht : TTok P tt) (hi : i < s.size) (hg : gchk ops ⟨n, t, m⟩ o = some true) (ho : o.op = .index ty x y) (hD : lk ty tt = some D) (hk : D.k = .str)
  (hx : (⟨n, t, m⟩ : St).ev x = .sc (.string s)) (hy : (⟨n, t, m⟩ : St).ev y = .sc (.int kd (i : Int))) (hp : putF n t o.dst (.sc (.int .u8 (byteAt s i))) = some t')
  (h : Go P ops draw Q l ⟨n, t', m⟩ (some ⟨.sc (.int .u8 (byteAt s i)), [], [], []⟩ :: acc)) : Go P ops draw Q (o :: l) ⟨n, t, m⟩ acc := by
 have hi' : i < s.data.size := hi
 have hA := as_index_str (P := P) (o := o) (s := ⟨n, t, m⟩) (u := s[i]) ho (ht _ _ hD) hk hx hy (by omega) (by simp [hi])
 have e : ((s[i] : UInt8).toNat : Int) = byteAt s i := by
  unfold byteAt
  rw [Array.getElem?_eq_getElem hi']
  rfl
 rw [e] at hA
 exact go_step hg hA rfl hp rfl h
end
end Go.Ab
