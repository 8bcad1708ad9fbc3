/- The abstract layer, part 21: append of one element, elements of own slices, ends with a slice. -/
import Derived.Test.YtpoehckffpbfiaaGreatXAAb20
namespace Go.Ab
open Go.RowKit
section
variable {P : Program} {tt : TT} {ops : Array Oper} {draw : Bool} {Q : St → Prop} {acc : List (Option Eff)} {l : List Oper}
theorem go_indexA {o : Oper} {n ty e b len bt bz : Nat} {t t' : List (Nat × AV)} {m : Mem} {x y : Operand} {D E : TyD} {k : IntKind} {i : Nat} {xs : List AV} (ht : TTok P tt) (hi : i < len) (hg : gchk ops ⟨n, t, m⟩ o = some true) (ho : o.op = .indexAddr ty x y) (hD : lk ty tt = some D) (hk : D.k = .slice e) (hE : lk e tt = some E)
  (hx : (⟨n, t, m⟩ : St).ev x = .arr b 0 len) (hy : (⟨n, t, m⟩ : St).ev y = .sc (.int k (i : Int))) (hb : lk b m = some (some ⟨bt, bz, xs⟩)) (hz : Nat.beq bz E.size = true) (hp : putF n t o.dst (.ref b i 0) = some t')
  (h : Go P ops draw Q l ⟨n, t', m⟩ (some ⟨.ref b i 0, [], [b], []⟩ :: acc)) : Go P ops draw Q (o :: l) ⟨n, t, m⟩ acc := by
 have hA : AStep P o ⟨n, t, m⟩ ⟨.ref b i 0, [], [b], []⟩ := by
  have := as_index_arr (P := P) (o := o) (s := ⟨n, t, m⟩) ho (ht _ _ hD) hk (ht _ _ hE) hx hy hb hz (by omega) (by omega)
  simpa using this
 exact go_step hg hA rfl hp rfl h
theorem go_indexV {o : Oper} {n ty k e : Nat} {t t' : List (Nat × AV)} {m : Mem} {x y : Operand} {D E : TyD} {kd : IntKind} {i : Nat} {cs : List AV} {v : AV} (ht : TTok P tt) (hi : i < k) (hv : rd E cs (i * E.size) = some v) (hg : gchk ops ⟨n, t, m⟩ o = some true) (ho : o.op = .index ty x y) (hD : lk ty tt = some D) (hk : D.k = .array k e) (hE : lk e tt = some E)
  (hx : (⟨n, t, m⟩ : St).ev x = .agg cs) (hy : (⟨n, t, m⟩ : St).ev y = .sc (.int kd (i : Int))) (hp : putF n t o.dst v = some t')
  (h : Go P ops draw Q l ⟨n, t', m⟩ (some ⟨v, [], [], []⟩ :: acc)) : Go P ops draw Q (o :: l) ⟨n, t, m⟩ acc :=
 go_step hg (as_index_val (P := P) (o := o) (s := ⟨n, t, m⟩) ho (ht _ _ hD) hk (ht _ _ hE) hx hy (by omega) (by omega) (by simpa using hv)) rfl hp rfl h
end
end Go.Ab
