/- The abstract layer, part 21: append of one element, elements of own slices, ends with a slice. -/
import Derived.Test.YtpoehckffpbfiaaAb20
namespace Go.Ab
open Go.RowKit

section
variable {P : Program} {tt : TT} {ops : Array Oper} {draw : Bool} {Q : St → Prop} {acc : List (Option Eff)} {l : List Oper}

/-- append of one element to an own slice. -/
theorem go_append1 {o : Oper} {n ty e d b b2 c e' z' e2 z2 : Nat} {t t' : List (Nat × AV)} {m m' : Mem} {x y : Operand} {D E : TyD} {xs : List AV} {v : AV} (ht : TTok P tt) (hc : c = xs.length) (hbig : (c + 1) * E.bytes ≤ 140737488355328) (hlen : c + 1 ≤ 9223372036854775807)
    (hg : gchk ops ⟨n, t, m⟩ o = some true) (ho : o.op = bcall .append #[x, y] #[ty, ty]) (hD : lk ty tt = some D) (hk : D.k = .slice e) (hE : lk e tt = some E) (hz : Nat.blt 0 E.size = true)
    (hx : (⟨n, t, m⟩ : St).ev x = .arr b 0 c) (hb : lk b m = some (some ⟨e', z', xs⟩)) (hty : Nat.beq e' e = true) (hez : Nat.beq z' E.size = true)
    (hy : (⟨n, t, m⟩ : St).ev y = .arr b2 0 1) (hb2 : lk b2 m = some (some ⟨e2, z2, [v]⟩)) (hz2 : Nat.beq z2 E.size = true) (hcell : v.cells.all AV.cellish = true)
    (hd : o.dst = some d) (hn : nwOK ⟨n, t, m⟩ [d] = true) (hp : putF n t (some d) (.arr d 0 (c + 1)) = some t') (hm : appF [(d, some ⟨e, E.size, xs ++ [v]⟩), (b, none)] m = some m')
    (h : Go P ops draw Q l ⟨n, t', m'⟩ (some ⟨.arr d 0 (c + 1), [(d, some ⟨e, E.size, xs ++ [v]⟩), (b, none)], [b, b2], [d]⟩ :: acc)) : Go P ops draw Q (o :: l) ⟨n, t, m⟩ acc := by
  have hA : AStep P o ⟨n, t, m⟩ ⟨.arr d 0 (c + 1), [(d, some ⟨e, E.size, xs ++ [v]⟩), (b, none)], [b, b2], [d]⟩ := by
    have := as_append (P := P) (o := o) (s := ⟨n, t, m⟩) (d := d) (ys := [v]) (acc := [b2]) ho (ht _ _ hD) hk (ht _ _ hE) hz hx hb hty hez (by rw [hc]; exact Nat.le_refl _)
      (.inr (.inr ⟨b2, 0, 1, _, hy, hb2, Nat.eq_of_beq_eq_true hz2, by simp, by simp, by simp⟩)) (by simpa using hcell) (by simpa using hbig) (by simpa using hlen)
    simpa [hc] using this
  exact go_step hg hA hn (by rw [hd]; exact hp) hm h

/-- append of one element to nil. -/
theorem go_append1n {o : Oper} {n ty e d b2 e2 z2 : Nat} {t t' : List (Nat × AV)} {m m' : Mem} {x y : Operand} {D E : TyD} {v : AV} (ht : TTok P tt) (hbig : E.bytes ≤ 140737488355328)
    (hg : gchk ops ⟨n, t, m⟩ o = some true) (ho : o.op = bcall .append #[x, y] #[ty, ty]) (hD : lk ty tt = some D) (hk : D.k = .slice e) (hE : lk e tt = some E) (hz : Nat.blt 0 E.size = true)
    (hx : (⟨n, t, m⟩ : St).ev x = .nilS) (hy : (⟨n, t, m⟩ : St).ev y = .arr b2 0 1) (hb2 : lk b2 m = some (some ⟨e2, z2, [v]⟩)) (hz2 : Nat.beq z2 E.size = true) (hcell : v.cells.all AV.cellish = true)
    (hd : o.dst = some d) (hn : nwOK ⟨n, t, m⟩ [d] = true) (hp : putF n t (some d) (.arr d 0 1) = some t') (hm : appF [(d, some ⟨e, E.size, [v]⟩)] m = some m')
    (h : Go P ops draw Q l ⟨n, t', m'⟩ (some ⟨.arr d 0 1, [(d, some ⟨e, E.size, [v]⟩)], [b2], [d]⟩ :: acc)) : Go P ops draw Q (o :: l) ⟨n, t, m⟩ acc := by
  have hA : AStep P o ⟨n, t, m⟩ ⟨.arr d 0 1, [(d, some ⟨e, E.size, [v]⟩)], [b2], [d]⟩ := by
    have := as_append_nil (P := P) (o := o) (s := ⟨n, t, m⟩) (d := d) (ys := [v]) (acc := [b2]) ho (ht _ _ hD) hk (ht _ _ hE) hz hx
      (.inr (.inr ⟨b2, 0, 1, _, hy, hb2, Nat.eq_of_beq_eq_true hz2, by simp, by simp, by simp⟩)) (by simpa using hcell) (by simpa using hbig) (by simp)
    simpa using this
  exact go_step hg hA hn (by rw [hd]; exact hp) hm h

/-- append of a slice that is only read to an own slice. -/
theorem go_appendS {o : Oper} {n ty e d b c e' z' : Nat} {t t' : List (Nat × AV)} {m m' : Mem} {x y : Operand} {D E : TyD} {xs ys : List AV} (ht : TTok P tt) (hc : c = xs.length) (hbig : (c + ys.length) * E.bytes ≤ 140737488355328) (hlen : c + ys.length ≤ 9223372036854775807)
    (hys : ∀ x ∈ ys, x.cells.length = E.size) (hcell : ys.all (fun x => x.cells.all AV.cellish) = true)
    (hg : gchk ops ⟨n, t, m⟩ o = some true) (ho : o.op = bcall .append #[x, y] #[ty, ty]) (hD : lk ty tt = some D) (hk : D.k = .slice e) (hE : lk e tt = some E) (hz : Nat.blt 0 E.size = true)
    (hx : (⟨n, t, m⟩ : St).ev x = .arr b 0 c) (hb : lk b m = some (some ⟨e', z', xs⟩)) (hty : Nat.beq e' e = true) (hez : Nat.beq z' E.size = true)
    (hy : (⟨n, t, m⟩ : St).ev y = .sl ys)
    (hd : o.dst = some d) (hn : nwOK ⟨n, t, m⟩ [d] = true) (hp : putF n t (some d) (.arr d 0 (c + ys.length)) = some t') (hm : appF [(d, some ⟨e, E.size, xs ++ ys⟩), (b, none)] m = some m')
    (h : Go P ops draw Q l ⟨n, t', m'⟩ (some ⟨.arr d 0 (c + ys.length), [(d, some ⟨e, E.size, xs ++ ys⟩), (b, none)], [b], [d]⟩ :: acc)) : Go P ops draw Q (o :: l) ⟨n, t, m⟩ acc := by
  have hA : AStep P o ⟨n, t, m⟩ ⟨.arr d 0 (c + ys.length), [(d, some ⟨e, E.size, xs ++ ys⟩), (b, none)], [b], [d]⟩ := by
    have := as_append (P := P) (o := o) (s := ⟨n, t, m⟩) (d := d) (ys := ys) (acc := []) ho (ht _ _ hD) hk (ht _ _ hE) hz hx hb hty hez (by rw [hc]; exact Nat.le_refl _)
      (.inl ⟨hy, hys⟩) hcell hbig hlen
    simpa [hc] using this
  exact go_step hg hA hn (by rw [hd]; exact hp) hm h

/-- The address of an element of an own slice. -/
theorem go_indexA {o : Oper} {n ty e b len bt bz : Nat} {t t' : List (Nat × AV)} {m : Mem} {x y : Operand} {D E : TyD} {k : IntKind} {i : Nat} {xs : List AV} (ht : TTok P tt) (hi : i < len) (hg : gchk ops ⟨n, t, m⟩ o = some true) (ho : o.op = .indexAddr ty x y) (hD : lk ty tt = some D) (hk : D.k = .slice e) (hE : lk e tt = some E)
    (hx : (⟨n, t, m⟩ : St).ev x = .arr b 0 len) (hy : (⟨n, t, m⟩ : St).ev y = .sc (.int k (i : Int))) (hb : lk b m = some (some ⟨bt, bz, xs⟩)) (hz : Nat.beq bz E.size = true) (hp : putF n t o.dst (.ref b i 0) = some t')
    (h : Go P ops draw Q l ⟨n, t', m⟩ (some ⟨.ref b i 0, [], [b], []⟩ :: acc)) : Go P ops draw Q (o :: l) ⟨n, t, m⟩ acc := by
  have hA : AStep P o ⟨n, t, m⟩ ⟨.ref b i 0, [], [b], []⟩ := by
    have := as_index_arr (P := P) (o := o) (s := ⟨n, t, m⟩) ho (ht _ _ hD) hk (ht _ _ hE) hx hy hb hz (by omega) (by omega)
    simpa using this
  exact go_step hg hA rfl hp rfl h

/-- A whole element of an own slice, written. -/
theorem go_storeA {o : Oper} {n T b i bt bz : Nat} {t t' : List (Nat × AV)} {m m' : Mem} {x y : Operand} {D : TyD} {xs : List AV} {e e' v : AV} (ht : TTok P tt) (he : xs[i]? = some e) (hu : upd e 0 v.cells = some e') (hg : gchk ops ⟨n, t, m⟩ o = some true) (ho : o.op = .store T x y) (hD : lk T tt = some D)
    (hx : (⟨n, t, m⟩ : St).ev x = .ref b i 0) (hb : lk b m = some (some ⟨bt, bz, xs⟩)) (hy : force ((⟨n, t, m⟩ : St).ev y) = some v) (hv : v.cells.all AV.cellish = true) (hv2 : (match v with | .bot => false | _ => true) = true) (hl : Nat.beq v.cells.length D.size = true)
    (hp : putF n t o.dst (.tup []) = some t') (hm : appF [(b, some ⟨bt, bz, xs.set i e'⟩)] m = some m')
    (h : Go P ops draw Q l ⟨n, t', m'⟩ (some ⟨.tup [], [(b, some ⟨bt, bz, xs.set i e'⟩)], [b], []⟩ :: acc)) : Go P ops draw Q (o :: l) ⟨n, t, m⟩ acc := by
  have hA : AStep P o ⟨n, t, m⟩ ⟨.tup [], [(b, some ⟨bt, bz, xs.set i e'⟩)], [b], []⟩ :=
    as_store (P := P) (o := o) (s := ⟨n, t, m⟩) ho (ht _ _ hD) hx hb (force_eq hy) (by intro h; subst h; simp at hv2) hl hv he hu
  exact go_step hg hA rfl hp hm h

/-- An element of an array value. -/
theorem go_indexV {o : Oper} {n ty k e : Nat} {t t' : List (Nat × AV)} {m : Mem} {x y : Operand} {D E : TyD} {kd : IntKind} {i : Nat} {cs : List AV} {v : AV} (ht : TTok P tt) (hi : i < k) (hv : rd E cs (i * E.size) = some v) (hg : gchk ops ⟨n, t, m⟩ o = some true) (ho : o.op = .index ty x y) (hD : lk ty tt = some D) (hk : D.k = .array k e) (hE : lk e tt = some E)
    (hx : (⟨n, t, m⟩ : St).ev x = .agg cs) (hy : (⟨n, t, m⟩ : St).ev y = .sc (.int kd (i : Int))) (hp : putF n t o.dst v = some t')
    (h : Go P ops draw Q l ⟨n, t', m⟩ (some ⟨v, [], [], []⟩ :: acc)) : Go P ops draw Q (o :: l) ⟨n, t, m⟩ acc :=
  go_step hg (as_index_val (P := P) (o := o) (s := ⟨n, t, m⟩) ho (ht _ _ hD) hk (ht _ _ hE) hx hy (by omega) (by omega) (by simpa using hv)) rfl hp rfl h

/-- A new slice of zeros. -/
theorem go_make {o : Oper} {n ty e d len : Nat} {t t' : List (Nat × AV)} {m m' : Mem} {x y : Operand} {D E : TyD} {k : IntKind} (ht : TTok P tt) (hbig : len * E.bytes ≤ 281474976710656) (hlen : len ≤ 9223372036854775807) (hg : gchk ops ⟨n, t, m⟩ o = some true) (ho : o.op = .makeSlice ty x y) (hD : lk ty tt = some D) (hk : D.k = .slice e) (hE : lk e tt = some E)
    (hx : (⟨n, t, m⟩ : St).ev x = .sc (.int k (len : Int))) (hy : (⟨n, t, m⟩ : St).ev y = .sc (.int k (len : Int))) (hz : Nat.blt 0 E.size = true) (hd : o.dst = some d) (hn : nwOK ⟨n, t, m⟩ [d] = true)
    (hp : putF n t (some d) (.arr d 0 len) = some t') (hm : appF [(d, some ⟨e, E.size, List.replicate len E.zero⟩)] m = some m')
    (h : Go P ops draw Q l ⟨n, t', m'⟩ (some ⟨.arr d 0 len, [(d, some ⟨e, E.size, List.replicate len E.zero⟩)], [], [d]⟩ :: acc)) : Go P ops draw Q (o :: l) ⟨n, t, m⟩ acc := by
  have hA : AStep P o ⟨n, t, m⟩ ⟨.arr d 0 len, [(d, some ⟨e, E.size, List.replicate len E.zero⟩)], [], [d]⟩ := by
    have := as_makeSlice (P := P) (o := o) (s := ⟨n, t, m⟩) (d := d) ho (ht _ _ hD) hk (ht _ _ hE) hx hy hz (by omega) (by omega) (by rw [← Int.natCast_mul]; omega)
    simpa using this
  exact go_step hg hA hn (by rw [hd]; exact hp) hm h

/-- The end of a function that gives one own slice. -/
theorem finS {fn : Func} {n d b len e z : Nat} {t : List (Nat × AV)} {m : Mem} {xs : List AV} (hr : fn.results.toList = [.tmp d]) (hs : lk d t = some (.arr b 0 len)) (hb : lk b m = some (some ⟨e, z, xs⟩)) (hlen : len = xs.length) (hno : ∀ y ∈ xs, noref y = true) : FinOKF P fn (.sl xs) ⟨n, t, m⟩ := by
  have hL : lendsOK [] m [(b, some ⟨e, z, xs⟩)] := ⟨hb, by simp [srcs], trivial⟩
  refine finF [(b, some ⟨e, z, xs⟩)] [(d, .sl xs)] hL ⟨?_, trivial⟩ ?_
  · have hget : (⟨n, t, m⟩ : St).get d = .arr b 0 len := by simp [St.get, hs]
    rw [hget]
    simp only [wkP, lendOK, lk_cons_self]
    subst hlen
    exact ⟨by omega, by simp, hno⟩
  · exact fin1 (v := .sl xs) hr (by simp [St.get, lk_cons_self]) (by simp [wkP])

end
end Go.Ab
