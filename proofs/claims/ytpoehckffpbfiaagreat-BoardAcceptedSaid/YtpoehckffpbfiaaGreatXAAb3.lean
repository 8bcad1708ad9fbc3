/- The abstract layer, part 3: types; the operations on variables and fields. -/
import Derived.Test.YtpoehckffpbfiaaGreatXAAb2
namespace Go.Ab
open Go.RowKit
inductive TyK where
 | base | bool | int (k : IntKind) | str | slice (e : Nat) | array (n e : Nat) | struct (fs : List (Nat × Nat))
def TyK.isAgg : TyK → Bool
 | .array _ _ | .struct _ => true
 | _ => false
structure TyD where
 k : TyK
 size : Nat
 bytes : Nat
 zero : AV
def ofZero : Value → AV
 | .agg vs => .agg (vs.toList.map ofConst)
 | v => ofConst v
def kindOf (P : Program) : TypeDesc → TyK
 | .bool => .bool
 | .int k => .int k
 | .string => .str
 | .slice e => .slice e
 | .array n e => .array n e
 | .struct F => .struct (F.toList.map fun f => (f.offset, P.cellsOf f.type))
 | _ => .base
def tyOf (P : Program) (t : Nat) : Option TyD :=
 match P.info? t with
 | none => none
 | some i => match i.zero with
  | none => none
  | some z => match P.underlying t with
   | none => none
   | some u => match Nat.beq z.cells.size i.size with
    | true => some { k := kindOf P u, size := i.size, bytes := i.bytes, zero := ofZero z }
    | false => none
theorem tyOf_facts {P : Program} {t : Nat} {d : TyD} (h : tyOf P t = some d) : ∃ i z u, P.info? t = some i ∧ i.zero = some z ∧ P.underlying t = some u ∧ i.size = d.size ∧ i.bytes = d.bytes ∧ d.zero = ofZero z ∧ z.cells.size = d.size ∧ d.k = kindOf P u := by
 unfold tyOf at h
 cases hi : P.info? t with
 | none => simp [hi] at h
 | some i =>
  cases hz : i.zero with
  | none => simp [hi, hz] at h
  | some z =>
   cases hu : P.underlying t with
   | none => simp [hi, hz, hu] at h
   | some u =>
    simp only [hi, hz, hu] at h
    cases hb : Nat.beq z.cells.size i.size with
    | false => simp [hb] at h
    | true =>
     simp only [hb, Option.some.injEq] at h
     subst h
     exact ⟨i, z, u, rfl, hz, rfl, rfl, rfl, rfl, Nat.eq_of_beq_eq_true hb, rfl⟩
theorem ofConst_cells {v : Value} (h : v.cells = #[v]) : (ofConst v).cells = [ofConst v] := by
 unfold ofConst
 split
 ·rfl
 ·split <;> rfl
theorem ofZero_cells (w : World) (R : Nat → Prop) (φ : Ph) (z : Value) : (ofZero z).cells.length = z.cells.size ∧ ∀ (i : Nat) (c : AV) (u : Value), (ofZero z).cells[i]? = some c → z.cells[i]? = some u → Rel w R φ c u := by
 have one : ∀ v : Value, v.cells = #[v] → ofZero v = ofConst v → (ofZero v).cells.length = v.cells.size ∧ ∀ (i : Nat) (c : AV) (u : Value), (ofZero v).cells[i]? = some c → v.cells[i]? = some u → Rel w R φ c u := by
  intro v hv he
  rw [he, ofConst_cells hv, hv]
  refine ⟨rfl, fun i c u hc hu => ?_⟩
  cases i with
  | zero => simp at hc hu; subst hc; subst hu; exact ofConst_rel v
  | succ i => simp at hc
 cases z with
 | agg vs =>
  refine ⟨by simp [ofZero, AV.cells, Value.cells], fun i c u hc hu => ?_⟩
  simp only [ofZero, AV.cells, List.getElem?_map, Value.cells] at hc hu
  rw [← Array.getElem?_toList] at hu
  rw [hu] at hc
  simp at hc
  subst hc
  exact ofConst_rel u
 | _ => exact one _ rfl rfl
theorem run_isAgg {P : Program} {t : Nat} {d : TyD} (h : tyOf P t = some d) (w : World) : (isAgg t).run P w = .ok d.k.isAgg w := by
 obtain ⟨i, z, u, _, _, hu, _, _, _, _, hk⟩ := tyOf_facts h
 unfold isAgg
 rw [Sem.run_bind, run_underlying hu w, hk]
 cases u <;> simp [kindOf, TyK.isAgg]
theorem run_sizeOf {P : Program} {t : Nat} {d : TyD} (h : tyOf P t = some d) (w : World) : (sizeOf t).run P w = .ok d.size w := by
 obtain ⟨i, z, u, hi, _, _, hs, _⟩ := tyOf_facts h
 simp [sizeOf, typeInfo, hi, hs]
theorem addr_add (b o n : Nat) : (⟨b, o, none⟩ : Addr).add n = ⟨b, o + n, none⟩ := by unfold Addr.add; split <;> simp_all
section
variable {P : Program} {o : Oper} {s : St}
theorem as_move {x : Operand} {v : AV} (ho : o.op = .move x) (hx : s.ev x = v) : AStep P o s ⟨v, [], [], []⟩ := by
 intro s' _ hop _ _
 refine opok_val fun c φ R a w hs => ⟨a.eval x, by simp [execOp, ho], ?_⟩
 have := hs.ev x
 rwa [hop x (by simp [ho, Op.operands]), hx] at this
theorem as_assign {x : Operand} {v : AV} (ho : o.op = .assign x) (hx : s.ev x = v) : AStep P o s ⟨v, [], [], []⟩ := by
 intro s' _ hop _ _
 refine opok_val fun c φ R a w hs => ⟨a.eval x, by simp [execOp, ho], ?_⟩
 have := hs.ev x
 rwa [hop x (by simp [ho, Op.operands]), hx] at this
theorem Rel.sc_inv {w : World} {R : Nat → Prop} {φ : Ph} {v u : Value} (h : Rel w R φ (.sc v) u) : u = v := by cases h; rfl
theorem as_pick {x y z : Operand} {b : Bool} {v : AV} (ho : o.op = .pick x y z) (hx : s.ev x = .sc (.bool b)) (hv : cond b (s.ev y) (s.ev z) = v) : AStep P o s ⟨v, [], [], []⟩ := by
 intro s' _ hop _ _
 refine opok_val fun c φ R a w hs => ?_
 have h1 := hs.ev x
 rw [hop x (by simp [ho, Op.operands]), hx] at h1
 have h1 := h1.sc_inv
 cases b
 ·refine ⟨a.eval z, by simp [execOp, ho, h1, asBool], ?_⟩
  have := hs.ev z
  rw [hop z (by simp [ho, Op.operands])] at this
  exact hv ▸ this
 ·refine ⟨a.eval y, by simp [execOp, ho, h1, asBool], ?_⟩
  have := hs.ev y
  rw [hop y (by simp [ho, Op.operands])] at this
  exact hv ▸ this
theorem boxRel {w : World} {R : Nat → Prop} {φ : Ph} {T n : Nat} {C : Array Value} {av : AV} (hRb : ∀ n, R n → n < w.heap.size) (hn : 0 < n) (hC : C.size = n) (ha : av.cells.length = n)
  (hr : ∀ (i : Nat) (c : AV) (u : Value), av.cells[i]? = some c → C[i]? = some u → Rel w R φ c u) {φ' : Ph} (hφ : ∀ b x, φ b = some x → φ' b = some x) :
  BlkRel (w.alloc (.cells C T)) R φ' (some ⟨w.heap.size, n, 1⟩) ⟨T, n, [av]⟩ := by
 refine ⟨rfl, hn, Nat.le_refl _, by simp [maxLen], C, heap_alloc_new w _, by simp [hC], fun i x hx => ?_⟩
 cases i with
 | succ i => simp at hx
 | zero =>
  simp at hx
  subst hx
  refine ⟨ha, fun j c hc => ?_⟩
  have hj : j < C.size := by rw [hC, ← ha]; exact (List.getElem?_eq_some_iff.1 hc).1
  refine ⟨C[j], by simp [hj], (hr j c C[j] hc (by simp [hj])).mono (fun n hn => heap_alloc_old w _ n (hRb n hn)) (fun _ h => h) hφ⟩
theorem ext_alloc (w : World) (ob : Obj) : Ext w (w.alloc ob) (fun _ => False) := ⟨rfl, rfl, rfl, by simp, fun i hi _ => heap_alloc_old w ob i hi⟩
theorem SRelX.box {c : Ctx} {φ : Ph} {R : Nat → Prop} {a : Act} {w : World} (h : SRelX c φ R s a w) (d : Nat) (hfr : Fr s d) {T n : Nat} {C : Array Value} {av : AV} (hn : 0 < n) (hC : C.size = n) (ha : av.cells.length = n)
  (hr : ∀ (i : Nat) (c : AV) (u : Value), av.cells[i]? = some c → C[i]? = some u → Rel w R φ c u) (dst : Option Nat) :
  SRelX c (φ.up d (some ⟨w.heap.size, n, 1⟩)) R (s.app dst ⟨.ref d 0 0, [(d, some ⟨T, n, [av]⟩)], [], [d]⟩) (a.put dst (.pointer (some ⟨w.heap.size, 0, none⟩))) (w.alloc (.cells C T)) := by
 have hφd : φ d = none := by
  cases hq : φ d with
  | none => rfl
  | some y => obtain ⟨z, hz⟩ := h.dom d y hq; rw [hfr.1] at hz; cases hz
 have := h.add d hfr ⟨T, n, [av]⟩ ⟨w.heap.size, n, 1⟩ (ext_alloc w (.cells C T)) (Nat.le_refl _) (boxRel h.Rb hn hC ha hr (Ph.up_mono _ hφd))
 refine SRelX.app this dst ?_
 have e := Rel.ref (w := w.alloc (.cells C T)) (R := R) (φ := φ.up d (some ⟨w.heap.size, n, 1⟩)) (b := d) (i := 0) (off := 0) (h := ⟨w.heap.size, n, 1⟩) (by simp [Ph.up])
 simpa using e
theorem as_alloc {T d : Nat} {D : TyD} (ho : o.op = .alloc T) (hT : tyOf P T = some D) (hs : Nat.blt 0 D.size = true) :
  AStep P o s ⟨.ref d 0 0, [(d, some ⟨T, D.size, [D.zero]⟩)], [], [d]⟩ := by
 intro s' _ _ _ hnw
 refine opok_run fun c φ R a w h => ?_
 obtain ⟨i, z, u, hi, hz, _, hsz, _, hzero, hzs, _⟩ := tyOf_facts hT
 have hc := ofZero_cells w R φ z
 refine ⟨.pointer (some ⟨w.heap.size, 0, none⟩), w.alloc (.cells z.cells T), φ.up d (some ⟨w.heap.size, D.size, 1⟩), R, by simp [execOp, ho, Instr.alloc, zeroValue, typeInfo, hi, hz, newVar, newRow], ?_⟩
 exact h.box d (hnw d (by simp)) (by simpa using hs) hzs (by rw [hzero, hc.1, hzs]) (by rw [hzero]; exact hc.2) o.dst
theorem as_box {T d : Nat} {x : Operand} {D : TyD} {v : AV} (ho : o.op = .box T x) (_hT : tyOf P T = some D) (hx : s.ev x = v) (hv : v ≠ .bot) (hl : Nat.beq v.cells.length D.size = true) (hs : Nat.blt 0 D.size = true) :
  AStep P o s ⟨.ref d 0 0, [(d, some ⟨T, D.size, [v]⟩)], [], [d]⟩ := by
 intro s' _ hop _ hnw
 refine opok_run fun c φ R a w h => ?_
 have hr := h.ev x
 rw [hop x (by simp [ho, Op.operands]), hx] at hr
 have hc := hr.cells hv
 have hl' := Nat.eq_of_beq_eq_true hl
 refine ⟨.pointer (some ⟨w.heap.size, 0, none⟩), w.alloc (.cells (a.eval x).cells T), φ.up d (some ⟨w.heap.size, D.size, 1⟩), R, by simp [execOp, ho, Instr.box, newVar, newRow], ?_⟩
 exact h.box d (hnw d (by simp)) (by simpa using hs) (by rw [← hc.1, hl']) hl' hc.2 o.dst
def sub (cs : List AV) : Nat → Nat → Option (List AV)
 | 0, 0 => some []
 | 0, n + 1 => match cs with
  | [] => none
  | c :: cs => match sub cs 0 n with
   | some l => some (c :: l)
   | none => none
 | off + 1, n => match cs with
  | [] => none
  | _ :: cs => sub cs off n
theorem sub_spec : ∀ (cs : List AV) (off n : Nat) (l : List AV), sub cs off n = some l → l.length = n ∧ off + n ≤ cs.length ∧ ∀ j, j < n → l[j]? = cs[off + j]?
 | cs, 0, 0, l, h => by simp [sub] at h; subst h; simp
 | [], 0, n + 1, l, h => by simp [sub] at h
 | c :: cs, 0, n + 1, l, h => by
  simp only [sub] at h
  cases hs : sub cs 0 n with
  | none => simp [hs] at h
  | some l' =>
   simp [hs] at h
   subst h
   obtain ⟨h1, h2, h3⟩ := sub_spec cs 0 n l' hs
   refine ⟨by simp [h1], by simp; omega, fun j hj => ?_⟩
   cases j with
   | zero => simp
   | succ j => simpa using h3 j (by omega)
 | [], off + 1, n, l, h => by simp [sub] at h
 | c :: cs, off + 1, n, l, h => by
  simp only [sub] at h
  obtain ⟨h1, h2, h3⟩ := sub_spec cs off n l h
  refine ⟨h1, by simp; omega, fun j hj => ?_⟩
  have := h3 j hj
  rw [this, show off + 1 + j = (off + j) + 1 by omega]
  simp
def rd (D : TyD) (cs : List AV) (off : Nat) : Option AV :=
 match D.k.isAgg with
 | true => match sub cs off D.size with
  | some l => some (.agg l)
  | none => none
 | false => match sub cs off 1 with
  | some [.bot] => some .bot
  | some [.sc v] => some (.sc v)
  | some [.nilS] => some .nilS
  | some [.sl xs] => some (.sl xs)
  | some [.vp xs] => some (.vp xs)
  | some [.ref b i f] => some (.ref b i f)
  | some [.arr b i f] => some (.arr b i f)
  | some [.clo b i f] => some (.clo b i f)
  | _ => none
theorem rd_one {D : TyD} {cs : List AV} {off : Nat} {v : AV} (hk : D.k.isAgg = false) (h : rd D cs off = some v) : cs[off]? = some v := by
 unfold rd at h
 rw [hk] at h
 dsimp only at h
 cases hs : sub cs off 1 with
 | none => simp [hs] at h
 | some l =>
  obtain ⟨h1, h2, h3⟩ := sub_spec cs off 1 l hs
  have h30 := h3 0 (by omega)
  match l, h1 with
  | [x], _ =>
   simp at h30
   rw [hs] at h
   rw [← h30]
   cases x <;> simp at h <;> simp [h]
theorem run_loadVar {w : World} {R : Nat → Prop} {φ : Ph} {T b o : Nat} {D : TyD} {cs : List AV} {v : AV} {off : Nat} (hT : tyOf P T = some D) (hv : rd D cs off = some v)
  (f : Nat → Value) (hc : ∀ j, j < cs.length → w.cell? ⟨b, o + j, none⟩ = some (f j)) (hr : ∀ (j : Nat) (c : AV), cs[j]? = some c → Rel w R φ c (f j)) :
  ∃ u, (loadVar T ⟨b, o + off, none⟩).run P w = .ok u w ∧ Rel w R φ v u := by
 cases hk : D.k.isAgg with
 | true =>
  unfold rd at hv
  rw [hk] at hv
  dsimp only at hv
  cases hs : sub cs off D.size with
  | none => simp [hs] at hv
  | some l =>
   simp [hs] at hv
   subst hv
   obtain ⟨h1, h2, h3⟩ := sub_spec cs off D.size l hs
   have hl := run_loadCells (P := P) w ⟨b, o + off, none⟩ D.size (fun j => f (off + j)) (fun j hj => by
    rw [addr_add, Nat.add_assoc]
    exact hc (off + j) (by omega))
   refine ⟨.agg ((List.range D.size).map fun j => f (off + j)).toArray, by simp [loadVar, run_isAgg hT, hk, run_sizeOf hT, hl], .agg (by simp [h1]) fun i c u hi hu => ?_⟩
   have hlt : i < D.size := by rw [← h1]; exact (List.getElem?_eq_some_iff.1 hi).1
   simp [hlt] at hu
   subst hu
   rw [h3 i hlt] at hi
   exact hr _ _ hi
 | false =>
  have h1 := rd_one hk hv
  refine ⟨f off, ?_, hr off v h1⟩
  have := hc off (List.getElem?_eq_some_iff.1 h1).1
  simp [loadVar, run_isAgg hT, hk, this]
theorem as_load_vp {T : Nat} {x : Operand} {D : TyD} {cs : List AV} {v : AV} (ho : o.op = .load T x) (hT : tyOf P T = some D) (hx : s.ev x = .vp cs) (hv : rd D cs 0 = some v) : AStep P o s ⟨v, [], [], []⟩ := by
 intro s' _ hop _ _
 refine opok_val fun c φ R a w hs => ?_
 have h1 := hs.ev x
 rw [hop x (by simp [ho, Op.operands]), hx] at h1
 generalize hq : a.eval x = q at h1
 cases h1 with
 | vp f hR hc hr =>
  obtain ⟨u, h2, h3⟩ := run_loadVar (off := 0) hT hv f hc hr
  refine ⟨u, by simp only [Nat.add_zero] at h2; simp [execOp, ho, hq, Instr.loadAt, Instr.sureAddr, h2], h3.mono (fun _ _ => rfl) (fun _ h => h) (fun b x hb => by simp [Ph.no] at hb)⟩
theorem as_load_ref {T b i off : Nat} {x : Operand} {D : TyD} {k : Blk} {e v : AV} (ho : o.op = .load T x) (hT : tyOf P T = some D) (hx : s.ev x = .ref b i off) (hb : lk b s.m = some (some k)) (he : k.xs[i]? = some e) (hv : rd D e.cells off = some v) :
  AStep P o s ⟨v, [], [b], []⟩ := by
 intro s' _ hop hacc _
 refine opok_val fun c φ R a w hs => ?_
 have h1 := hs.ev x
 rw [hop x (by simp [ho, Op.operands]), hx] at h1
 generalize hq : a.eval x = q at h1
 cases h1 with
 | @ref _ _ _ _ h hbh =>
  obtain ⟨oh, ho', hr⟩ := hs.m.rel b k (by rw [hacc b (by simp)]; exact hb)
  rw [hbh] at ho'
  cases ho'
  obtain ⟨_, _, _, _, C, hC, hCs, hel⟩ := hr
  obtain ⟨hl, hcell⟩ := hel i e he
  obtain ⟨u, h2, h3⟩ := run_loadVar (P := P) (w := w) (R := R) (φ := φ) (b := h.blk) (o := i * h.esz) (off := off) hT hv (fun j => C[i * h.esz + j]?.getD undef) (fun j hj => by
    obtain ⟨u, hu, _⟩ := hcell j (e.cells[j]) (by simp [hj])
    rw [cell_of_row w _ _ C _ _ hC, hu]
    rfl) (fun j c' hc' => by
    obtain ⟨u, hu, hru⟩ := hcell j c' hc'
    rw [hu]
    exact hru)
  exact ⟨u, by simp [execOp, ho, hq, Instr.loadAt, Instr.sureAddr, h2], h3⟩
end
end Go.Ab
