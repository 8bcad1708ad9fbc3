/- The abstract layer, part 4: stores, addresses of fields and elements. -/
import Derived.Test.YtpoehckffpbfiaaGreatXAAb3
namespace Go.Ab
open Go.RowKit
def splice (cs : List AV) : Nat → List AV → Option (List AV)
 | 0, [] => some cs
 | 0, v :: vs => match cs with
  | [] => none
  | _ :: cs => match splice cs 0 vs with
   | some l => some (v :: l)
   | none => none
 | off + 1, vs => match cs with
  | [] => none
  | c :: cs => match splice cs off vs with
   | some l => some (c :: l)
   | none => none
theorem splice_spec : ∀ (off : Nat) (cs vs l : List AV), splice cs off vs = some l → l.length = cs.length ∧ off + vs.length ≤ cs.length ∧ ∀ j : Nat, l[j]? = if off ≤ j ∧ j < off + vs.length then vs[j - off]? else cs[j]?
 | 0, cs, [], l, h => by
  simp [splice] at h; subst h
  refine ⟨rfl, by simp, fun j => ?_⟩
  rw [if_neg (by simp)]
 | 0, [], v :: vs, l, h => by simp [splice] at h
 | 0, c :: cs, v :: vs, l, h => by
  simp only [splice] at h
  cases hs : splice cs 0 vs with
  | none => simp [hs] at h
  | some l' =>
   simp [hs] at h
   subst h
   obtain ⟨h1, h2, h3⟩ := splice_spec 0 cs vs l' hs
   refine ⟨by simp [h1], by simp; omega, fun j => ?_⟩
   cases j with
   | zero => simp
   | succ j =>
    simp only [List.getElem?_cons_succ, h3 j, List.length_cons, Nat.zero_le, true_and, Nat.zero_add, Nat.add_lt_add_iff_right, Nat.sub_zero]
 | off + 1, [], vs, l, h => by simp [splice] at h
 | off + 1, c :: cs, vs, l, h => by
  simp only [splice] at h
  cases hs : splice cs off vs with
  | none => simp [hs] at h
  | some l' =>
   simp [hs] at h
   subst h
   obtain ⟨h1, h2, h3⟩ := splice_spec off cs vs l' hs
   refine ⟨by simp [h1], by simp; omega, fun j => ?_⟩
   cases j with
   | zero => simp
   | succ j =>
    simp only [List.getElem?_cons_succ, h3 j]
    by_cases hj : off ≤ j ∧ j < off + vs.length
    ·rw [if_pos hj, if_pos (by omega), show j + 1 - (off + 1) = j - off by omega]
    ·rw [if_neg hj, if_neg (by omega)]
def upd1 (off : Nat) (vs : List AV) : Option AV := match off, vs with
 | 0, [c] => some c
 | _, _ => none
def upd (e : AV) (off : Nat) (vs : List AV) : Option AV :=
 match e with
 | .agg cs => match splice cs off vs with
  | some l => some (.agg l)
  | none => none
 | _ => upd1 off vs
theorem cells_one {c : AV} (h : c.cellish = true) : c.cells = [c] := by cases c <;> simp_all [AV.cellish, AV.cells]
theorem upd_spec {e e' : AV} {off : Nat} {vs : List AV} (h : upd e off vs = some e') (hc : ∀ c ∈ vs, c.cellish = true) :
  e'.cells.length = e.cells.length ∧ off + vs.length ≤ e.cells.length ∧ ∀ j : Nat, e'.cells[j]? = if off ≤ j ∧ j < off + vs.length then vs[j - off]? else e.cells[j]? := by
 have one : e.cells = [e] → upd1 off vs = some e' →
   e'.cells.length = e.cells.length ∧ off + vs.length ≤ e.cells.length ∧ ∀ j : Nat, e'.cells[j]? = if off ≤ j ∧ j < off + vs.length then vs[j - off]? else e.cells[j]? := by
  intro he h
  unfold upd1 at h
  split at h
  ·rename_i c
   cases h
   rw [he, cells_one (hc e' (by simp))]
   refine ⟨rfl, by simp, fun j => ?_⟩
   cases j with
   | zero => simp
   | succ j => simp
  ·cases h
 cases e with
 | agg cs =>
  simp only [upd] at h
  cases hs : splice cs off vs with
  | none => simp [hs] at h
  | some l =>
   simp [hs] at h
   subst h
   exact splice_spec off cs vs l hs
 | _ => exact one rfl h
theorem seg_get (l vs : List Value) (p : Nat) (h : p + vs.length ≤ l.length) (q : Nat) :
  (l.take p ++ vs ++ l.drop (p + vs.length)).toArray[q]? = if p ≤ q ∧ q < p + vs.length then vs[q - p]? else l[q]? := by
 simp only [List.getElem?_toArray]
 have hp : (l.take p).length = p := by simp; omega
 by_cases h1 : q < p
 ·rw [if_neg (by omega), List.append_assoc, List.getElem?_append_left (by omega), List.getElem?_take, if_pos h1]
 ·by_cases h2 : q < p + vs.length
  ·rw [if_pos (by omega), List.append_assoc, List.getElem?_append_right (by omega), hp, List.getElem?_append_left (by omega)]
  ·rw [if_neg (by omega), List.append_assoc, List.getElem?_append_right (by omega), hp, List.getElem?_append_right (by omega), List.getElem?_drop]
   congr 1
   omega
theorem seg_size (l vs : List Value) (p : Nat) (h : p + vs.length ≤ l.length) : (l.take p ++ vs ++ l.drop (p + vs.length)).toArray.size = l.length := by
 simp only [List.size_toArray, List.length_append, List.length_take, List.length_drop]
 omega
theorem row_apart {i i' e j off n : Nat} (hne : i' ≠ i) (hj : j < e) (hn : off + n ≤ e) : ¬ (i * e + off ≤ i' * e + j ∧ i' * e + j < i * e + off + n) := by
 rcases Nat.lt_or_gt_of_ne hne with h | h
 ·have := Nat.mul_le_mul_right e (show i' + 1 ≤ i from h)
  rw [Nat.add_mul, Nat.one_mul] at this
  omega
 ·have := Nat.mul_le_mul_right e (show i + 1 ≤ i' from h)
  rw [Nat.add_mul, Nat.one_mul] at this
  omega
theorem row_in {i cap e j : Nat} (hi : i < cap) (hj : j < e) : i * e + j < cap * e := by
 have := Nat.mul_le_mul_right e (show i + 1 ≤ cap from hi)
 rw [Nat.add_mul, Nat.one_mul] at this
 omega
section
variable {P : Program} {o : Oper} {s : St}
theorem blk_store {w : World} {R : Nat → Prop} {φ : Ph} {x : Home} {k : Blk} {i off : Nat} {e e' : AV} {vs : List AV} {us : List Value} (h : BlkRel w R φ (some x) k) (hnR : ¬ R x.blk) (he : k.xs[i]? = some e)
  (hu : upd e off vs = some e') (hc : ∀ c ∈ vs, c.cellish = true) (hl : vs.length = us.length) (hr : ∀ (j : Nat) (c : AV) (u : Value), vs[j]? = some c → us[j]? = some u → Rel w R φ c u) :
  ∃ C', (storeCells ⟨x.blk, i * x.esz + off, none⟩ us).run P w = .ok () (w.setRow x.blk C') ∧ BlkRel (w.setRow x.blk C') R φ (some x) { k with xs := k.xs.set i e' } := by
 obtain ⟨h1, h2, h3, h4, C, hC, hs, hel⟩ := h
 obtain ⟨u1, u2, u3⟩ := upd_spec hu hc
 obtain ⟨hle, hcell⟩ := hel i e he
 have hi : i < k.xs.length := (List.getElem?_eq_some_iff.1 he).1
 have hfit : i * x.esz + off + us.length ≤ C.toList.length := by
  have hCl : C.toList.length = C.size := by simp
  rw [hCl, hs]
  have := Nat.mul_le_mul_right x.esz (show i + 1 ≤ x.cap by omega)
  rw [Nat.add_mul, Nat.one_mul] at this
  omega
 have h1c : ∀ v ∈ us, v.oneCell' = true := by
  intro v hv
  obtain ⟨j, hj, hjv⟩ := List.mem_iff_getElem.1 hv
  have := hr j (vs[j]'(by omega)) v (by simp [hl, hj]) (by rw [List.getElem?_eq_getElem hj, hjv])
  exact this.oneCell (hc _ (List.getElem_mem _))
 refine ⟨_, run_storeCells_at (P := P) x.blk (i * x.esz + off) k.ty us 0 C w hC (by simpa using hfit) h1c, h1, h2, by simpa using h3, h4, _, setRow_heap w x.blk C _ k.ty _ hC, ?_, ?_⟩
 ·rw [Nat.add_zero, seg_size _ _ _ hfit, ← hs]
  simp
 ·intro i' y hy
  rw [Nat.add_zero]
  have hw : ∀ n, R n → (w.setRow x.blk ((C.toList.take (i * x.esz + off) ++ us ++ C.toList.drop (i * x.esz + off + us.length)).toArray)).heap[n]? = w.heap[n]? := fun n hn => setRow_other w x.blk n _ (fun e => hnR (e ▸ hn))
  by_cases hii : i' = i
  ·subst hii
   have hy' : y = e' := by simpa [hi] using hy.symm
   subst hy'
   refine ⟨by rw [u1, hle], fun j c hcj => ?_⟩
   rw [u3 j] at hcj
   rw [seg_get _ _ _ hfit]
   by_cases hj : off ≤ j ∧ j < off + vs.length
   ·rw [if_pos hj] at hcj
    have hjl : j - off < us.length := by omega
    refine ⟨us[j - off], ?_, (hr (j - off) c us[j - off] hcj (by simp [hjl])).mono hw (fun _ h => h) (fun _ _ h => h)⟩
    rw [if_pos (by omega), show i' * x.esz + j - (i' * x.esz + off) = j - off by omega]
    simp [hjl]
   ·rw [if_neg hj] at hcj
    obtain ⟨u, hu', hru⟩ := hcell j c hcj
    refine ⟨u, ?_, hru.mono hw (fun _ h => h) (fun _ _ h => h)⟩
    rw [if_neg (by omega), Array.getElem?_toList]
    exact hu'
  ·rw [List.getElem?_set_ne (Ne.symm hii)] at hy
   obtain ⟨hly, hcy⟩ := hel i' y hy
   refine ⟨hly, fun j c hcj => ?_⟩
   obtain ⟨u, hu', hru⟩ := hcy j c hcj
   have hjl : j < y.cells.length := (List.getElem?_eq_some_iff.1 hcj).1
   refine ⟨u, ?_, hru.mono hw (fun _ h => h) (fun _ _ h => h)⟩
   rw [seg_get _ _ _ hfit, if_neg (row_apart hii (by omega) (by omega)), Array.getElem?_toList]
   exact hu'
theorem as_store {T b i off : Nat} {x y : Operand} {D : TyD} {k : Blk} {e e' v : AV} (ho : o.op = .store T x y) (hT : tyOf P T = some D) (hx : s.ev x = .ref b i off) (hb : lk b s.m = some (some k)) (hy : s.ev y = v) (hv : v ≠ .bot)
  (hl : Nat.beq v.cells.length D.size = true) (hc : v.cells.all AV.cellish = true) (he : k.xs[i]? = some e) (hu : upd e off v.cells = some e') :
  AStep P o s ⟨.tup [], [(b, some { k with xs := k.xs.set i e' })], [b], []⟩ := by
 intro s' _ hop hacc _
 refine opok_skip fun c φ R a w hs => ?_
 have h1 := hs.ev x
 rw [hop x (by simp [ho, Op.operands]), hx] at h1
 have h2 := hs.ev y
 rw [hop y (by simp [ho, Op.operands]), hy] at h2
 generalize hq : a.eval x = q at h1
 cases h1 with
 | @ref _ _ _ _ h hbh =>
  have hb' : lk b s'.m = some (some k) := by rw [hacc b (by simp)]; exact hb
  obtain ⟨oh, ho', hr⟩ := hs.m.rel b k hb'
  rw [hbh] at ho'
  cases ho'
  obtain ⟨c1, c2⟩ := h2.cells hv
  obtain ⟨C', hrun, hk'⟩ := blk_store (P := P) hr (hs.m.notR b k h hb' hbh) he hu (by simpa using hc) (us := (a.eval y).cells.toList) (by simpa using c1) (fun j c' u h3 h4 => c2 j c' u h3 (by simpa using h4))
  have hsz : (a.eval y).cells.size = D.size := by rw [← c1]; exact Nat.eq_of_beq_eq_true hl
  refine ⟨w.setRow h.blk C', φ, R, by simp [execOp, ho, hq, Instr.storeAt, Instr.sureAddr, storeVar, run_sizeOf hT, hsz, hrun], ?_⟩
  exact SRelX.app (s := s') (hs.write hb' hbh C' hk') o.dst (.tup rfl (by simp))
theorem struct_facts {t : Nat} {D : TyD} {fs : List (Nat × Nat)} (h : tyOf P t = some D) (hk : D.k = .struct fs) : ∃ F : Array Field, P.underlying t = some (.struct F) ∧ ∀ (j fo fz : Nat), fs[j]? = some (fo, fz) → ∃ f, F[j]? = some f ∧ f.offset = fo ∧ P.cellsOf f.type = fz := by
 obtain ⟨i, z, u, _, _, hu, _, _, _, _, hk'⟩ := tyOf_facts h
 rw [hk] at hk'
 cases u <;> simp [kindOf] at hk'
 rename_i F
 refine ⟨F, hu, fun j fo fz hj => ?_⟩
 rw [hk', List.getElem?_map] at hj
 cases hf : F[j]? with
 | none => rw [Array.getElem?_toList, hf] at hj; simp at hj
 | some f =>
  rw [Array.getElem?_toList, hf] at hj
  simp at hj
  exact ⟨f, rfl, hj.1, hj.2⟩
theorem size_of_cells {t n : Nat} (h : P.cellsOf t = n) (hn : 0 < n) (w : World) : (sizeOf t).run P w = .ok n w := by
 unfold Program.cellsOf at h
 cases hi : P.info? t with
 | none => simp [hi] at h; omega
 | some i => simp [hi] at h; simp [sizeOf, typeInfo, hi, h]
theorem run_fieldAt {t j fo fz b off : Nat} {D : TyD} {fs : List (Nat × Nat)} (h : tyOf P t = some D) (hk : D.k = .struct fs) (hj : fs[j]? = some (fo, fz)) (hz : 0 < fz) (w : World) :
  (Instr.fieldAt t (.pointer (some ⟨b, off, none⟩)) j).run P w = .ok (.pointer (some ⟨b, off + fo, none⟩)) w := by
 obtain ⟨F, hu, hF⟩ := struct_facts h hk
 obtain ⟨f, hf, rfl, h2⟩ := hF j fo fz hj
 have := size_of_cells h2 hz w
 simp [Instr.fieldAt, run_underlying hu, hf, Instr.sureAddr, fieldPlace, this, Nat.ne_of_gt hz, addr_add]
theorem as_fieldAddr_ref {t j fo fz b i off : Nat} {x : Operand} {D : TyD} {fs : List (Nat × Nat)} (ho : o.op = .fieldAddr t x j) (h : tyOf P t = some D) (hk : D.k = .struct fs) (hj : fs[j]? = some (fo, fz)) (hz : Nat.blt 0 fz = true) (hx : s.ev x = .ref b i off) :
  AStep P o s ⟨.ref b i (off + fo), [], [], []⟩ := by
 intro s' _ hop _ _
 refine opok_val fun c φ R a w hs => ?_
 have h1 := hs.ev x
 rw [hop x (by simp [ho, Op.operands]), hx] at h1
 generalize hq : a.eval x = q at h1
 cases h1 with
 | @ref _ _ _ _ hm hbh =>
  refine ⟨.pointer (some ⟨hm.blk, i * hm.esz + off + fo, none⟩), by simp [execOp, ho, hq, run_fieldAt h hk hj (by simpa using hz)], ?_⟩
  have := Rel.ref (w := w) (R := R) (i := i) (off := off + fo) hbh
  rwa [← Nat.add_assoc] at this
def dropC (cs : List AV) : Nat → Option (List AV)
 | 0 => some cs
 | n + 1 => match cs with
  | [] => none
  | _ :: cs => dropC cs n
theorem dropC_spec : ∀ (n : Nat) (cs l : List AV), dropC cs n = some l → l = cs.drop n ∧ n ≤ cs.length
 | 0, cs, l, h => by simp [dropC] at h; subst h; simp
 | n + 1, [], l, h => by simp [dropC] at h
 | n + 1, c :: cs, l, h => by
  simp only [dropC] at h
  obtain ⟨h1, h2⟩ := dropC_spec n cs l h
  exact ⟨by simpa using h1, by simp; omega⟩
theorem vp_drop {w : World} {R : Nat → Prop} {φ : Ph} {cs l : List AV} {n b off : Nat} (h : Rel w R φ (.vp cs) (.pointer (some ⟨b, off, none⟩))) (hl : dropC cs n = some l) : Rel w R φ (.vp l) (.pointer (some ⟨b, off + n, none⟩)) := by
 obtain ⟨rfl, hn⟩ := dropC_spec n cs l hl
 cases h with
 | vp f hR hc hr =>
  refine .vp (fun k => f (n + k)) hR (fun k hk => ?_) (fun j c hj => hr _ _ (by simpa using hj))
  rw [Nat.add_assoc]
  exact hc _ (by simp at hk; omega)
theorem as_fieldAddr_vp {t j fo fz : Nat} {x : Operand} {D : TyD} {fs : List (Nat × Nat)} {cs l : List AV} (ho : o.op = .fieldAddr t x j) (h : tyOf P t = some D) (hk : D.k = .struct fs) (hj : fs[j]? = some (fo, fz)) (hz : Nat.blt 0 fz = true) (hx : s.ev x = .vp cs) (hl : dropC cs fo = some l) :
  AStep P o s ⟨.vp l, [], [], []⟩ := by
 intro s' _ hop _ _
 refine opok_val fun c φ R a w hs => ?_
 have h1 := hs.ev x
 rw [hop x (by simp [ho, Op.operands]), hx] at h1
 generalize hq : a.eval x = q at h1
 have h1' := h1
 cases h1 with
 | @vp _ _ b off f hR hc hr =>
  exact ⟨.pointer (some ⟨b, off + fo, none⟩), by simp [execOp, ho, hq, run_fieldAt h hk hj (by simpa using hz)], vp_drop h1' hl⟩
theorem slice_und {t e : Nat} {D : TyD} (h : tyOf P t = some D) (hk : D.k = .slice e) : P.underlying t = some (.slice e) := by
 obtain ⟨i, z, u, _, _, hu, _, _, _, _, hk'⟩ := tyOf_facts h
 rw [hk] at hk'
 cases u <;> simp [kindOf] at hk'
 subst hk'
 exact hu
theorem array_und {t n e : Nat} {D : TyD} (h : tyOf P t = some D) (hk : D.k = .array n e) : P.underlying t = some (.array n e) := by
 obtain ⟨i, z, u, _, _, hu, _, _, _, _, hk'⟩ := tyOf_facts h
 rw [hk] at hk'
 cases u <;> simp [kindOf] at hk'
 obtain ⟨rfl, rfl⟩ := hk'
 exact hu
theorem run_indexAt_slice {t e a0 o0 len cap : Nat} {D E : TyD} {k : IntKind} {i : Int} (h : tyOf P t = some D) (hk : D.k = .slice e) (hE : tyOf P e = some E) (hi0 : 0 ≤ i) (hi : i < len) (w : World) :
  (Instr.indexAt t (.slice (some ⟨a0, o0, none⟩) len cap) (.int k i)).run P w = .ok (.pointer (some ⟨a0, o0 + i.toNat * E.size, none⟩)) w := by
 simp [Instr.indexAt, asIntOf, run_underlying (slice_und h hk), run_sizeOf hE, hi0, hi, addr_add]
theorem as_index_sl {t e : Nat} {x y : Operand} {D E : TyD} {k : IntKind} {i : Int} {xs : List AV} {ev : AV} (ho : o.op = .indexAddr t x y) (h : tyOf P t = some D) (hk : D.k = .slice e) (hE : tyOf P e = some E) (hx : s.ev x = .sl xs) (hy : s.ev y = .sc (.int k i))
  (hi0 : 0 ≤ i) (he : xs[i.toNat]? = some ev) (hl : Nat.beq ev.cells.length E.size = true) : AStep P o s ⟨.vp ev.cells, [], [], []⟩ := by
 intro s' _ hop _ _
 refine opok_val fun c φ R a w hs => ?_
 have h1 := hs.ev x
 rw [hop x (by simp [ho, Op.operands]), hx] at h1
 have h2 := hs.ev y
 rw [hop y (by simp [ho, Op.operands]), hy] at h2
 have h2 := h2.sc_inv
 have hlt : i.toNat < xs.length := (List.getElem?_eq_some_iff.1 he).1
 have hi : i < (xs.length : Int) := by omega
 generalize hq : a.eval x = q at h1
 cases h1 with
 | sl0 => simp at hlt
 | @sl _ _ b off cap e' f hep hR hcap hl' hc hr =>
  have he' : E.size = e' := by rw [← hl' _ _ he]; exact (Nat.eq_of_beq_eq_true hl).symm
  refine ⟨.pointer (some ⟨b, off + i.toNat * E.size, none⟩), by simp [execOp, ho, hq, h2, run_indexAt_slice h hk hE hi0 hi], ?_⟩
  refine .vp (fun j => f (i.toNat * e' + j)) hR (fun j hj => ?_) (fun j c hj => hr _ _ _ _ he hj)
  rw [he', Nat.add_assoc]
  rw [hl' _ _ he] at hj
  exact hc _ (row_in hlt hj)
theorem as_index_arr {t e b off len : Nat} {x y : Operand} {D E : TyD} {k : IntKind} {i : Int} {bk : Blk} (ho : o.op = .indexAddr t x y) (h : tyOf P t = some D) (hk : D.k = .slice e) (hE : tyOf P e = some E) (hx : s.ev x = .arr b off len) (hy : s.ev y = .sc (.int k i))
  (hb : lk b s.m = some (some bk)) (hz : Nat.beq bk.esz E.size = true) (hi0 : 0 ≤ i) (hi : i < len) : AStep P o s ⟨.ref b (off + i.toNat) 0, [], [b], []⟩ := by
 intro s' _ hop hacc _
 refine opok_val fun c φ R a w hs => ?_
 have h1 := hs.ev x
 rw [hop x (by simp [ho, Op.operands]), hx] at h1
 have h2 := hs.ev y
 rw [hop y (by simp [ho, Op.operands]), hy] at h2
 have h2 := h2.sc_inv
 generalize hq : a.eval x = q at h1
 cases h1 with
 | arr0 => omega
 | @arr _ _ _ _ cap hm hbh hl hc =>
  obtain ⟨oh, ho', hr⟩ := hs.m.rel b bk (by rw [hacc b (by simp)]; exact hb)
  rw [hbh] at ho'
  cases ho'
  obtain ⟨hez, _⟩ := hr
  have hE' : E.size = hm.esz := by rw [← hez]; exact (Nat.eq_of_beq_eq_true hz).symm
  refine ⟨.pointer (some ⟨hm.blk, off * hm.esz + i.toNat * E.size, none⟩), by simp [execOp, ho, hq, h2, run_indexAt_slice h hk hE hi0 hi], ?_⟩
  have := Rel.ref (w := w) (R := R) (i := off + i.toNat) (off := 0) hbh
  rw [Nat.add_mul, Nat.add_zero] at this
  rw [hE']
  exact this
theorem run_indexAt_array {t n e a0 o0 : Nat} {D E : TyD} {k : IntKind} {i : Int} (h : tyOf P t = some D) (hk : D.k = .array n e) (hE : tyOf P e = some E) (hi0 : 0 ≤ i) (hi : i < n) (w : World) :
  (Instr.indexAt t (.pointer (some ⟨a0, o0, none⟩)) (.int k i)).run P w = .ok (.pointer (some ⟨a0, o0 + i.toNat * E.size, none⟩)) w := by
 simp [Instr.indexAt, asIntOf, run_underlying (array_und h hk), run_sizeOf hE, hi0, hi, addr_add, Instr.sureAddr]
theorem as_index_aref {t n e b j off : Nat} {x y : Operand} {D E : TyD} {k : IntKind} {i : Int} (ho : o.op = .indexAddr t x y) (h : tyOf P t = some D) (hk : D.k = .array n e) (hE : tyOf P e = some E) (hx : s.ev x = .ref b j off) (hy : s.ev y = .sc (.int k i))
  (hi0 : 0 ≤ i) (hi : i < n) : AStep P o s ⟨.ref b j (off + i.toNat * E.size), [], [], []⟩ := by
 intro s' _ hop _ _
 refine opok_val fun c φ R a w hs => ?_
 have h1 := hs.ev x
 rw [hop x (by simp [ho, Op.operands]), hx] at h1
 have h2 := hs.ev y
 rw [hop y (by simp [ho, Op.operands]), hy] at h2
 have h2 := h2.sc_inv
 generalize hq : a.eval x = q at h1
 cases h1 with
 | @ref _ _ _ _ hm hbh =>
  refine ⟨.pointer (some ⟨hm.blk, j * hm.esz + off + i.toNat * E.size, none⟩), by simp [execOp, ho, hq, h2, run_indexAt_array h hk hE hi0 hi], ?_⟩
  have := Rel.ref (w := w) (R := R) (i := j) (off := off + i.toNat * E.size) hbh
  rwa [← Nat.add_assoc] at this
theorem as_index_avp {t n e : Nat} {x y : Operand} {D E : TyD} {k : IntKind} {i : Int} {cs l : List AV} (ho : o.op = .indexAddr t x y) (h : tyOf P t = some D) (hk : D.k = .array n e) (hE : tyOf P e = some E) (hx : s.ev x = .vp cs) (hy : s.ev y = .sc (.int k i))
  (hi0 : 0 ≤ i) (hi : i < n) (hl : dropC cs (i.toNat * E.size) = some l) : AStep P o s ⟨.vp l, [], [], []⟩ := by
 intro s' _ hop _ _
 refine opok_val fun c φ R a w hs => ?_
 have h1 := hs.ev x
 rw [hop x (by simp [ho, Op.operands]), hx] at h1
 have h2 := hs.ev y
 rw [hop y (by simp [ho, Op.operands]), hy] at h2
 have h2 := h2.sc_inv
 generalize hq : a.eval x = q at h1
 have h1' := h1
 cases h1 with
 | @vp _ _ b off f hR hc hr =>
  exact ⟨.pointer (some ⟨b, off + i.toNat * E.size, none⟩), by simp [execOp, ho, hq, h2, run_indexAt_array h hk hE hi0 hi], vp_drop h1' hl⟩
end
end Go.Ab
