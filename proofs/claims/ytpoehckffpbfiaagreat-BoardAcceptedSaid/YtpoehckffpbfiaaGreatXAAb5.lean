/- The abstract layer, part 5: values that are built, taken apart and computed. -/
import Derived.Test.YtpoehckffpbfiaaGreatXAAb4
import Derived.Laws.StructEq
namespace Go.Ab
open Go.RowKit
section
variable {P : Program} {o : Oper} {s : St}
theorem fill_fold (vs : Array Value) (off : Nat) (cells : Array Value) (h : off + vs.size ≤ cells.size) (q : Nat) :
  (vs.zipIdx.foldl (fun cs (c, j) => cs.setIfInBounds (off + j) c) cells)[q]? = if off ≤ q ∧ q < off + vs.size then vs[q - off]? else cells[q]? := by
 obtain ⟨l⟩ := vs
 simp only [List.size_toArray] at h
 have key : ∀ (l : List Value) (n : Nat) (cells : Array Value), off + n + l.length ≤ cells.size →
   ((l.zipIdx n).foldl (fun (cs : Array Value) (p : Value × Nat) => cs.setIfInBounds (off + p.2) p.1) cells)[q]? = if off + n ≤ q ∧ q < off + n + l.length then l[q - (off + n)]? else cells[q]? := by
  intro l
  induction l with
  | nil => intro n cells _; simp; intro h1 h2; omega
  | cons v l ih =>
   intro n cells hl
   simp only [List.length_cons] at hl
   simp only [List.zipIdx_cons, List.foldl_cons]
   rw [ih (n + 1) _ (by simp; omega)]
   by_cases h1 : off + (n + 1) ≤ q ∧ q < off + (n + 1) + l.length
   ·rw [if_pos h1, if_pos (by simp; omega), show q - (off + n) = (q - (off + (n + 1))) + 1 by omega]
    simp
   ·rw [if_neg h1]
    by_cases h2 : q = off + n
    ·subst h2
     rw [if_pos (by simp)]
     simp [show off + n < cells.size by omega]
    ·rw [if_neg (by simp; omega), Array.getElem?_setIfInBounds_ne (by omega)]
 have := key l 0 cells (by simpa using h)
 simp only [Nat.add_zero] at this
 simp only [List.size_toArray, List.getElem?_toArray]
 rw [← this]
 simp
theorem fill_size (vs : Array Value) (off : Nat) (cells : Array Value) : (vs.zipIdx.foldl (fun cs (c, j) => cs.setIfInBounds (off + j) c) cells).size = cells.size := by
 obtain ⟨l⟩ := vs
 have key : ∀ (l : List Value) (n : Nat) (cells : Array Value), ((l.zipIdx n).foldl (fun (cs : Array Value) (p : Value × Nat) => cs.setIfInBounds (off + p.2) p.1) cells).size = cells.size := by
  intro l
  induction l with
  | nil => intro n cells; rfl
  | cons v l ih => intro n cells; simp [List.zipIdx_cons, ih]
 simpa using key l 0 cells
def afill (place : Nat → Option (Nat × Nat)) (cs : List AV) : List (Nat × AV) → Option (List AV)
 | [] => some cs
 | (i, v) :: rest => match place i with
  | none => none
  | some (off, size) => match v with
   | .bot => none
   | v => match Nat.beq v.cells.length size with
    | false => none
    | true => match splice cs off v.cells with
     | none => none
     | some l => afill place l rest
theorem afill_spec {w : World} {R : Nat → Prop} {φ : Ph} {place : Nat → Option (Nat × Nat)} : ∀ (parts : List (Nat × AV)) (cs l : List AV) (vparts : List (Nat × Value)) (cells : Array Value),
  afill place cs parts = some l → parts.length = vparts.length → (∀ (j : Nat) (p : Nat × AV) (q : Nat × Value), parts[j]? = some p → vparts[j]? = some q → p.1 = q.1 ∧ Rel w R φ p.2 q.2) →
  cs.length = cells.size → (∀ (j : Nat) (c : AV) (u : Value), cs[j]? = some c → cells[j]? = some u → Rel w R φ c u) →
  ∃ out, Instr.fill place cells vparts = some out ∧ l.length = out.size ∧ ∀ (j : Nat) (c : AV) (u : Value), l[j]? = some c → out[j]? = some u → Rel w R φ c u
 | [], cs, l, vparts, cells, h, hl, _, hs, hr => by
  simp [afill] at h
  subst h
  cases vparts with
  | nil => exact ⟨cells, rfl, hs, hr⟩
  | cons q vs => simp at hl
 | (i, v) :: rest, cs, l, vparts, cells, h, hl, hp, hs, hr => by
  cases vparts with
  | nil => simp at hl
  | cons q vs =>
   obtain ⟨i', u⟩ := q
   obtain ⟨hi, hv⟩ := hp 0 (i, v) (i', u) rfl rfl
   dsimp only at hi hv
   subst hi
   simp only [afill] at h
   cases hpl : place i with
   | none => simp [hpl] at h
   | some p =>
    obtain ⟨off, size⟩ := p
    simp only [hpl] at h
    have hb : v ≠ .bot := by
     intro e
     subst e
     simp at h
    have h' : (match Nat.beq v.cells.length size with
     | false => none
     | true => match splice cs off v.cells with
      | none => none
      | some l => afill place l rest) = some l := by
     cases v <;> first | exact absurd rfl hb | exact h
    cases hz : Nat.beq v.cells.length size with
    | false => simp [hz] at h'
    | true =>
     simp only [hz] at h'
     cases hsp : splice cs off v.cells with
     | none => simp [hsp] at h'
     | some l1 =>
      simp only [hsp] at h'
      obtain ⟨s1, s2, s3⟩ := splice_spec off cs v.cells l1 hsp
      obtain ⟨c1, c2⟩ := hv.cells hb
      have hzz := Nat.eq_of_beq_eq_true hz
      obtain ⟨out, g1, g2, g3⟩ := afill_spec rest l1 l vs (u.cells.zipIdx.foldl (fun cs (c, j) => cs.setIfInBounds (off + j) c) cells) h' (by simpa using hl)
       (fun j p q h1 h2 => hp (j + 1) p q (by simpa using h1) (by simpa using h2)) (by rw [fill_size, s1, hs]) (fun j c u' h1 h2 => by
        rw [s3 j] at h1
        rw [fill_fold _ _ _ (by omega), ← c1] at h2
        by_cases hj : off ≤ j ∧ j < off + v.cells.length
        ·rw [if_pos hj] at h1 h2
         exact c2 _ _ _ h1 h2
        ·rw [if_neg hj] at h1 h2
         exact hr _ _ _ h1 h2)
      refine ⟨out, ?_, g2, g3⟩
      simp only [Instr.fill, hpl]
      rw [if_neg (by simp; omega)]
      exact g1
def evParts (s : St) : List (Nat × Operand) → List (Nat × AV)
 | [] => []
 | (i, x) :: l => (i, s.ev x) :: evParts s l
theorem evParts_eq (s : St) (l : List (Nat × Operand)) : evParts s l = l.map fun p => (p.1, s.ev p.2) := by
 induction l with
 | nil => rfl
 | cons p l ih => obtain ⟨i, x⟩ := p; simp [evParts, ih]
theorem parts_rel {c : Ctx} {φ : Ph} {R : Nat → Prop} {s' : St} {a : Act} {w : World} (hs : SRelX c φ R s' a w) (parts : Array (Nat × Operand)) (hop : ∀ p ∈ parts.toList, s'.ev p.2 = s.ev p.2) :
  (evParts s parts.toList).length = (parts.map fun (i, x) => (i, a.eval x)).toList.length ∧
  ∀ (j : Nat) (p : Nat × AV) (q : Nat × Value), (evParts s parts.toList)[j]? = some p → (parts.map fun (i, x) => (i, a.eval x)).toList[j]? = some q → p.1 = q.1 ∧ Rel w R φ p.2 q.2 := by
 refine ⟨by simp [evParts_eq], fun j p q h1 h2 => ?_⟩
 rw [evParts_eq, List.getElem?_map] at h1
 rw [Array.getElem?_toList, Array.getElem?_map, ← Array.getElem?_toList] at h2
 cases hp : parts.toList[j]? with
 | none => rw [hp] at h1; simp at h1
 | some r =>
  rw [hp] at h1 h2
  simp at h1 h2
  subst h1
  subst h2
  refine ⟨rfl, ?_⟩
  have := hs.ev r.2
  rwa [hop r (List.mem_of_getElem? hp)] at this
theorem ops_build {t : Nat} {parts : Array (Nat × Operand)} (ho : o.op = .build t parts) : ∀ p ∈ parts.toList, p.2 ∈ o.op.operands.toList := by
 intro p hp
 simp only [ho, Op.operands]
 simp
 exact ⟨p.1, by simpa using hp⟩
theorem built_struct {t : Nat} {D : TyD} {fs : List (Nat × Nat)} {parts : List (Nat × Value)} {out : Array Value} (h : tyOf P t = some D) (hk : D.k = .struct fs) (hz : ∀ p ∈ fs, 0 < p.2) {z : Value} {i : TypeInfo} (hi : P.info? t = some i) (hzz : i.zero = some z) (hf : Instr.fill (fun j => fs[j]?) z.cells parts = some out) : P.built t parts = some out := by
 obtain ⟨i', z', u, hi', hz', hu, _, _, _, _, hk'⟩ := tyOf_facts h
 rw [hi] at hi'; cases hi'
 rw [hzz] at hz'; cases hz'
 rw [hk] at hk'
 cases u <;> simp [kindOf] at hk'
 rename_i F
 have hm : F.toList.mapM (fun f => (P.info? f.type).map fun i => (f.offset, i.size)) = some fs := by
  subst hk'
  have : ∀ (l : List Field), (∀ p ∈ l.map (fun f => (f.offset, P.cellsOf f.type)), 0 < p.2) → l.mapM (fun f => (P.info? f.type).map fun i => (f.offset, i.size)) = some (l.map fun f => (f.offset, P.cellsOf f.type)) := by
   intro l
   induction l with
   | nil => simp
   | cons f l ih =>
    intro hz
    have h1 := hz (f.offset, P.cellsOf f.type) (by simp)
    have h2 := ih (fun p hp => hz p (by simp at hp ⊢; right; exact hp))
    simp only [List.mapM_cons, h2]
    unfold Program.cellsOf at h1 ⊢
    cases hf : P.info? f.type with
    | none => simp [hf] at h1
    | some j => simp [hf]
  exact this F.toList hz
 unfold Program.built
 simp only [hi, hu, hzz, hm]
 simpa using hf
def posSizes (fs : List (Nat × Nat)) : Bool := fs.all fun p => Nat.blt 0 p.2
theorem as_build_struct {t : Nat} {parts : Array (Nat × Operand)} {D : TyD} {fs : List (Nat × Nat)} {l : List AV} (ho : o.op = .build t parts) (h : tyOf P t = some D) (hk : D.k = .struct fs) (hz : posSizes fs = true) (hl : afill (fun j => fs[j]?) D.zero.cells (evParts s parts.toList) = some l) :
  AStep P o s ⟨.agg l, [], [], []⟩ := by
 intro s' _ hop _ _
 refine opok_val fun c φ R a w hs => ?_
 obtain ⟨i, z, u, hi, hzz, _, hsz, _, hzero, hzs, _⟩ := tyOf_facts h
 obtain ⟨p1, p2⟩ := parts_rel hs parts (s := s) (fun p hp => hop _ (ops_build ho p hp))
 have hc := ofZero_cells w R φ z
 rw [hzero] at hl
 obtain ⟨out, g1, g2, g3⟩ := afill_spec (w := w) (R := R) (φ := φ) (evParts s parts.toList) _ l (parts.map fun (i, x) => (i, a.eval x)).toList z.cells hl p1 p2 hc.1 hc.2
 have hb := run_build (P := P) w t (parts.map fun (i, x) => (i, a.eval x)) out (built_struct h hk (by simpa [posSizes] using hz) hi hzz g1)
 exact ⟨.agg out, by simp [execOp, ho, hb], .agg g2 g3⟩
theorem as_build_array {t n e : Nat} {parts : Array (Nat × Operand)} {D E : TyD} {l : List AV} (ho : o.op = .build t parts) (h : tyOf P t = some D) (hk : D.k = .array n e) (hE : tyOf P e = some E) (hl : afill (fun j => some (j * E.size, E.size)) D.zero.cells (evParts s parts.toList) = some l) :
  AStep P o s ⟨.agg l, [], [], []⟩ := by
 intro s' _ hop _ _
 refine opok_val fun c φ R a w hs => ?_
 obtain ⟨i, z, u, hi, hzz, _, hsz, _, hzero, hzs, _⟩ := tyOf_facts h
 obtain ⟨ie, ze, ue, hie, _, _, hsze, _⟩ := tyOf_facts hE
 obtain ⟨p1, p2⟩ := parts_rel hs parts (s := s) (fun p hp => hop _ (ops_build ho p hp))
 have hc := ofZero_cells w R φ z
 rw [hzero] at hl
 obtain ⟨out, g1, g2, g3⟩ := afill_spec (w := w) (R := R) (φ := φ) (evParts s parts.toList) _ l (parts.map fun (i, x) => (i, a.eval x)).toList z.cells hl p1 p2 hc.1 hc.2
 have hbt : P.built t (parts.map fun (i, x) => (i, a.eval x)).toList = some out := by
  unfold Program.built
  simp only [hi, array_und h hk, hzz, hie]
  rw [hsze]
  exact g1
 have hb := run_build (P := P) w t (parts.map fun (i, x) => (i, a.eval x)) out hbt
 exact ⟨.agg out, by simp [execOp, ho, hb], .agg g2 g3⟩
theorem run_part {w : World} {R : Nat → Prop} {φ : Ph} {T off : Nat} {D : TyD} {cs : List AV} {vs : Array Value} {v : AV} (hT : tyOf P T = some D) (hl : cs.length = vs.size) (hr : ∀ (i : Nat) (c : AV) (u : Value), cs[i]? = some c → vs[i]? = some u → Rel w R φ c u) (hv : rd D cs off = some v) :
  ∃ u, (part T vs off).run P w = .ok u w ∧ Rel w R φ v u := by
 cases hk : D.k.isAgg with
 | true =>
  unfold rd at hv
  rw [hk] at hv
  dsimp only at hv
  cases hs : sub cs off D.size with
  | none => simp [hs] at hv
  | some l =>
   simp [hs] at hv
   subst hv
   obtain ⟨h1, h2, h3⟩ := sub_spec cs off D.size l hs
   refine ⟨.agg (vs.extract off (off + D.size)), by simp [part, run_isAgg hT, hk, run_sizeOf hT], .agg (by simp [h1]; omega) fun i c u hi hu => ?_⟩
   have hlt : i < D.size := by rw [← h1]; exact (List.getElem?_eq_some_iff.1 hi).1
   rw [h3 i hlt] at hi
   rw [Array.getElem?_extract] at hu
   split at hu
   ·exact hr _ _ _ hi hu
   ·cases hu
 | false =>
  have h1 := rd_one hk hv
  have hlt : off < vs.size := by rw [← hl]; exact (List.getElem?_eq_some_iff.1 h1).1
  exact ⟨vs[off], by simp [part, run_isAgg hT, hk, hlt], hr off v vs[off] h1 (by simp [hlt])⟩
theorem as_field {t j fo fz ft : Nat} {x : Operand} {D F : TyD} {fs : List (Nat × Nat)} {cs : List AV} {v : AV} (ho : o.op = .field t x j) (h : tyOf P t = some D) (hk : D.k = .struct fs) (hj : fs[j]? = some (fo, fz)) (hft : ∀ f : Array Field, P.underlying t = some (.struct f) → (f[j]?).map (·.type) = some ft) (hF : tyOf P ft = some F) (hx : s.ev x = .agg cs) (hv : rd F cs fo = some v) :
  AStep P o s ⟨v, [], [], []⟩ := by
 intro s' _ hop _ _
 refine opok_val fun c φ R a w hs => ?_
 have h1 := hs.ev x
 rw [hop x (by simp [ho, Op.operands]), hx] at h1
 generalize hq : a.eval x = q at h1
 cases h1 with
 | @agg _ _ vs hl hr =>
  obtain ⟨Fs, hu, hF'⟩ := struct_facts h hk
  obtain ⟨f, hf, rfl, h2⟩ := hF' j fo fz hj
  have := hft Fs hu
  rw [hf] at this
  simp at this
  subst this
  obtain ⟨u, hr1, hr2⟩ := run_part hF hl hr hv
  exact ⟨u, by simp [execOp, ho, hq, Instr.field, run_underlying hu, hf, asAgg, hr1], hr2⟩
theorem as_extract {x : Operand} {i : Nat} {cs : List AV} {v : AV} (ho : o.op = .extract x i) (hx : s.ev x = .tup cs) (hv : cs[i]? = some v) : AStep P o s ⟨v, [], [], []⟩ := by
 intro s' _ hop _ _
 refine opok_val fun c φ R a w hs => ?_
 have h1 := hs.ev x
 rw [hop x (by simp [ho, Op.operands]), hx] at h1
 generalize hq : a.eval x = q at h1
 cases h1 with
 | @tup _ _ vs hl hr =>
  have hlt : i < vs.size := by rw [← hl]; exact (List.getElem?_eq_some_iff.1 hv).1
  exact ⟨vs[i], by simp [execOp, ho, hq, Instr.extract, hlt], hr i v vs[i] hv (by simp [hlt])⟩
theorem as_index_val {t n e : Nat} {x y : Operand} {D E : TyD} {k : IntKind} {i : Int} {cs : List AV} {v : AV} (ho : o.op = .index t x y) (h : tyOf P t = some D) (hk : D.k = .array n e) (hE : tyOf P e = some E) (hx : s.ev x = .agg cs) (hy : s.ev y = .sc (.int k i)) (hi0 : 0 ≤ i) (hi : i < n) (hv : rd E cs (i.toNat * E.size) = some v) :
  AStep P o s ⟨v, [], [], []⟩ := by
 intro s' _ hop _ _
 refine opok_val fun c φ R a w hs => ?_
 have h1 := hs.ev x
 rw [hop x (by simp [ho, Op.operands]), hx] at h1
 have h2 := hs.ev y
 rw [hop y (by simp [ho, Op.operands]), hy] at h2
 have h2 := h2.sc_inv
 generalize hq : a.eval x = q at h1
 cases h1 with
 | @agg _ _ vs hl hr =>
  obtain ⟨u, hr1, hr2⟩ := run_part hE hl hr hv
  exact ⟨u, by simp [execOp, ho, hq, h2, Instr.index, asIntOf, run_underlying (array_und h hk), hi0, hi, run_sizeOf hE, hr1], hr2⟩
theorem as_index_str {t : Nat} {x y : Operand} {D : TyD} {k : IntKind} {i : Int} {st : ByteArray} {u : UInt8} (ho : o.op = .index t x y) (h : tyOf P t = some D) (hk : D.k = .str) (hx : s.ev x = .sc (.string st)) (hy : s.ev y = .sc (.int k i)) (hi0 : 0 ≤ i) (hu : st[i.toNat]? = some u) :
  AStep P o s ⟨.sc (.int .u8 u.toNat), [], [], []⟩ := by
 intro s' _ hop _ _
 refine opok_val fun c φ R a w hs => ?_
 have h1 := hs.ev x
 rw [hop x (by simp [ho, Op.operands]), hx] at h1
 have h1 := h1.sc_inv
 have h2 := hs.ev y
 rw [hop y (by simp [ho, Op.operands]), hy] at h2
 have h2 := h2.sc_inv
 obtain ⟨_, _, ud, _, _, hud, _, _, _, _, hk'⟩ := tyOf_facts h
 rw [hk] at hk'
 have : ud = .string := by cases ud <;> simp [kindOf] at hk' <;> rfl
 subst this
 exact ⟨_, by simp [execOp, ho, h1, h2, Instr.index, asIntOf, run_underlying hud, hi0, hu], .sc rfl⟩
theorem as_bin {op : BinOp} {t ty : Nat} {x y : Operand} {v1 v2 v : Value} (ho : o.op = .binOp op t x y ty) (hx : s.ev x = .sc v1) (hy : s.ev y = .sc v2) (hg : ∀ w, (eqGuard op t x y v1 v2).run P w = .ok () w) (hr : ∀ w, (binOp op t v1 v2).run P w = .ok v w) (hf : flat v = true) :
  AStep P o s ⟨.sc v, [], [], []⟩ := by
 intro s' _ hop _ _
 refine opok_val fun c φ R a w hs => ?_
 have h1 := hs.ev x
 rw [hop x (by simp [ho, Op.operands]), hx] at h1
 have h1 := h1.sc_inv
 have h2 := hs.ev y
 rw [hop y (by simp [ho, Op.operands]), hy] at h2
 have h2 := h2.sc_inv
 exact ⟨v, by simp [execOp, ho, h1, h2, hg, hr], .sc hf⟩
theorem guard_int (op : BinOp) (t : Nat) (x y : Operand) (k k' : IntKind) (a b : Int) (w : World) : (eqGuard op t x y (.int k a) (.int k' b)).run P w = .ok () w := by cases op <;> rfl
theorem guard_str (op : BinOp) (t : Nat) (x y : Operand) (a b : ByteArray) (w : World) : (eqGuard op t x y (.string a) (.string b)).run P w = .ok () w := by cases op <;> rfl
theorem guard_bool (op : BinOp) (t : Nat) (x y : Operand) (a b : Bool) (w : World) : (eqGuard op t x y (.bool a) (.bool b)).run P w = .ok () w := by cases op <;> rfl
def intBin (op : BinOp) (k : IntKind) (a b : Int) : Option Value :=
 match op with
 | .add => some (.int k (k.wrap (a + b)))
 | .sub => some (.int k (k.wrap (a - b)))
 | .mul => some (.int k (k.wrap (a * b)))
 | .eql => some (.bool (a == b))
 | .neq => some (.bool (a != b))
 | .lss => some (.bool (decide (a < b)))
 | .leq => some (.bool (decide (a ≤ b)))
 | .gtr => some (.bool (decide (b < a)))
 | .geq => some (.bool (decide (b ≤ a)))
 | .and => some (.int k (k.wrap (BitVec.ofInt k.bits a &&& BitVec.ofInt k.bits b).toNat))
 | .or => some (.int k (k.wrap (BitVec.ofInt k.bits a ||| BitVec.ofInt k.bits b).toNat))
 | .xor => some (.int k (k.wrap (BitVec.ofInt k.bits a ^^^ BitVec.ofInt k.bits b).toNat))
 | _ => none
theorem as_int {op : BinOp} {t ty : Nat} {x y : Operand} {k : IntKind} {a b : Int} {v : Value} (ho : o.op = .binOp op t x y ty) (hx : s.ev x = .sc (.int k a)) (hy : s.ev y = .sc (.int k b)) (hv : intBin op k a b = some v) : AStep P o s ⟨.sc v, [], [], []⟩ := by
 refine as_bin ho hx hy (guard_int op t x y k k a b) (fun w => ?_) ?_
 ·cases op <;> simp [intBin] at hv <;> subst hv <;> simp [binOp, Op.intArith, Op.intCmp, Op.intBits] <;> first | rfl | (constructor <;> intro h <;> exact h)
 ·cases op <;> simp [intBin] at hv <;> subst hv <;> rfl
theorem as_quo {t ty : Nat} {x y : Operand} {k : IntKind} {a b : Int} (ho : o.op = .binOp .quo t x y ty) (hx : s.ev x = .sc (.int k a)) (hy : s.ev y = .sc (.int k b)) (hb : b ≠ 0) : AStep P o s ⟨.sc (.int k (k.wrap (a.tdiv b))), [], [], []⟩ :=
 as_bin ho hx hy (guard_int _ t x y k k a b) (fun w => by simp [binOp, Op.intDiv, hb]) rfl
theorem as_rem {t ty : Nat} {x y : Operand} {k : IntKind} {a b : Int} (ho : o.op = .binOp .rem t x y ty) (hx : s.ev x = .sc (.int k a)) (hy : s.ev y = .sc (.int k b)) (hb : b ≠ 0) : AStep P o s ⟨.sc (.int k (a.tmod b)), [], [], []⟩ :=
 as_bin ho hx hy (guard_int _ t x y k k a b) (fun w => by simp [binOp, Op.intDiv, hb]) rfl
theorem as_shl {t ty : Nat} {x y : Operand} {k k' : IntKind} {a b : Int} (ho : o.op = .binOp .shl t x y ty) (hx : s.ev x = .sc (.int k a)) (hy : s.ev y = .sc (.int k' b)) (hb : 0 ≤ b) : AStep P o s ⟨.sc (.int k (k.wrap (a * 2 ^ (min b.toNat k.bits)))), [], [], []⟩ :=
 as_bin ho hx hy (guard_int _ t x y k k' a b) (fun w => by simp [binOp, Op.shift, Int.not_lt.2 hb]) rfl
theorem as_shr {t ty : Nat} {x y : Operand} {k k' : IntKind} {a b : Int} (ho : o.op = .binOp .shr t x y ty) (hx : s.ev x = .sc (.int k a)) (hy : s.ev y = .sc (.int k' b)) (hb : 0 ≤ b) : AStep P o s ⟨.sc (.int k (a.fdiv (2 ^ (min b.toNat k.bits)))), [], [], []⟩ :=
 as_bin ho hx hy (guard_int _ t x y k k' a b) (fun w => by simp [binOp, Op.shift, Int.not_lt.2 hb]) rfl
def strBin (op : BinOp) (a b : ByteArray) : Option Value :=
 match op with
 | .eql => some (.bool (a.toList == b.toList))
 | .neq => some (.bool (!(a.toList == b.toList)))
 | .lss => some (.bool (Op.bytesLess a.toList b.toList))
 | _ => none
theorem as_str {op : BinOp} {t ty : Nat} {x y : Operand} {a b : ByteArray} {v : Value} (ho : o.op = .binOp op t x y ty) (hx : s.ev x = .sc (.string a)) (hy : s.ev y = .sc (.string b)) (hv : strBin op a b = some v) : AStep P o s ⟨.sc v, [], [], []⟩ := by
 refine as_bin ho hx hy (guard_str op t x y a b) (fun w => ?_) ?_
 ·cases op <;> simp [strBin] at hv <;> subst hv <;> simp [binOp, Op.stringOp]
 ·cases op <;> simp [strBin] at hv <;> subst hv <;> rfl
theorem as_concat {t ty : Nat} {x y : Operand} {a b : ByteArray} (ho : o.op = .binOp .add t x y ty) (hx : s.ev x = .sc (.string a)) (hy : s.ev y = .sc (.string b)) (hl : a.size + b.size ≤ 9223372036854775807) : AStep P o s ⟨.sc (.string (a ++ b)), [], [], []⟩ :=
 as_bin ho hx hy (guard_str _ t x y a b) (fun w => by
  simp [binOp, Op.stringOp]
  omega) rfl
theorem as_eqBool {t ty : Nat} {x y : Operand} {a b : Bool} {D : TyD} (ho : o.op = .binOp .eql t x y ty) (h : tyOf P t = some D) (hk : D.k = .bool) (hx : s.ev x = .sc (.bool a)) (hy : s.ev y = .sc (.bool b)) : AStep P o s ⟨.sc (.bool (a == b)), [], [], []⟩ := by
 obtain ⟨_, _, ud, _, _, hud, _, _, _, _, hk'⟩ := tyOf_facts h
 rw [hk] at hk'
 have : ud = .bool := by cases ud <;> simp [kindOf] at hk' <;> rfl
 subst this
 exact as_bin ho hx hy (guard_bool _ t x y a b) (fun w => by simp [binOp, Op.equal, Op.maxDepth, run_equalIn_bool w 9999 t a b hud]) rfl
theorem as_un {op : UnOp} {t : Nat} {x : Operand} {v1 v : Value} (ho : o.op = .unOp op t x) (hx : s.ev x = .sc v1) (hr : ∀ w, (Op.unary op v1).run P w = .ok v w) (hf : flat v = true) : AStep P o s ⟨.sc v, [], [], []⟩ := by
 intro s' _ hop _ _
 refine opok_val fun c φ R a w hs => ?_
 have h1 := hs.ev x
 rw [hop x (by simp [ho, Op.operands]), hx] at h1
 have h1 := h1.sc_inv
 exact ⟨v, by simp [execOp, ho, h1, hr], .sc hf⟩
def unVal (op : UnOp) (v : Value) : Option Value :=
 match op, v with
 | .not, .bool b => some (.bool (!b))
 | .neg, .int k n => some (.int k (k.wrap (0 - n)))
 | .xor, .int k n => some (.int k (k.wrap (BitVec.ofInt k.bits (if k.signed then -1 else k.max) ^^^ BitVec.ofInt k.bits n).toNat))
 | _, _ => none
theorem as_unary {op : UnOp} {t : Nat} {x : Operand} {v1 v : Value} (ho : o.op = .unOp op t x) (hx : s.ev x = .sc v1) (hv : unVal op v1 = some v) : AStep P o s ⟨.sc v, [], [], []⟩ := by
 refine as_un ho hx (fun w => ?_) ?_
 ·cases op <;> cases v1 <;> simp [unVal] at hv <;> subst hv <;> simp [Op.unary, Op.intArith, Op.intBits]
 ·cases op <;> cases v1 <;> simp [unVal] at hv <;> subst hv <;> rfl
theorem int_und {t : Nat} {k : IntKind} {D : TyD} (h : tyOf P t = some D) (hk : D.k = .int k) : P.underlying t = some (.int k) := by
 obtain ⟨_, _, ud, _, _, hud, _, _, _, _, hk'⟩ := tyOf_facts h
 rw [hk] at hk'
 cases ud <;> simp [kindOf] at hk'
 subst hk'
 exact hud
theorem as_conv {t1 t2 : Nat} {x : Operand} {k1 k2 k : IntKind} {D1 D2 : TyD} {n : Int} (ho : o.op = .convert t1 t2 x) (h1 : tyOf P t1 = some D1) (h2 : tyOf P t2 = some D2) (hk1 : D1.k = .int k1) (hk2 : D2.k = .int k2) (hx : s.ev x = .sc (.int k n)) : AStep P o s ⟨.sc (.int k2 (k2.wrap n)), [], [], []⟩ := by
 intro s' _ hop _ _
 refine opok_val fun c φ R a w hs => ?_
 have h1' := hs.ev x
 rw [hop x (by simp [ho, Op.operands]), hx] at h1'
 have h1' := h1'.sc_inv
 exact ⟨_, by simp [execOp, ho, h1', convert, run_underlying (int_und h1 hk1), run_underlying (int_und h2 hk2), Conv.intToInt], .sc rfl⟩
end
end Go.Ab
