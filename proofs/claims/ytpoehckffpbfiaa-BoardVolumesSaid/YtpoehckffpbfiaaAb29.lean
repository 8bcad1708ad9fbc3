/- The abstract layer, part 29: maps of strings to true, that a function makes and writes. -/
import Derived.Test.YtpoehckffpbfiaaAb27
import Derived.MapKept
namespace Go.Ab
open Go.RowKit Go.MapKept

def inK (k : ByteArray) (ks : List ByteArray) : Bool := ks.any fun q => bEq q k
def addK (ks : List ByteArray) (k : ByteArray) : List ByteArray := bif inK k ks then ks else ks ++ [k]
theorem inK_iff {k : ByteArray} {ks : List ByteArray} : inK k ks = true ↔ k ∈ ks := by
  unfold inK
  rw [List.any_eq_true]
  constructor
  · rintro ⟨x, hx, h⟩
    rw [bEq_iff] at h
    subst h
    exact hx
  · intro h
    exact ⟨k, h, bEq_iff.2 rfl⟩

mutual
def noM : AV → Bool
  | .mpv _ _ _ => false
  | .agg cs => noML cs
  | .tup cs => noML cs
  | .clo _ a b => noML a && noML b
  | _ => true
def noML : List AV → Bool
  | [] => true
  | c :: cs => noM c && noML cs
end

theorem noML_get {cs : List AV} (h : noML cs = true) : ∀ (i : Nat) (c : AV), cs[i]? = some c → noM c = true := by
  induction cs with
  | nil => intro i c hc; simp at hc
  | cons d ds ih =>
    simp only [noML, Bool.and_eq_true] at h
    intro i c hc
    cases i with
    | zero => simp at hc; subst hc; exact h.1
    | succ i => exact ih h.2 i c (by simpa using hc)

theorem cell_map {w : World} {r o clk : Nat} {E : Array MapEntry} (h : w.heap[r]? = some (.map E clk)) : w.cell? ⟨r, o, none⟩ = none := by
  simp [World.cell?, h]

/-- Another content of a map. -/
theorem Rel.setMap {w w' : World} {R : Nat → Prop} {φ : Ph} {a : AV} {v : Value} {r clk : Nat} {E : Array MapEntry} (hmap : w.heap[r]? = some (.map E clk)) (hw : ∀ n, n ≠ r → w'.heap[n]? = w.heap[n]?) (h : Rel w R φ a v) (hn : noM a = true ∨ φ = Ph.no) : Rel w' R φ a v := by
  induction h with
  | bot => exact .bot
  | sc h => exact .sc h
  | nilS => exact .nilS
  | agg hl _ ih => exact .agg hl fun i c v h1 h2 => ih i c v h1 h2 (hn.imp (fun q => noML_get (by simpa [noM] using q) i c h1) id)
  | tup hl _ ih => exact .tup hl fun i c v h1 h2 => ih i c v h1 h2 (hn.imp (fun q => noML_get (by simpa [noM] using q) i c h1) id)
  | sl0 => exact .sl0
  | @sl φ xs b o cap e f he hRb hcap hl hc hr ih =>
    refine .sl f he hRb hcap hl (fun k hk => ?_) (fun i x j c h1 h2 => ih i x j c h1 h2 (.inr rfl))
    have hb : b ≠ r := by
      intro hb
      have := hc k hk
      rw [hb, cell_map hmap] at this
      cases this
    rw [← hc k hk]
    exact World.cell?_of_block (hw _ hb)
  | @vp φ cs b o f hRb hc hr ih =>
    refine .vp f hRb (fun k hk => ?_) (fun j c h1 => ih j c h1 (.inr rfl))
    have hb : b ≠ r := by
      intro hb
      have := hc k hk
      rw [hb, cell_map hmap] at this
      cases this
    rw [← hc k hk]
    exact World.cell?_of_block (hw _ hb)
  | ref hb => exact .ref hb
  | arr hb hl hc => exact .arr hb hl hc
  | arr0 hb => exact .arr0 hb
  | clo hf hc _ _ ih1 ih2 => exact .clo hf hc (fun i c v h1 h2 => ih1 i c v h1 h2 (hn.imp (fun q => noML_get (by simp [noM] at q; exact q.1) i c h1) id)) (fun i c v h1 h2 => ih2 i c v h1 h2 (hn.imp (fun q => noML_get (by simp [noM] at q; exact q.2) i c h1) id))
  | slx _ ih => exact .slx (ih (.inl rfl))
  | mpv hd hRb hc he =>
    rcases hn with hn | hn
    · simp [noM] at hn
    · rw [hn] at hd
      cases hd

/-- A new block that is only read. -/
theorem SRelX.growR {c : Ctx} {φ : Ph} {R : Nat → Prop} {s : St} {a : Act} {w : World} (h : SRelX c φ R s a w) (o : Obj) : SRelX c φ (fun n => R n ∨ n = w.heap.size) s a (w.alloc o) := by
  have hw : ∀ n, n < w.heap.size → (w.alloc o).heap[n]? = w.heap[n]? := (heap_alloc w o).2
  have hsz : (w.alloc o).heap.size = w.heap.size + 1 := by
    show (w.heap.push o).size = _
    simp
  have hwR : ∀ n, R n → (w.alloc o).heap[n]? = w.heap[n]? := fun n hn => hw n (h.Rb n hn)
  refine ⟨h.n, fun t av ht => (h.t t av ht).mono hwR (fun _ q => .inl q) (fun _ _ q => q), ⟨?_, h.m.inj, ?_⟩, h.dom, h.fresh, fun n hn => .inl (h.R0 n hn), ?_, ?_, ?_, h.d, h.keep⟩
  · intro b k hb
    obtain ⟨oh, ho, hr⟩ := h.m.rel b k hb
    refine ⟨oh, ho, ?_⟩
    cases oh with
    | none => exact hr
    | some x =>
      have hlt := h.lt hb ho
      obtain ⟨h1, h2, h3, h4, C, hC, hs, hel⟩ := hr
      refine ⟨h1, h2, h3, h4, C, by rw [hw _ hlt]; exact hC, hs, fun i y hy => ⟨(hel i y hy).1, fun j z hz => ?_⟩⟩
      obtain ⟨u, hu, hru⟩ := (hel i y hy).2 j z hz
      exact ⟨u, hu, hru.mono hwR (fun _ q => .inl q) (fun _ _ q => q)⟩
  · intro b k x hb hx hR
    rcases hR with hR | hR
    · exact h.m.notR b k x hb hx hR
    · have := h.lt hb hx
      omega
  · intro n hn
    rcases hn with hn | hn
    · exact h.Rn n hn
    · have := h.ext.size
      exact .inr (.inl (by omega))
  · intro n hn
    rcases hn with hn | hn
    · have := h.Rb n hn
      omega
    · omega
  · exact h.ext.trans (G' := fun _ => False) ⟨rfl, rfl, rfl, by omega, fun i hi _ => hw i hi⟩ (fun _ _ q => q.elim)

section
variable {P : Program} {o : Oper} {s : St}

/-- A new map. -/
theorem map_made {d t : Nat} (ho : o.op = .makeMap t none) (hfr : nwOK s [d] = true) {lim : Nat} (c : Ctx) (hc0 : c.w0.heap.size = lim) (a : Act) (w : World) (next : Act → World → Prop) (Q : Exit → Act → World → Prop) (hs : SRel c s a w)
    (hn : ∀ r a' w', lim ≤ r → SRel c ⟨s.n, (s.put o.dst (.mpv d r [])).t, (d, some ⟨0, 1, []⟩) :: s.m⟩ a' w' → next a' w') : o.wp P a w next Q := by
  obtain ⟨φ, R, hsx⟩ := hs
  have h1 := (hsx.growR (.map #[] 0)).addNil ⟨0, 1, []⟩ rfl (nwOK_spec hfr d (by simp))
  have hrun : (execOp a.eval o).run P w = .ok (.value (.map (some w.heap.size))) (w.alloc (.map #[] 0)) := by
    simp [execOp, ho, Instr.makeMap, Result.andThen]
  unfold Oper.wp
  rw [hrun]
  refine hn w.heap.size _ _ (by have := hsx.ext.size; omega) ⟨_, _, SRelX.app (s := s) (m := (d, some ⟨0, 1, []⟩) :: s.m) h1 o.dst ?_⟩
  exact .mpv (by simp [Ph.up]) (.inr rfl) (heap_alloc w _).1 rfl

theorem keys_str {E : Array MapEntry} {ks : List ByteArray} (he : E.toList.map (fun e => (e.key, e.val)) = ks.map fun k => (Value.string k, Value.bool true)) : ∀ x ∈ E.toList, ∃ k ∈ ks, x.key = .string k ∧ x.val = .bool true := by
  intro x hx
  have : (x.key, x.val) ∈ E.toList.map (fun e => (e.key, e.val)) := List.mem_map.2 ⟨x, hx, rfl⟩
  rw [he] at this
  obtain ⟨k, hk, h⟩ := List.mem_map.1 this
  exact ⟨k, hk, (congrArg Prod.fst h).symm, (congrArg Prod.snd h).symm⟩
theorem str_keys {E : Array MapEntry} {ks : List ByteArray} (he : E.toList.map (fun e => (e.key, e.val)) = ks.map fun k => (Value.string k, Value.bool true)) {k : ByteArray} (hk : k ∈ ks) : ∃ x ∈ E.toList, x.key = .string k := by
  have : (Value.string k, Value.bool true) ∈ ks.map fun k => (Value.string k, Value.bool true) := List.mem_map.2 ⟨k, hk, rfl⟩
  rw [← he] at this
  obtain ⟨x, hx, h⟩ := List.mem_map.1 this
  exact ⟨x, hx, (congrArg Prod.fst h)⟩
theorem find_str {E : Array MapEntry} {ks : List ByteArray} (he : E.toList.map (fun e => (e.key, e.val)) = ks.map fun k => (Value.string k, Value.bool true)) (k : ByteArray) :
    (inK k ks = false ∧ Instr.findNow .string (.string k) E.toList 0 = some none) ∨ (inK k ks = true ∧ ∃ j e, Instr.findNow .string (.string k) E.toList 0 = some (some (j, .bool true)) ∧ E[j]? = some e ∧ e.key = .string k ∧ e.val = .bool true) := by
  have hk := keys_str he
  rcases findNow_spec (d := .string) (k := .string k) (by simp [IsKey]) E.toList 0 (fun x hx => by obtain ⟨q, _, h, _⟩ := hk x hx; rw [h]; simp [IsKey]) with ⟨h1, h2⟩ | ⟨j, e, h1, h2, h3⟩
  · refine .inl ⟨?_, h1⟩
    cases hq : inK k ks with
    | false => rfl
    | true =>
      obtain ⟨x, hx, hxk⟩ := str_keys he (inK_iff.1 hq)
      exact absurd hxk (h2 x hx)
  · obtain ⟨q, hq, h4, h5⟩ := hk e (List.mem_of_getElem? h2)
    rw [h3] at h4
    cases h4
    refine .inr ⟨inK_iff.2 hq, j, e, ?_, by simpa using h2, h3, h5⟩
    rw [h1, Nat.zero_add, h5]

/-- Is a string a key of the map? -/
theorem as_lookup {t kt et d r : Nat} {x y : Operand} {ks : List ByteArray} {k : ByteArray} (ho : o.op = .lookup t x y false) (hu : P.underlying t = some (.map kt et)) (hkt : P.underlying kt = some .string) (hz0 : (P.info? et).bind (·.zero) = some (.bool false)) (hx : s.ev x = .mpv d r ks) (hy : s.ev y = .sc (.string k)) : AStep P o s ⟨.sc (.bool (inK k ks)), [], [], []⟩ := by
  obtain ⟨i, hi, hz⟩ := Option.bind_eq_some_iff.1 hz0
  intro s' _ hop _ _
  refine opok_val fun c φ R a w hs => ?_
  have h1 := hs.ev x
  rw [hop x (by simp [ho, Op.operands]), hx] at h1
  have h2 := hs.ev y
  rw [hop y (by simp [ho, Op.operands]), hy] at h2
  have h2 := h2.sc_inv
  generalize hq : a.eval x = q at h1
  cases h1 with
  | @mpv _ _ _ clk _ E hd hR hc he =>
    refine ⟨.bool (inK k ks), ?_, .sc rfl⟩
    have hz' : (zeroValue et).run P w = .ok (.bool false) w := by simp [zeroValue, typeInfo, hi, hz]
    rcases find_str he k with ⟨e1, e2⟩ | ⟨e1, j, e, e2, _, _, _⟩
    · simp [execOp, ho, hq, h2, Instr.lookup, run_underlying hu, MapKept.run_getObj_map (P := P) hc, run_checkKey hkt (show IsKey .string (.string k) by simp [IsKey]) E.isEmpty 9999, run_findKey hkt e2, hz', e1, Result.andThen]
    · simp [execOp, ho, hq, h2, Instr.lookup, run_underlying hu, MapKept.run_getObj_map (P := P) hc, run_checkKey hkt (show IsKey .string (.string k) by simp [IsKey]) E.isEmpty 9999, run_findKey hkt e2, e1, Result.andThen]

def updT (s : St) (d r : Nat) (ks ks' : List ByteArray) : List (Nat × AV) → Prop
  | [] => True
  | (q, av) :: l => ((s.get q = av ∧ noM av = true) ∨ (s.get q = .mpv d r ks ∧ av = .mpv d r ks')) ∧ updT s d r ks ks' l
theorem updT_get {s : St} {d r : Nat} {ks ks' : List ByteArray} : ∀ {l : List (Nat × AV)}, updT s d r ks ks' l → ∀ q av, lk q l = some av → (s.get q = av ∧ noM av = true) ∨ (s.get q = .mpv d r ks ∧ av = .mpv d r ks')
  | [], _, q, av, h => by simp [lk] at h
  | (q', av') :: l, hl, q, av, h => by
    rw [lk_cons] at h
    split at h
    · subst_vars
      cases h
      exact hl.1
    · exact updT_get hl.2 q av h
def updM : Mem → Bool
  | [] => true
  | (_, none) :: l => updM l
  | (_, some k) :: l => noML k.xs && updM l
theorem updM_get : ∀ {m : Mem}, updM m = true → ∀ b k, lk b m = some (some k) → noML k.xs = true
  | [], _, b, k, h => by simp [lk] at h
  | (b', none) :: l, hl, b, k, h => by
    rw [lk_cons] at h
    split at h
    · cases h
    · exact updM_get (m := l) hl b k h
  | (b', some k') :: l, hl, b, k, h => by
    rw [lk_cons] at h
    simp only [updM, Bool.and_eq_true] at hl
    split at h
    · cases h
      exact hl.1
    · exact updM_get (m := l) hl.2 b k h

theorem noM_cells {x : AV} (h : noM x = true) : noML x.cells = true := by
  cases x <;> simp_all [AV.cells, noM, noML]

/-- The whole state behind a map's update. -/
theorem SRelX.setMap {c : Ctx} {φ : Ph} {R : Nat → Prop} {a : Act} {w : World} {d r clk clk' : Nat} {ks ks' : List ByteArray} {E E' : Array MapEntry} {t' : List (Nat × AV)} (h : SRelX c φ R s a w) (hd : φ d = some none) (hR : R r) (hG : c.w0.heap.size ≤ r) (hc : w.heap[r]? = some (.map E clk)) (he' : E'.toList.map (fun e => (e.key, e.val)) = ks'.map fun k => (Value.string k, Value.bool true))
    (hT : updT s d r ks ks' t') (hM : updM s.m = true) : SRelX c φ R ⟨s.n, t', s.m⟩ a { w with heap := w.heap.setIfInBounds r (.map E' clk') } := by
  have hset := heap_set (o' := .map E' clk') hc
  have hlt := h.Rb r hR
  have hval : ∀ q, s.get q = .mpv d r ks → a.tmps.getD q undef = .map (some r) := by
    intro q hq
    have := h.get q
    rw [hq] at this
    generalize a.tmps.getD q undef = v at this
    cases this
    rfl
  refine ⟨h.n, fun q av hq => ?_, ⟨fun b k hb => ?_, h.m.inj, h.m.notR⟩, h.dom, h.fresh, h.R0, h.Rn, fun n hn => by simpa using h.Rb n hn, ?_, h.d, h.keep⟩
  · rcases updT_get hT q av hq with ⟨h1, h2⟩ | ⟨h1, h2⟩
    · have := h.get q
      rw [h1] at this
      exact this.setMap hc hset.2 (.inl h2)
    · subst h2
      rw [hval q h1]
      exact .mpv hd hR hset.1 he'
  · obtain ⟨oh, ho, hr⟩ := h.m.rel b k hb
    refine ⟨oh, ho, ?_⟩
    cases oh with
    | none => exact hr
    | some x =>
      have hne : x.blk ≠ r := fun e => h.m.notR b k x hb ho (e ▸ hR)
      obtain ⟨h1, h2, h3, h4, C, hC, hs, hel⟩ := hr
      refine ⟨h1, h2, h3, h4, C, by rw [← hC]; exact hset.2 _ hne, hs, fun i y hy => ⟨(hel i y hy).1, fun j z hz => ?_⟩⟩
      obtain ⟨u, hu, hru⟩ := (hel i y hy).2 j z hz
      exact ⟨u, hu, hru.setMap hc hset.2 (.inl (noML_get (noM_cells (noML_get (updM_get hM b k hb) i y hy)) j z hz))⟩
  · exact h.ext.trans (G' := fun i => i = r) ⟨rfl, rfl, rfl, by simp, fun i _ hi => hset.2 i hi⟩ (fun i hi e => by omega)

variable {lim : Nat}
theorem kv_modify {E : Array MapEntry} {j : Nat} {e : MapEntry} {k : Value} (hj : E[j]? = some e) (hk : e.key = k) (hv : e.val = .bool true) : (E.modify j fun e => { e with key := k, val := .bool true }).toList.map (fun e => (e.key, e.val)) = E.toList.map (fun e => (e.key, e.val)) := by
  apply List.ext_getElem?
  intro q
  simp only [List.getElem?_map, Array.getElem?_toList, Array.getElem?_modify]
  by_cases hq : j = q
  · subst hq
    rw [if_pos rfl, hj]
    simp [hk, hv]
  · rw [if_neg hq]

/-- A key is put into a map. -/
theorem op_mapUpdate {t kt et d r : Nat} {x y z : Operand} {ks : List ByteArray} {k : ByteArray} {t' : List (Nat × AV)} (hlim : lim ≤ r) (ho : o.op = .mapUpdate t x y z) (hdst : o.dst = none) (hu : P.underlying t = some (.map kt et)) (hkt : P.underlying kt = some .string) (hx : s.ev x = .mpv d r ks) (hy : s.ev y = .sc (.string k)) (hz : s.ev z = .sc (.bool true))
    (hT : updT s d r ks (addK ks k) t') (hM : updM s.m = true) (c : Ctx) (hc0 : c.w0.heap.size = lim) (a : Act) (w : World) (next : Act → World → Prop) (Q : Exit → Act → World → Prop) (hs : SRel c s a w) (hn : ∀ a' w', SRel c ⟨s.n, t', s.m⟩ a' w' → next a' w') : o.wp P a w next Q := by
  obtain ⟨φ, R, hsx⟩ := hs
  have h1 := hsx.ev x
  rw [hx] at h1
  have h2 := hsx.ev y
  rw [hy] at h2
  have h2 := h2.sc_inv
  have h3 := hsx.ev z
  rw [hz] at h3
  have h3 := h3.sc_inv
  generalize hq : a.eval x = q at h1
  cases h1 with
  | @mpv _ _ _ clk _ E hd hR hc he =>
    have hput : a.put o.dst undef = a := by rw [hdst]; rfl
    have hkey : IsKey .string (.string k) := by simp [IsKey]
    rcases find_str he k with ⟨e1, e2⟩ | ⟨e1, j, e, e2, e3, e4, e5⟩
    · have hrun : (execOp a.eval o).run P w = .ok .skip { w with heap := w.heap.setIfInBounds r (.map (E.push ⟨.string k, .bool true, clk⟩) (clk + 1)) } := by
        simp [execOp, ho, hq, h2, h3, Instr.mapUpdate, run_underlying hu, MapKept.run_getObj_map (P := P) hc, run_checkKey hkt hkey false 9999, run_findKey hkt e2, run_setObj_map _ hc, Result.andThen]
      unfold Oper.wp
      rw [hrun]
      refine hn _ _ ⟨φ, R, ?_⟩
      rw [hput]
      refine hsx.setMap hd hR (by omega) hc ?_ hT hM
      unfold addK
      rw [e1]
      simp [he]
    · have hrun : (execOp a.eval o).run P w = .ok .skip { w with heap := w.heap.setIfInBounds r (.map (E.modify j fun e => { e with key := .string k, val := .bool true }) clk) } := by
        simp [execOp, ho, hq, h2, h3, Instr.mapUpdate, run_underlying hu, MapKept.run_getObj_map (P := P) hc, run_checkKey hkt hkey false 9999, run_findKey hkt e2, e3, e4, run_keyThatStays hkey, run_setObj_map _ hc, Result.andThen]
      unfold Oper.wp
      rw [hrun]
      refine hn _ _ ⟨φ, R, ?_⟩
      rw [hput]
      refine hsx.setMap hd hR (by omega) hc ?_ hT hM
      unfold addK
      rw [e1, kv_modify e3 e4 e5]
      exact he

theorem wpOps_run2 {ops : Array Oper} {Q : Exit → Act → World → Prop} {c : Ctx} {K : St → Prop} {js : List Nat} (hK : ∀ s a w, K s → SRel c s a w → wpOps P ops Q js a w) : ∀ (l : List Item) (s : St) (a : Act) (w : World), (∀ x ∈ l, ops[x.i]? = some x.o) → Run P ops K l s → SRel c s a w → wpOps P ops Q (l.map (·.i) ++ js) a w
  | [], s, a, w, _, h, hs => hK s a w h hs
  | x :: l, s, a, w, hi, h, hs => by
    rw [List.map_cons, List.cons_append, wpOps_cons]
    exact wpOp_of_ok (hi x (by simp)) h.1 hs (fun a' w' hs' => wpOps_run2 hK l _ a' w' (fun y hy => hi y (by simp [hy])) h.2 hs')

theorem wpOp_one {ops : Array Oper} {Q : Exit → Act → World → Prop} {c : Ctx} {K : Act → World → Prop} {i : Nat} {a : Act} {w : World} (hi : ops[i]? = some o) (hg : o.guard = none) (hs : SRel c s a w) (h : o.wp P a w K Q) : wpOp P ops Q i K a w := by
  obtain ⟨φ, R, hsx⟩ := hs
  have hgc : gchk ops s o = some true := by simp [gchk, hg]
  unfold wpOp
  simp only [hi]
  rw [gchk_spec hsx hgc]
  simp only [if_true]
  exact .inl h

/-- A region whose first operation makes a map. -/
theorem awp_goE {ops : Array Oper} {id : Nat} {Q : Exit → St → Prop} {l : List Oper} {S : Nat → St} (hops : ops.toList = o :: l) (hg : o.guard = none)
    (hE : ∀ (c : Ctx) (_ : c.w0.heap.size = lim) (a : Act) (w : World) (next : Act → World → Prop) (Q : Exit → Act → World → Prop), SRel c s a w → (∀ r a' w', lim ≤ r → SRel c (S r) a' w' → next a' w') → o.wp P a w next Q)
    (h : ∀ r, lim ≤ r → Go P ops false (Q .normal) l (S r) []) : AWP P lim (.region id ops false) Q s := by
  intro c hc0 a w hs
  have hsz : ops.size = l.length + 1 := by rw [← Array.length_toList, hops]; rfl
  have hget : ∀ i, ops[i]? = (o :: l)[i]? := fun i => by rw [← hops, Array.getElem?_toList]
  refine wp_region ?_
  rw [hsz, List.range_succ_eq_map, wpOps_cons]
  refine wpOp_one (by rw [hget]; rfl) hg hs (hE c hc0 a w _ _ hs fun r a' w' hr hs' => ?_)
  obtain ⟨rr, h1, _, h3⟩ := h r hr
  obtain ⟨i1, i2⟩ := items_spec l rr 1 h1.symm
  have := wpOps_run2 (P := P) (js := []) (Q := fun e a' w' => ∃ s', SRel c s' a' w' ∧ Q e s') (K := Q .normal) (ops := ops) (c := c) (fun s a w hq hs => ⟨s, hs, hq⟩) (items 1 l rr) (S r) a' w' (fun x hx => by
    obtain ⟨g1, g2⟩ := i2 x hx
    rw [hget, show x.i = (x.i - 1) + 1 by omega, List.getElem?_cons_succ]
    simpa using g2) (h3 1) hs'
  rw [i1, List.append_nil] at this
  have e : (List.range l.length).map Nat.succ = (List.range l.length).map (1 + ·) := List.map_congr_left fun a _ => by omega
  rw [e]
  exact this

/-- A region whose last operation is given by itself. -/
theorem awp_goL {ops : Array Oper} {id : Nat} {Q : Exit → St → Prop} {l : List Oper} (hl0 : ops.toList.dropLast = l) (hl1 : ops.toList.getLast? = some o) (hg : o.guard = none)
    (h : Go P ops false (fun s1 => ∃ s2, (∀ (c : Ctx) (_ : c.w0.heap.size = lim) (a : Act) (w : World) (next : Act → World → Prop) (Q : Exit → Act → World → Prop), SRel c s1 a w → (∀ a' w', SRel c s2 a' w' → next a' w') → o.wp P a w next Q) ∧ Q .normal s2) l s []) : AWP P lim (.region id ops false) Q s := by
  have hops : ops.toList = l ++ [o] := by
    rw [← hl0]
    obtain ⟨ys, hy⟩ := List.getLast?_eq_some_iff.1 hl1
    rw [hy]
    simp
  intro c hc0 a w hs
  have hsz : ops.size = l.length + 1 := by rw [← Array.length_toList, hops]; simp
  have hget : ∀ i, ops[i]? = (l ++ [o])[i]? := fun i => by rw [← hops, Array.getElem?_toList]
  obtain ⟨rr, h1, _, h3⟩ := h
  obtain ⟨i1, i2⟩ := items_spec l rr 0 h1.symm
  refine wp_region ?_
  have := wpOps_run2 (P := P) (js := [l.length]) (Q := fun e a' w' => ∃ s', SRel c s' a' w' ∧ Q e s') (ops := ops) (c := c) (fun s1 a1 w1 hq hs1 => ?_) (items 0 l rr) s a w (fun x hx => by
    obtain ⟨g1, g2⟩ := i2 x hx
    rw [Nat.sub_zero] at g2
    rw [hget, List.getElem?_append_left (List.getElem?_eq_some_iff.1 g2).1]
    exact g2) (h3 0) hs
  · rw [i1] at this
    rw [hsz, List.range_succ]
    simpa using this
  · obtain ⟨s2, hop, hq2⟩ := hq
    rw [wpOps_cons]
    exact wpOp_one (by rw [hget]; simp) hg hs1 (hop c hc0 a1 w1 _ _ hs1 fun a' w' hs' => ⟨s2, hs', hq2⟩)

end
end Go.Ab
