/- The abstract layer, part 6: the builtins, and slices that are made. -/
import Derived.Test.YtpoehckffpbfiaaGreatXAAb5
namespace Go.Ab
open Go.RowKit
section
variable {P : Program} {o : Oper} {s : St}
def bcall (b : Builtin) (args : Array Operand) (tys : Array TypeId) : Op := .call { callee := .builtin b, args := args, argTypes := tys }
theorem run_bcall {b : Builtin} {args : Array Operand} {tys : Array TypeId} (ho : o.op = bcall b args tys) (a : Act) (w : World) :
  (execOp a.eval o).run P w = (builtin b tys o.type (args.map fun | .const _ => true | _ => false) (args.map a.eval)).run P w := by
 simp [execOp, ho, bcall, resolve, invoke]
 rfl
theorem mem_bcall {b : Builtin} {args : Array Operand} {tys : Array TypeId} (ho : o.op = bcall b args tys) : ∀ x ∈ args.toList, x ∈ o.op.operands.toList := by
 intro x hx
 simpa [ho, bcall, Op.operands, Call.operands] using hx
theorem str_und {t : Nat} {D : TyD} (h : tyOf P t = some D) (hk : D.k = .str) : P.underlying t = some .string := by
 obtain ⟨_, _, ud, _, _, hud, _, _, _, _, hk'⟩ := tyOf_facts h
 rw [hk] at hk'
 have : ud = .string := by cases ud <;> simp [kindOf] at hk' <;> rfl
 subst this
 exact hud
def lenAV : AV → Option Nat
 | .sl xs => some xs.length
 | .arr _ _ n => some n
 | .nilS => some 0
 | _ => none
theorem Rel.len {w : World} {R : Nat → Prop} {φ : Ph} {a : AV} {v : Value} {n : Nat} (h : Rel w R φ a v) (hn : lenAV a = some n) : ∃ ad cap, v = .slice ad n cap := by
 cases h <;> simp [lenAV] at hn <;> subst hn
 ·exact ⟨_, _, rfl⟩
 ·exact ⟨_, _, rfl⟩
 ·exact ⟨_, _, rfl⟩
 ·exact ⟨_, _, rfl⟩
 ·exact ⟨_, _, rfl⟩
theorem as_len {t e : Nat} {x : Operand} {D : TyD} {v : AV} {n : Nat} (ho : o.op = bcall .len #[x] #[t]) (h : tyOf P t = some D) (hk : D.k = .slice e) (hx : s.ev x = v) (hn : lenAV v = some n) : AStep P o s ⟨.sc (.int .i64 n), [], [], []⟩ := by
 intro s' _ hop _ _
 refine opok_val fun c φ R a w hs => ?_
 have h1 := hs.ev x
 rw [hop x (mem_bcall ho x (by simp)), hx] at h1
 obtain ⟨ad, cap, hv⟩ := h1.len hn
 exact ⟨.int .i64 n, by simp [run_bcall ho, builtin, Builtin.len_, hv, run_underlying (slice_und h hk), goInt], .sc rfl⟩
theorem as_len_str {t : Nat} {x : Operand} {D : TyD} {st : ByteArray} (ho : o.op = bcall .len #[x] #[t]) (h : tyOf P t = some D) (hk : D.k = .str) (hx : s.ev x = .sc (.string st)) : AStep P o s ⟨.sc (.int .i64 st.size), [], [], []⟩ := by
 intro s' _ hop _ _
 refine opok_val fun c φ R a w hs => ?_
 have h1 := hs.ev x
 rw [hop x (mem_bcall ho x (by simp)), hx] at h1
 have h1 := h1.sc_inv
 exact ⟨.int .i64 st.size, by simp [run_bcall ho, builtin, Builtin.len_, h1, run_underlying (str_und h hk), goInt], .sc rfl⟩
theorem as_len_array {t n e : Nat} {x : Operand} {D : TyD} (ho : o.op = bcall .len #[x] #[t]) (h : tyOf P t = some D) (hk : D.k = .array n e) : AStep P o s ⟨.sc (.int .i64 n), [], [], []⟩ := by
 intro s' _ hop _ _
 refine opok_val fun c φ R a w hs => ?_
 exact ⟨.int .i64 n, by simp [run_bcall ho, builtin, Builtin.len_, run_underlying (array_und h hk), goInt], .sc rfl⟩
theorem as_max {t : Array TypeId} {x y : Operand} {k : IntKind} {m n : Int} (ho : o.op = bcall .max #[x, y] t) (hx : s.ev x = .sc (.int k m)) (hy : s.ev y = .sc (.int k n)) : AStep P o s ⟨.sc (.int k (max m n)), [], [], []⟩ := by
 intro s' _ hop _ _
 refine opok_val fun c φ R a w hs => ?_
 have h1 := hs.ev x
 rw [hop x (mem_bcall ho x (by simp)), hx] at h1
 have h1 := h1.sc_inv
 have h2 := hs.ev y
 rw [hop y (mem_bcall ho y (by simp)), hy] at h2
 have h2 := h2.sc_inv
 have e : (if n > m then n else m) = max m n := by split <;> omega
 exact ⟨.int k (max m n), by simp [run_bcall ho, builtin, Builtin.max_, Builtin.max2, h1, h2, ← e], .sc rfl⟩
theorem as_min {t : Array TypeId} {x y : Operand} {k : IntKind} {m n : Int} (ho : o.op = bcall .min #[x, y] t) (hx : s.ev x = .sc (.int k m)) (hy : s.ev y = .sc (.int k n)) : AStep P o s ⟨.sc (.int k (min m n)), [], [], []⟩ := by
 intro s' _ hop _ _
 refine opok_val fun c φ R a w hs => ?_
 have h1 := hs.ev x
 rw [hop x (mem_bcall ho x (by simp)), hx] at h1
 have h1 := h1.sc_inv
 have h2 := hs.ev y
 rw [hop y (mem_bcall ho y (by simp)), hy] at h2
 have h2 := h2.sc_inv
 have e : (if n < m then n else m) = min m n := by split <;> omega
 exact ⟨.int k (min m n), by simp [run_bcall ho, builtin, Builtin.min_, Builtin.min2, h1, h2, ← e], .sc rfl⟩
theorem as_makeFunc {f : Nat} {fs cs : Array Operand} {l1 l2 : List AV} (ho : o.op = .makeFunc (.func f) fs cs) (h1 : fs.toList.map s.ev = l1) (h2 : cs.toList.map s.ev = l2) : AStep P o s ⟨.clo f l1 l2, [], [], []⟩ := by
 intro s' _ hop _ _
 refine opok_val fun c φ R a w hs => ⟨.func (.func f) (fs.map a.eval) (cs.map a.eval), by simp [execOp, ho, Instr.makeFunc], ?_⟩
 subst h1
 subst h2
 refine .clo (by simp) (by simp) (fun i c v hc hv => ?_) (fun i c v hc hv => ?_)
 ·simp only [List.getElem?_map, Array.getElem?_toList, Array.getElem?_map] at hc hv
  cases hq : fs[i]? with
  | none => simp [hq] at hc
  | some x =>
   simp [hq] at hc hv
   subst hc; subst hv
   have := hs.ev x
   rwa [hop x (by simp [ho, Op.operands]; exact .inl (Array.mem_of_getElem? hq))] at this
 ·simp only [List.getElem?_map, Array.getElem?_toList, Array.getElem?_map] at hc hv
  cases hq : cs[i]? with
  | none => simp [hq] at hc
  | some x =>
   simp [hq] at hc hv
   subst hc; subst hv
   have := hs.ev x
   rwa [hop x (by simp [ho, Op.operands]; exact .inr (Array.mem_of_getElem? hq))] at this
theorem SRelX.newArr {c : Ctx} {φ : Ph} {R : Nat → Prop} {a : Act} {w w' : World} (h : SRelX c φ R s a w) (d : Nat) (hfr : Fr s d) {T n cap : Nat} {C : Array Value} {xs : List AV} (hw : ∃ k, w' = { w.alloc (.cells C T) with drawn := k }) (hn : 0 < n) (hC : C.size = cap * n) (hcap : xs.length ≤ cap) (hmax : cap ≤ maxLen)
  (hr : ∀ (i : Nat) (x : AV), xs[i]? = some x → x.cells.length = n ∧ ∀ (j : Nat) (c : AV), x.cells[j]? = some c → ∃ u, C[i * n + j]? = some u ∧ Rel w R φ c u) :
  SRelX c (φ.up d (some ⟨w.heap.size, n, cap⟩)) R { s with m := (d, some ⟨T, n, xs⟩) :: s.m } a w' ∧ ∀ len, len ≤ cap → Rel w' R (φ.up d (some ⟨w.heap.size, n, cap⟩)) (.arr d 0 len) (.slice (some ⟨w.heap.size, 0, none⟩) len cap) := by
 obtain ⟨kd, rfl⟩ := hw
 have hφd : φ d = none := by
  cases hq : φ d with
  | none => rfl
  | some y => obtain ⟨z, hz⟩ := h.dom d y hq; rw [hfr.1] at hz; cases hz
 have hold : ∀ i, i < w.heap.size → ({ w.alloc (.cells C T) with drawn := kd } : World).heap[i]? = w.heap[i]? := fun i hi => heap_alloc_old w _ i hi
 refine ⟨h.add d hfr ⟨T, n, xs⟩ ⟨w.heap.size, n, cap⟩ ⟨rfl, rfl, rfl, by simp, fun i hi _ => hold i hi⟩ (Nat.le_refl _) ?_, fun len hl => ?_⟩
 ·refine ⟨rfl, hn, hcap, hmax, C, heap_alloc_new w _, hC, fun i x hx => ⟨(hr i x hx).1, fun j c hj => ?_⟩⟩
  obtain ⟨u, hu, hru⟩ := (hr i x hx).2 j c hj
  exact ⟨u, hu, hru.mono (fun n hn => hold n (h.Rb n hn)) (fun _ h => h) (Ph.up_mono _ hφd)⟩
 ·have := Rel.arr (w := { w.alloc (.cells C T) with drawn := kd }) (R := R) (φ := φ.up d (some ⟨w.heap.size, n, cap⟩)) (b := d) (off := 0) (len := len) (cap := cap) (h := ⟨w.heap.size, n, cap⟩) (by simp [Ph.up]) hl (by simp)
  simpa using this
theorem zeros_get (zero : Array Value) (n sz : Nat) (hz : zero.size = sz) (i j : Nat) (hi : i < n) (hj : j < sz) : ((Array.range (n * sz)).map (zero[· % zero.size]!))[i * sz + j]? = zero[j]? := by
 have h1 : i * sz + j < n * sz := row_in hi hj
 have h2 : (i * sz + j) % sz = j := by rw [Nat.add_comm, Nat.add_mul_mod_self_right, Nat.mod_eq_of_lt hj]
 simp [h1, hz, h2, hj]
theorem as_makeSlice {t e d : Nat} {x y : Operand} {D E : TyD} {k : IntKind} {n : Int} (ho : o.op = .makeSlice t x y) (h : tyOf P t = some D) (hk : D.k = .slice e) (hE : tyOf P e = some E) (hx : s.ev x = .sc (.int k n)) (hy : s.ev y = .sc (.int k n)) (hz : Nat.blt 0 E.size = true)
  (hn0 : 0 ≤ n) (hn : n ≤ 9223372036854775807) (hb : n * E.bytes ≤ 281474976710656) : AStep P o s ⟨.arr d 0 n.toNat, [(d, some ⟨e, E.size, List.replicate n.toNat E.zero⟩)], [], [d]⟩ := by
 intro s' _ hop _ hnw
 refine opok_run fun c φ R a w hs => ?_
 have h1 := hs.ev x
 rw [hop x (by simp [ho, Op.operands]), hx] at h1
 have h1 := h1.sc_inv
 have h2 := hs.ev y
 rw [hop y (by simp [ho, Op.operands]), hy] at h2
 have h2 := h2.sc_inv
 obtain ⟨i, z, u, hi, hzz, _, hsz, hby, hzero, hzs, _⟩ := tyOf_facts hE
 have hpos : 0 < E.size := by simpa using hz
 obtain ⟨N, rfl⟩ := Int.eq_ofNat_of_zero_le hn0
 have hw : IntKind.i64.wrap (N : Int) = N := by
  simp [IntKind.wrap, IntKind.signed, IntKind.bits]
  omega
 have hbb : ¬ ((E.bytes : Int) * (N : Int) > 281474976710656) := by rw [Int.mul_comm]; omega
 have hrun : (Instr.makeSlice t (.int k (N : Int)) (.int k (N : Int))).run P w = .ok (.slice (some ⟨w.heap.size, 0, none⟩) N N) (w.alloc (.cells ((Array.range (N * E.size)).map (z.cells[· % z.cells.size]!)) e)) := by
  simp only [Instr.makeSlice, Sem.run_bind, run_underlying (slice_und h hk), Result.andThen_ok, asInt, asIntOf, Sem.run_pure, typeInfo, run_program, hi, hby, hw]
  have hbb' : (decide ((N : Int) < 0) || decide ((E.bytes : Int) * (N : Int) > 2 ^ 48)) = false := by simp; omega
  simp only [hbb', Bool.false_or]
  have h0 : ((decide ((N : Int) < 0)) || decide ((N : Int) > (N : Int))) = false := by simp
  simp only [h0]
  simp [run_sizeOf hE]
  by_cases hN : N = 0
  ·subst hN
   have e0 : Array.range 0 = #[] := rfl
   simp [newRow, e0]
  ·have : N * E.size ≠ 0 := Nat.mul_ne_zero hN (by omega)
   simp [zeroValue, typeInfo, hi, hzz, newRow]
   intro h0
   exact absurd h0 this
 have hc := ofZero_cells w R φ z
 obtain ⟨g1, g2⟩ := hs.newArr d (hnw d (by simp)) (T := e) (n := E.size) (cap := N) (C := (Array.range (N * E.size)).map (z.cells[· % z.cells.size]!)) (xs := List.replicate N E.zero) ⟨w.drawn, rfl⟩ hpos (by simp) (by simp) (by simp only [maxLen]; omega) (fun i x hx => by
  obtain ⟨hil, rfl⟩ : i < N ∧ x = E.zero := by
   rw [List.getElem?_replicate] at hx
   split at hx
   ·exact ⟨‹_›, by simpa using hx.symm⟩
   ·cases hx
  rw [hzero]
  refine ⟨by rw [hc.1, hzs], fun j c' hj => ?_⟩
  have hjl : j < E.size := by rw [← hzs, ← hc.1]; exact (List.getElem?_eq_some_iff.1 hj).1
  refine ⟨z.cells[j]'(by omega), ?_, hc.2 j c' _ hj (by simp [hzs, hjl])⟩
  rw [zeros_get z.cells N E.size hzs i j hil hjl]
  simp [hzs, hjl])
 refine ⟨.slice (some ⟨w.heap.size, 0, none⟩) N N, w.alloc (.cells ((Array.range (N * E.size)).map (z.cells[· % z.cells.size]!)) e), φ.up d (some ⟨w.heap.size, E.size, N⟩), R, by simp [execOp, ho, h1, h2, hrun], ?_⟩
 exact SRelX.app g1 o.dst (by simpa using g2 N (Nat.le_refl _))
end
end Go.Ab
