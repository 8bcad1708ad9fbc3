/- The abstract layer, part 1: abstract values, states, and the relation to the model's worlds. -/
import Derived.Calls
import Derived.Below
import Derived.Laws.AppendOwn
namespace Go.Ab
open Go.RowKit
inductive AV where
 | bot
 | sc (v : Value)
 | nilS
 | agg (cs : List AV)
 | tup (cs : List AV)
 | sl (xs : List AV)
 | vp (cs : List AV)
 | ref (b i off : Nat)
 | arr (b off len : Nat)
 | clo (f : Nat) (first capt : List AV)
 | mpv (d r : Nat) (ks : List ByteArray)
 | slx (xs : List AV)
 deriving Inhabited
def AV.cells : AV → List AV
 | .agg cs => cs
 | v => [v]
def AV.cellish : AV → Bool
 | .bot | .agg _ | .tup _ => false
 | _ => true
def flat : Value → Bool
 | .bool _ | .int _ _ | .float _ _ | .complex _ _ _ | .string _ | .pointer none | .map none | .chan none | .nilFunc | .nilIface => true
 | _ => false
structure Blk where
 ty : Nat
 esz : Nat
 xs : List AV
structure St where
 n : Nat
 t : List (Nat × AV)
 m : List (Nat × Option Blk)
def lk {α : Type} : Nat → List (Nat × α) → Option α
 | _, [] => none
 | k, (j, v) :: l => match Nat.beq k j with
  | true => some v
  | false => lk k l
theorem lk_cons_self {α : Type} (k : Nat) (v : α) (l : List (Nat × α)) : lk k ((k, v) :: l) = some v := by simp [lk]
theorem lk_cons_ne {α : Type} {k j : Nat} (v : α) (l : List (Nat × α)) (h : k ≠ j) : lk k ((j, v) :: l) = lk k l := by
 have : Nat.beq k j = false := by
  cases hb : Nat.beq k j
  ·rfl
  ·exact absurd (Nat.eq_of_beq_eq_true hb) h
 simp [lk, this]
theorem lk_cons {α : Type} (k j : Nat) (v : α) (l : List (Nat × α)) : lk k ((j, v) :: l) = if k = j then some v else lk k l := by
 by_cases h : k = j
 ·subst h; simp [lk_cons_self]
 ·simp [h, lk_cons_ne]
theorem lk_append {α : Type} (k : Nat) (l l' : List (Nat × α)) : lk k (l ++ l') = (lk k l).or (lk k l') := by
 induction l with
 | nil => simp [lk]
 | cons p l ih =>
  obtain ⟨j, v⟩ := p
  simp only [List.cons_append, lk_cons, ih]
  split <;> simp
def St.get (s : St) (t : Nat) : AV := match lk t s.t with
 | some v => v
 | none => .bot
structure Home where
 blk : Nat
 esz : Nat
 cap : Nat
abbrev Ph := Nat → Option (Option Home)
def Ph.no : Ph := fun _ => none
inductive Rel (w : World) (R : Nat → Prop) : Ph → AV → Value → Prop where
 | bot {φ : Ph} {v : Value} : Rel w R φ .bot v
 | sc {φ : Ph} {v : Value} (h : flat v = true) : Rel w R φ (.sc v) v
 | nilS {φ : Ph} : Rel w R φ .nilS (.slice none 0 0)
 | agg {φ : Ph} {cs : List AV} {vs : Array Value} (hl : cs.length = vs.size) (h : ∀ (i : Nat) (c : AV) (v : Value), cs[i]? = some c → vs[i]? = some v → Rel w R φ c v) : Rel w R φ (.agg cs) (.agg vs)
 | tup {φ : Ph} {cs : List AV} {vs : Array Value} (hl : cs.length = vs.size) (h : ∀ (i : Nat) (c : AV) (v : Value), cs[i]? = some c → vs[i]? = some v → Rel w R φ c v) : Rel w R φ (.tup cs) (.tuple vs)
 | sl0 {φ : Ph} {a : Option Addr} {cap : Nat} : Rel w R φ (.sl []) (.slice a 0 cap)
 | sl {φ : Ph} {xs : List AV} {b o cap e : Nat} (f : Nat → Value) (he : 0 < e) (hR : R b) (hcap : xs.length ≤ cap)
   (hl : ∀ (i : Nat) (x : AV), xs[i]? = some x → x.cells.length = e) (hc : ∀ k, k < xs.length * e → w.cell? ⟨b, o + k, none⟩ = some (f k))
   (hr : ∀ (i : Nat) (x : AV) (j : Nat) (c : AV), xs[i]? = some x → x.cells[j]? = some c → Rel w R Ph.no c (f (i * e + j))) : Rel w R φ (.sl xs) (.slice (some ⟨b, o, none⟩) xs.length cap)
 | vp {φ : Ph} {cs : List AV} {b o : Nat} (f : Nat → Value) (hR : R b) (hc : ∀ k, k < cs.length → w.cell? ⟨b, o + k, none⟩ = some (f k))
   (hr : ∀ (j : Nat) (c : AV), cs[j]? = some c → Rel w R Ph.no c (f j)) : Rel w R φ (.vp cs) (.pointer (some ⟨b, o, none⟩))
 | ref {φ : Ph} {b i off : Nat} {h : Home} (hb : φ b = some (some h)) : Rel w R φ (.ref b i off) (.pointer (some ⟨h.blk, i * h.esz + off, none⟩))
 | arr {φ : Ph} {b off len cap : Nat} {h : Home} (hb : φ b = some (some h)) (hl : len ≤ cap) (hc : off + cap = h.cap) : Rel w R φ (.arr b off len) (.slice (some ⟨h.blk, off * h.esz, none⟩) len cap)
 | arr0 {φ : Ph} {b : Nat} (hb : φ b = some none) : Rel w R φ (.arr b 0 0) (.slice none 0 0)
 | clo {φ : Ph} {f : Nat} {fs cs : List AV} {fv cv : Array Value} (hf : fs.length = fv.size) (hc : cs.length = cv.size)
   (h1 : ∀ (i : Nat) (c : AV) (v : Value), fs[i]? = some c → fv[i]? = some v → Rel w R φ c v) (h2 : ∀ (i : Nat) (c : AV) (v : Value), cs[i]? = some c → cv[i]? = some v → Rel w R φ c v) : Rel w R φ (.clo f fs cs) (.func (.func f) fv cv)
 | mpv {φ : Ph} {d r clk : Nat} {ks : List ByteArray} {E : Array MapEntry} (hd : φ d = some none) (hR : R r) (hc : w.heap[r]? = some (.map E clk)) (he : E.toList.map (fun e => (e.key, e.val)) = ks.map fun k => (Value.string k, Value.bool true)) : Rel w R φ (.mpv d r ks) (.map (some r))
 | slx {φ : Ph} {xs : List AV} {a : Option Addr} {n : Nat} (h : Rel w R φ (.sl xs) (.slice a n n)) : Rel w R φ (.slx xs) (.slice a n n)
theorem Rel.mono {w w' : World} {R R' : Nat → Prop} {φ φ' : Ph} {a : AV} {v : Value} (h : Rel w R φ a v)
  (hw : ∀ n, R n → w'.heap[n]? = w.heap[n]?) (hR : ∀ n, R n → R' n) (hφ : ∀ b x, φ b = some x → φ' b = some x) : Rel w' R' φ' a v := by
 induction h generalizing φ' with
 | bot => exact .bot
 | sc h => exact .sc h
 | nilS => exact .nilS
 | agg hl _ ih => exact .agg hl fun i c v h1 h2 => ih i c v h1 h2 hφ
 | tup hl _ ih => exact .tup hl fun i c v h1 h2 => ih i c v h1 h2 hφ
 | sl0 => exact .sl0
 | @sl φ xs b o cap e f he hRb hcap hl hc hr ih =>
  refine .sl f he (hR _ hRb) hcap hl (fun k hk => ?_) (fun i x j c h1 h2 => ih i x j c h1 h2 (fun _ _ h => h))
  rw [← hc k hk]
  exact World.cell?_of_block (hw _ hRb)
 | @vp φ cs b o f hRb hc hr ih =>
  refine .vp f (hR _ hRb) (fun k hk => ?_) (fun j c h1 => ih j c h1 (fun _ _ h => h))
  rw [← hc k hk]
  exact World.cell?_of_block (hw _ hRb)
 | ref hb => exact .ref (hφ _ _ hb)
 | arr hb hl hc => exact .arr (hφ _ _ hb) hl hc
 | arr0 hb => exact .arr0 (hφ _ _ hb)
 | clo hf hc _ _ ih1 ih2 => exact .clo hf hc (fun i c v h1 h2 => ih1 i c v h1 h2 hφ) (fun i c v h1 h2 => ih2 i c v h1 h2 hφ)
 | mpv hd hRb hc he => exact .mpv (hφ _ _ hd) (hR _ hRb) ((hw _ hRb).trans hc) he
 | slx _ ih => exact .slx (ih hφ)
theorem Rel.cells {w : World} {R : Nat → Prop} {φ : Ph} {a : AV} {v : Value} (h : Rel w R φ a v) (hne : a ≠ .bot) :
  a.cells.length = v.cells.size ∧ ∀ (i : Nat) (c : AV) (u : Value), a.cells[i]? = some c → v.cells[i]? = some u → Rel w R φ c u := by
 have one : ∀ {a : AV} {v : Value}, Rel w R φ a v → a.cells = [a] → v.cells = #[v] → a.cells.length = v.cells.size ∧ ∀ (i : Nat) (c : AV) (u : Value), a.cells[i]? = some c → v.cells[i]? = some u → Rel w R φ c u := by
  intro a v h h1 h2
  rw [h1, h2]
  refine ⟨rfl, fun i c u hc hu => ?_⟩
  cases i with
  | zero => simp at hc hu; subst hc; subst hu; exact h
  | succ i => simp at hc
 cases h with
 | bot => exact absurd rfl hne
 | agg hl h => exact ⟨hl, h⟩
 | sc hf => exact one (.sc hf) rfl (by cases v <;> simp_all [flat, Value.cells])
 | nilS => exact one .nilS rfl rfl
 | tup hl h => exact one (.tup hl h) rfl rfl
 | sl0 => exact one .sl0 rfl rfl
 | sl f he hR hcap hl hc hr => exact one (.sl f he hR hcap hl hc hr) rfl rfl
 | vp f hR hc hr => exact one (.vp f hR hc hr) rfl rfl
 | ref hb => exact one (.ref hb) rfl rfl
 | arr hb hl hc => exact one (.arr hb hl hc) rfl rfl
 | arr0 hb => exact one (.arr0 hb) rfl rfl
 | clo hf hc h1 h2 => exact one (.clo hf hc h1 h2) rfl rfl
 | mpv hd hR hc he => exact one (.mpv hd hR hc he) rfl rfl
 | slx h => exact one (.slx h) rfl rfl
theorem Rel.oneCell {w : World} {R : Nat → Prop} {φ : Ph} {a : AV} {v : Value} (h : Rel w R φ a v) (hc : a.cellish = true) : v.oneCell' = true := by
 cases h <;> simp_all [AV.cellish, Value.oneCell']
 rename_i hf
 cases v <;> simp_all [flat]
def BlkRel (w : World) (R : Nat → Prop) (φ : Ph) (oh : Option Home) (k : Blk) : Prop :=
 match oh with
 | none => k.xs = []
 | some h => k.esz = h.esz ∧ 0 < h.esz ∧ k.xs.length ≤ h.cap ∧ h.cap ≤ maxLen ∧ ∃ C, w.heap[h.blk]? = some (.cells C k.ty (0, 0)) ∧ C.size = h.cap * h.esz ∧
   ∀ (i : Nat) (x : AV), k.xs[i]? = some x → x.cells.length = h.esz ∧ ∀ (j : Nat) (c : AV), x.cells[j]? = some c → ∃ u, C[i * h.esz + j]? = some u ∧ Rel w R φ c u
structure MemOK (w : World) (R : Nat → Prop) (φ : Ph) (m : List (Nat × Option Blk)) : Prop where
 rel : ∀ b k, lk b m = some (some k) → ∃ oh, φ b = some oh ∧ BlkRel w R φ oh k
 inj : ∀ b b' k k' h h', lk b m = some (some k) → lk b' m = some (some k') → φ b = some (some h) → φ b' = some (some h') → h.blk = h'.blk → b = b'
 notR : ∀ b k h, lk b m = some (some k) → φ b = some (some h) → ¬ R h.blk
def blksOf (φ : Ph) (m : List (Nat × Option Blk)) (n : Nat) : Prop := ∃ b k h, lk b m = some (some k) ∧ φ b = some (some h) ∧ h.blk = n
structure Ext (w w' : World) (G : Nat → Prop) : Prop where
 os : w'.os = w.os
 tape : w'.tape = w.tape
 output : w'.output = w.output
 size : w.heap.size ≤ w'.heap.size
 block : ∀ i, i < w.heap.size → ¬ G i → w'.heap[i]? = w.heap[i]?
theorem Ext.refl (w : World) (G : Nat → Prop) : Ext w w G := ⟨rfl, rfl, rfl, Nat.le_refl _, fun _ _ _ => rfl⟩
theorem Ext.trans {a b c : World} {G G' : Nat → Prop} (h : Ext a b G) (k : Ext b c G') (hG : ∀ i, i < a.heap.size → G' i → G i) : Ext a c G :=
 ⟨k.os.trans h.os, k.tape.trans h.tape, k.output.trans h.output, Nat.le_trans h.size k.size, fun i hi hn =>
  (k.block i (Nat.lt_of_lt_of_le hi h.size) (fun hg => hn (hG i hi hg))).trans (h.block i hi hn)⟩
theorem Ext.below {w w' : World} {G : Nat → Prop} (h : Ext w w' G) (hG : ∀ i, ¬ G i) : Below w.heap.size w w' :=
 ⟨h.os, h.tape, h.output, h.size, fun k hk => h.block k hk (hG k)⟩
structure Ctx where
 w0 : World
 G : Nat → Prop
 R0 : Nat → Prop
 φ0 : Ph
structure SRelX (c : Ctx) (φ : Ph) (R : Nat → Prop) (s : St) (a : Act) (w : World) : Prop where
 n : a.tmps.size = s.n
 t : ∀ t av, lk t s.t = some av → Rel w R φ av (a.tmps.getD t undef)
 m : MemOK w R φ s.m
 dom : ∀ b x, φ b = some x → ∃ y, lk b s.m = some y
 fresh : ∀ b k h, lk b s.m = some (some k) → φ b = some (some h) → c.w0.heap.size ≤ h.blk ∨ c.G h.blk
 R0 : ∀ n, c.R0 n → R n
 Rn : ∀ n, R n → c.R0 n ∨ c.w0.heap.size ≤ n ∨ c.G n
 Rb : ∀ n, R n → n < w.heap.size
 ext : Ext c.w0 w c.G
 d : a.defers = []
 keep : ∀ b, 1000 ≤ b → φ b = none ∨ φ b = c.φ0 b
def Fr (s : St) (d : Nat) : Prop := lk d s.m = none ∧ d < 1000
def SRel (c : Ctx) (s : St) (a : Act) (w : World) : Prop := ∃ φ R, SRelX c φ R s a w
theorem SRelX.get {c : Ctx} {φ : Ph} {R : Nat → Prop} {s : St} {a : Act} {w : World} (h : SRelX c φ R s a w) (t : Nat) : Rel w R φ (s.get t) (a.tmps.getD t undef) := by
 unfold St.get
 split
 ·rename_i v hv; exact h.t _ _ hv
 ·exact .bot
def ofConst : Value → AV
 | .slice none 0 0 => .nilS
 | v => match flat v with
  | true => .sc v
  | false => .bot
theorem ofConst_rel {w : World} {R : Nat → Prop} {φ : Ph} (v : Value) : Rel w R φ (ofConst v) v := by
 unfold ofConst
 split
 ·exact .nilS
 ·split
  ·rename_i h; exact .sc h
  ·exact .bot
def St.ev (s : St) : Operand → AV
 | .tmp t => s.get t
 | .const v => ofConst v
 | .global _ => .bot
 | .func f => .clo f [] []
theorem SRelX.ev {c : Ctx} {φ : Ph} {R : Nat → Prop} {s : St} {a : Act} {w : World} (h : SRelX c φ R s a w) (x : Operand) : Rel w R φ (s.ev x) (a.eval x) := by
 cases x with
 | tmp t => exact h.get t
 | const v => exact ofConst_rel v
 | global g => exact .bot
 | func f => exact .clo rfl rfl (by simp) (by simp)
def St.put (s : St) (dst : Option Nat) (v : AV) : St :=
 match dst with
 | none => s
 | some d => match Nat.blt d s.n with
  | true => { s with t := (d, v) :: s.t }
  | false => s
@[simp] theorem St.put_m (s : St) (dst : Option Nat) (v : AV) : (s.put dst v).m = s.m := by
 unfold St.put; split
 ·rfl
 ·split <;> rfl
@[simp] theorem St.put_n (s : St) (dst : Option Nat) (v : AV) : (s.put dst v).n = s.n := by
 unfold St.put; split
 ·rfl
 ·split <;> rfl
theorem St.put_t {s : St} {a : Act} {dst : Option Nat} {v : AV} {u : Value} {w : World} {R : Nat → Prop} {φ : Ph} (hn : a.tmps.size = s.n)
  (ht : ∀ t av, lk t s.t = some av → Rel w R φ av (a.tmps.getD t undef)) (hv : Rel w R φ v u) :
  ∀ t av, lk t (s.put dst v).t = some av → Rel w R φ av ((a.put dst u).tmps.getD t undef) := by
 intro t av h
 unfold St.put at h
 cases dst with
 | none => simpa [Act.put] using ht t av h
 | some d =>
  simp only [Act.put]
  by_cases hd : d < s.n
  ·have hb : Nat.blt d s.n = true := by simpa [Nat.blt_eq] using hd
   simp only [hb] at h
   rw [lk_cons] at h
   by_cases e : t = d
   ·subst e
    simp at h
    subst h
    simp [Array.getD_eq_getD_getElem?, hn, hd]
    exact hv
   ·simp [e] at h
    have := ht t av h
    simpa [Array.getD_eq_getD_getElem?, Array.getElem?_setIfInBounds, Ne.symm e] using this
  ·have hb : Nat.blt d s.n = false := by
    cases hx : Nat.blt d s.n
    ·rfl
    ·exact absurd (by simpa [Nat.blt_eq] using hx) hd
   simp only [hb] at h
   have := ht t av h
   have e : a.tmps.setIfInBounds d u = a.tmps := by
    apply Array.ext (by simp)
    intro i h1 h2
    rw [Array.getElem_setIfInBounds]
    split
    ·subst_vars; omega
    ·rfl
   simpa [e] using this
@[simp] theorem put_size (a : Act) (dst : Option Nat) (v : Value) : (a.put dst v).tmps.size = a.tmps.size := by cases dst <;> simp [Act.put]
@[simp] theorem put_defers (a : Act) (dst : Option Nat) (v : Value) : (a.put dst v).defers = a.defers := by cases dst <;> simp [Act.put]
theorem SRelX.put {c : Ctx} {φ : Ph} {R : Nat → Prop} {s : St} {a : Act} {w : World} (h : SRelX c φ R s a w) (dst : Option Nat) {v : AV} {u : Value} (hv : Rel w R φ v u) :
  SRelX c φ R (s.put dst v) (a.put dst u) w :=
 ⟨by simp [h.n], St.put_t h.n h.t hv, by simpa using h.m, by simpa using h.dom, by simpa using h.fresh, h.R0, h.Rn, h.Rb, h.ext, by simp [h.d], h.keep⟩
end Go.Ab
