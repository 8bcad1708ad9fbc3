/- The abstract layer, part 2: what one operation does; memory steps. -/
import Derived.Test.YtpoehckffpbfiaaGreatXAAb1
import Derived.Laws.Tables
import Derived.Laws.CopyRow
import Derived.Laws.Append
namespace Go.Ab
open Go.RowKit
structure Eff where
 v : AV
 wr : List (Nat × Option Blk)
 acc : List Nat
 nw : List Nat
def St.app (s : St) (dst : Option Nat) (e : Eff) : St := { n := s.n, t := (s.put dst e.v).t, m := e.wr ++ s.m }
def OpOK (P : Program) (o : Oper) (s s' : St) : Prop :=
 ∀ (c : Ctx) (a : Act) (w : World) (next : Act → World → Prop) (Q : Exit → Act → World → Prop), SRel c s a w → (∀ a' w', SRel c s' a' w' → next a' w') → o.wp P a w next Q
def AStep (P : Program) (o : Oper) (s : St) (e : Eff) : Prop :=
 ∀ s' : St, s'.n = s.n → (∀ x ∈ o.op.operands.toList, s'.ev x = s.ev x) → (∀ b ∈ e.acc, lk b s'.m = lk b s.m) → (∀ b ∈ e.nw, Fr s' b) → OpOK P o s' (s'.app o.dst e)
theorem opok_run {P : Program} {o : Oper} {s s' : St}
  (h : ∀ c φ R a w, SRelX c φ R s a w → ∃ v w' φ' R', (execOp a.eval o).run P w = .ok (.value v) w' ∧ SRelX c φ' R' s' (a.put o.dst v) w') : OpOK P o s s' := by
 intro c a w next Q ⟨φ, R, hs⟩ hn
 obtain ⟨v, w', φ', R', hr, hs'⟩ := h c φ R a w hs
 unfold Oper.wp
 rw [hr]
 exact hn _ _ ⟨φ', R', hs'⟩
theorem opok_skip {P : Program} {o : Oper} {s s' : St}
  (h : ∀ c φ R a w, SRelX c φ R s a w → ∃ w' φ' R', (execOp a.eval o).run P w = .ok .skip w' ∧ SRelX c φ' R' s' (a.put o.dst undef) w') : OpOK P o s s' := by
 intro c a w next Q ⟨φ, R, hs⟩ hn
 obtain ⟨w', φ', R', hr, hs'⟩ := h c φ R a w hs
 unfold Oper.wp
 rw [hr]
 exact hn _ _ ⟨φ', R', hs'⟩
def Ph.up (φ : Ph) (d : Nat) (x : Option Home) : Ph := fun b => if b = d then some x else φ b
theorem Ph.up_mono {φ : Ph} {d : Nat} (x : Option Home) (h : φ d = none) : ∀ b y, φ b = some y → φ.up d x b = some y := by
 intro b y hb
 unfold Ph.up
 split
 ·subst_vars; rw [h] at hb; cases hb
 ·exact hb
theorem SRelX.lt {c : Ctx} {φ : Ph} {R : Nat → Prop} {s : St} {a : Act} {w : World} (h : SRelX c φ R s a w) {b : Nat} {k : Blk} {x : Home} (hb : lk b s.m = some (some k)) (hx : φ b = some (some x)) : x.blk < w.heap.size := by
 obtain ⟨oh, ho, hr⟩ := h.m.rel b k hb
 rw [hx] at ho
 cases ho
 obtain ⟨_, _, _, _, C, hC, _⟩ := hr
 exact (Array.getElem?_eq_some_iff.1 hC).1
theorem BlkRel.mono {w w' : World} {R : Nat → Prop} {φ φ' : Ph} {oh : Option Home} {k : Blk} (h : BlkRel w R φ oh k) (hw : ∀ n, R n → w'.heap[n]? = w.heap[n]?)
  (hb : ∀ x, oh = some x → w'.heap[x.blk]? = w.heap[x.blk]?) (hφ : ∀ b x, φ b = some x → φ' b = some x) : BlkRel w' R φ' oh k := by
 cases oh with
 | none => exact h
 | some x =>
  obtain ⟨h1, h2, h3, h4, C, hC, hs, hr⟩ := h
  refine ⟨h1, h2, h3, h4, C, by rw [hb x rfl]; exact hC, hs, fun i y hy => ⟨(hr i y hy).1, fun j z hz => ?_⟩⟩
  obtain ⟨u, hu, hru⟩ := (hr i y hy).2 j z hz
  exact ⟨u, hu, hru.mono hw (fun _ h => h) hφ⟩
theorem SRelX.add {c : Ctx} {φ : Ph} {R : Nat → Prop} {s : St} {a : Act} {w w' : World} (h : SRelX c φ R s a w) (d : Nat) (hfr : Fr s d) (k : Blk) (x : Home)
  (he : Ext w w' (fun _ => False)) (hx : w.heap.size ≤ x.blk) (hk : BlkRel w' R (φ.up d (some x)) (some x) k) :
  SRelX c (φ.up d (some x)) R { s with m := (d, some k) :: s.m } a w' := by
 obtain ⟨hd, hd1⟩ := hfr
 have hφd : φ d = none := by
  cases hq : φ d with
  | none => rfl
  | some y => obtain ⟨z, hz⟩ := h.dom d y hq; rw [hd] at hz; cases hz
 have hup := Ph.up_mono (φ := φ) (d := d) (some x) hφd
 have hw : ∀ n, R n → w'.heap[n]? = w.heap[n]? := fun n hn => he.block n (h.Rb n hn) (by simp)
 have hself : φ.up d (some x) d = some (some x) := by simp [Ph.up]
 have hother : ∀ b, b ≠ d → φ.up d (some x) b = φ b := fun b hb => by simp [Ph.up, hb]
 refine ⟨h.n, fun t av ht => (h.t t av ht).mono hw (fun _ h => h) hup, ⟨?_, ?_, ?_⟩, ?_, ?_, h.R0, h.Rn, fun n hn => Nat.lt_of_lt_of_le (h.Rb n hn) he.size, h.ext.trans he (fun _ _ hf => hf.elim), h.d, fun b hb => by rw [hother b (by omega)]; exact h.keep b hb⟩
 ·intro b kk hb
  rw [lk_cons] at hb
  split at hb
  ·subst_vars; cases hb; exact ⟨_, hself, hk⟩
  ·rename_i hne
   obtain ⟨oh, ho, hr⟩ := h.m.rel b kk hb
   refine ⟨oh, by rw [hother b hne]; exact ho, hr.mono hw (fun y hy => ?_) hup⟩
   subst hy
   exact he.block _ (h.lt hb ho) (by simp)
 ·intro b b' k1 k2 y y' hb hb' hy hy' heq
  rw [lk_cons] at hb hb'
  by_cases e : b = d
  ·by_cases e' : b' = d
   ·rw [e, e']
   ·exfalso
    subst e
    rw [if_neg e'] at hb'
    rw [hself] at hy; cases hy
    rw [hother _ e'] at hy'
    have := h.lt hb' hy'
    omega
  ·by_cases e' : b' = d
   ·exfalso
    subst e'
    rw [if_neg e] at hb
    rw [hself] at hy'; cases hy'
    rw [hother _ e] at hy
    have := h.lt hb hy
    omega
   ·rw [if_neg e] at hb; rw [if_neg e'] at hb'
    rw [hother _ e] at hy; rw [hother _ e'] at hy'
    exact h.m.inj b b' k1 k2 y y' hb hb' hy hy' heq
 ·intro b k1 y hb hy
  rw [lk_cons] at hb
  by_cases e : b = d
  ·subst e
   rw [hself] at hy; cases hy
   intro hR
   have := h.Rb _ hR
   omega
  ·rw [if_neg e] at hb
   rw [hother _ e] at hy
   exact h.m.notR b k1 y hb hy
 ·intro b y hy
  by_cases e : b = d
  ·exact ⟨some k, by rw [lk_cons, if_pos e]⟩
  ·rw [hother _ e] at hy
   obtain ⟨z, hz⟩ := h.dom b y hy
   exact ⟨z, by rw [lk_cons, if_neg e]; exact hz⟩
 ·intro b k1 y hb hy
  rw [lk_cons] at hb
  by_cases e : b = d
  ·subst e
   rw [hself] at hy; cases hy
   exact .inl (Nat.le_trans h.ext.size hx)
  ·rw [if_neg e] at hb
   rw [hother _ e] at hy
   exact h.fresh b k1 y hb hy
theorem SRelX.write {c : Ctx} {φ : Ph} {R : Nat → Prop} {s : St} {a : Act} {w : World} (h : SRelX c φ R s a w) {b : Nat} {k k' : Blk} {x : Home} (hb : lk b s.m = some (some k)) (hx : φ b = some (some x))
  (C' : Array Value) (hk : BlkRel (w.setRow x.blk C') R φ (some x) k') : SRelX c φ R { s with m := (b, some k') :: s.m } a (w.setRow x.blk C') := by
 have hother : ∀ n, n ≠ x.blk → (w.setRow x.blk C').heap[n]? = w.heap[n]? := fun n hn => setRow_other w x.blk n C' hn
 have hnR := h.m.notR b k x hb hx
 have hw : ∀ n, R n → (w.setRow x.blk C').heap[n]? = w.heap[n]? := fun n hn => hother n (fun e => hnR (e ▸ hn))
 refine ⟨h.n, fun t av ht => (h.t t av ht).mono hw (fun _ h => h) (fun _ _ h => h), ⟨?_, ?_, ?_⟩, ?_, ?_, h.R0, h.Rn, fun n hn => by simpa using h.Rb n hn, ?_, h.d, h.keep⟩
 ·intro b1 k1 h1
  rw [lk_cons] at h1
  split at h1
  ·subst_vars; cases h1; exact ⟨_, hx, hk⟩
  ·rename_i hne
   obtain ⟨oh, ho, hr⟩ := h.m.rel b1 k1 h1
   refine ⟨oh, ho, hr.mono hw (fun y hy => hother _ (fun e => hne ?_)) (fun _ _ h => h)⟩
   subst hy
   exact h.m.inj b1 b k1 k y x h1 hb ho hx e
 ·intro b1 b2 k1 k2 y1 y2 h1 h2 e1 e2 heq
  have f : ∀ b1 k1, lk b1 ((b, some k') :: s.m) = some (some k1) → ∃ k0, lk b1 s.m = some (some k0) := by
   intro b1 k1 h1
   rw [lk_cons] at h1
   split at h1
   ·subst_vars; exact ⟨k, hb⟩
   ·exact ⟨k1, h1⟩
  obtain ⟨q1, g1⟩ := f b1 k1 h1
  obtain ⟨q2, g2⟩ := f b2 k2 h2
  exact h.m.inj b1 b2 q1 q2 y1 y2 g1 g2 e1 e2 heq
 ·intro b1 k1 y h1 e1
  rw [lk_cons] at h1
  split at h1
  ·subst_vars; exact h.m.notR _ k y hb e1
  ·exact h.m.notR b1 k1 y h1 e1
 ·intro b1 y hy
  obtain ⟨z, hz⟩ := h.dom b1 y hy
  rw [lk_cons]
  split
  ·exact ⟨_, rfl⟩
  ·exact ⟨z, hz⟩
 ·intro b1 k1 y h1 e1
  rw [lk_cons] at h1
  split at h1
  ·subst_vars; exact h.fresh _ k y hb e1
  ·exact h.fresh b1 k1 y h1 e1
 ·refine h.ext.trans (G' := fun i => i = x.blk) ⟨rfl, rfl, rfl, by simp, fun i _ hi => hother i hi⟩ (fun i hi e => ?_)
  rcases h.fresh b k x hb hx with hf | hf
  ·omega
  ·rw [e]; exact hf
theorem SRelX.kill {c : Ctx} {φ : Ph} {R : Nat → Prop} {s : St} {a : Act} {w : World} (h : SRelX c φ R s a w) (b : Nat) : SRelX c φ R { s with m := (b, none) :: s.m } a w := by
 have f : ∀ b1 k1, lk b1 ((b, none) :: s.m) = some (some k1) → lk b1 s.m = some (some k1) := by
  intro b1 k1 h1
  rw [lk_cons] at h1
  split at h1
  ·cases h1
  ·exact h1
 refine ⟨h.n, h.t, ⟨fun b1 k1 h1 => h.m.rel b1 k1 (f _ _ h1), fun b1 b2 k1 k2 y1 y2 h1 h2 => h.m.inj b1 b2 k1 k2 y1 y2 (f _ _ h1) (f _ _ h2), fun b1 k1 y h1 => h.m.notR b1 k1 y (f _ _ h1)⟩, ?_, fun b1 k1 y h1 => h.fresh b1 k1 y (f _ _ h1), h.R0, h.Rn, h.Rb, h.ext, h.d, h.keep⟩
 intro b1 y hy
 obtain ⟨z, hz⟩ := h.dom b1 y hy
 rw [lk_cons]
 split
 ·exact ⟨_, rfl⟩
 ·exact ⟨z, hz⟩
theorem SRelX.app {c : Ctx} {φ : Ph} {R : Nat → Prop} {s : St} {a : Act} {w : World} {m : List (Nat × Option Blk)} (h : SRelX c φ R { s with m := m } a w) (dst : Option Nat) {v : AV} {u : Value} (hv : Rel w R φ v u) :
  SRelX c φ R { n := s.n, t := (s.put dst v).t, m := m } (a.put dst u) w := by
 have := h.put dst hv
 have e : (St.put { s with m := m } dst v).t = (s.put dst v).t := by
  unfold St.put
  cases dst with
  | none => rfl
  | some d => dsimp only; cases Nat.blt d s.n <;> rfl
 exact ⟨by simpa using this.n, by rw [← e]; exact this.t, by simpa using this.m, by simpa using this.dom, by simpa using this.fresh, this.R0, this.Rn, this.Rb, this.ext, this.d, this.keep⟩
theorem opok_val {P : Program} {o : Oper} {s : St} {v : AV} {acc : List Nat}
  (h : ∀ c φ R a w, SRelX c φ R s a w → ∃ u, (execOp a.eval o).run P w = .ok (.value u) w ∧ Rel w R φ v u) : OpOK P o s (s.app o.dst ⟨v, [], acc, []⟩) := by
 refine opok_run fun c φ R a w hs => ?_
 obtain ⟨u, hr, hv⟩ := h c φ R a w hs
 exact ⟨u, w, φ, R, hr, SRelX.app (s := s) (m := s.m) hs o.dst hv⟩
end Go.Ab
