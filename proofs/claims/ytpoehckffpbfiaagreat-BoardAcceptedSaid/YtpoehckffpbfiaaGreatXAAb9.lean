/- The abstract layer, part 9: the operations of a region, in the order of the text and in every order that the region allows. -/
import Derived.Test.YtpoehckffpbfiaaGreatXAAb8
import Derived.Orders
namespace Go.Ab
open Go.RowKit
def gchk (ops : Array Oper) (s : St) (o : Oper) : Option Bool :=
 match o.guard with
 | none => some true
 | some (j, want) => match ops[j]? with
  | none => none
  | some oj => match oj.dst with
   | none => none
   | some d => match s.get d with
    | .sc (.bool true) => some want
    | .sc (.bool false) => some (!want)
    | .tup [] => some false
    | _ => none
theorem gchk_spec {ops : Array Oper} {c : Ctx} {φ : Ph} {R : Nat → Prop} {s : St} {a : Act} {w : World} {o : Oper} {b : Bool} (hs : SRelX c φ R s a w) (h : gchk ops s o = some b) : Region.wanted o (yielded ops a.tmps) = b := by
 unfold gchk at h
 unfold Region.wanted
 cases hg : o.guard with
 | none => simp [hg] at h; simp [← h]
 | some p =>
  obtain ⟨j, want⟩ := p
  simp only [hg] at h ⊢
  cases hj : ops[j]? with
  | none => simp [hj] at h
  | some oj =>
   cases hd : oj.dst with
   | none => simp [hj, hd] at h
   | some d =>
    simp only [hj, hd] at h
    have hr := hs.get d
    have hy : ∀ v, a.tmps.getD d undef = v → yielded ops a.tmps j = match v with | .bool b => some b | _ => none := by
     intro v hv
     simp only [yielded, hj, hd, Option.bind_some]
     rw [Array.getD_eq_getD_getElem?] at hv
     cases hq : a.tmps[d]? with
     | none => rw [hq] at hv; simp [undef] at hv; subst hv; rfl
     | some u => rw [hq] at hv; simp at hv; subst hv; cases u <;> rfl
    split at h
    ·rename_i he
     rw [he] at hr
     rw [hy _ hr.sc_inv]
     cases h
     cases b <;> rfl
    ·rename_i he
     rw [he] at hr
     rw [hy _ hr.sc_inv]
     cases h
     cases want <;> rfl
    ·rename_i he
     rw [he] at hr
     cases h
     generalize hq : a.tmps.getD d undef = q at hr
     cases hr with
     | tup hl _ =>
      rw [hy _ hq]
      rfl
    ·cases h
def undefEff : Eff := ⟨.tup [], [], [], []⟩
structure Item where
 i : Nat
 o : Oper
 e : Option Eff
def Item.eff (x : Item) : Eff := match x.e with
 | some e => e
 | none => undefEff
def Item.ok (P : Program) (ops : Array Oper) (x : Item) (s : St) : Prop :=
 match x.e with
 | some e => gchk ops s x.o = some true ∧ AStep P x.o s e ∧ ∀ b ∈ e.nw, Fr s b
 | none => gchk ops s x.o = some false
def Run (P : Program) (ops : Array Oper) (K : St → Prop) : List Item → St → Prop
 | [], s => K s
 | x :: l, s => x.ok P ops s ∧ Run P ops K l (s.app x.o.dst x.eff)
structure Same (s s' : St) : Prop where
 n : s.n = s'.n
 t : ∀ t, lk t s.t = lk t s'.t
 m : ∀ b, lk b s.m = lk b s'.m
theorem Same.symm {s s' : St} (h : Same s s') : Same s' s := ⟨h.n.symm, fun t => (h.t t).symm, fun b => (h.m b).symm⟩
theorem Same.get {s s' : St} (h : Same s s') (t : Nat) : s.get t = s'.get t := by simp [St.get, h.t]
theorem Same.ev {s s' : St} (h : Same s s') (x : Operand) : s.ev x = s'.ev x := by cases x <;> simp [St.ev, h.get]
theorem Same.srelX {s s' : St} (h : Same s s') {c : Ctx} {φ : Ph} {R : Nat → Prop} {a : Act} {w : World} (hs : SRelX c φ R s a w) : SRelX c φ R s' a w :=
 ⟨hs.n.trans h.n, fun t av ht => hs.t t av (by rw [h.t]; exact ht), ⟨fun b k hb => hs.m.rel b k (by rw [h.m]; exact hb), fun b b' k k' x x' h1 h2 => hs.m.inj b b' k k' x x' (by rw [h.m]; exact h1) (by rw [h.m]; exact h2), fun b k x hb => hs.m.notR b k x (by rw [h.m]; exact hb)⟩,
  fun b x hb => by obtain ⟨y, hy⟩ := hs.dom b x hb; exact ⟨y, by rw [← h.m]; exact hy⟩, fun b k x hb => hs.fresh b k x (by rw [h.m]; exact hb), hs.R0, hs.Rn, hs.Rb, hs.ext, hs.d, hs.keep⟩
theorem put_lk (s : St) (dst : Option Nat) (v : AV) (t : Nat) : lk t (s.put dst v).t = if dst = some t ∧ t < s.n then some v else lk t s.t := by
 unfold St.put
 cases dst with
 | none => simp
 | some d =>
  by_cases hd : d < s.n
  ·have hb : Nat.blt d s.n = true := by simpa [Nat.blt_eq] using hd
   simp only [hb, lk_cons]
   by_cases e : t = d
   ·subst e; simp [hd]
   ·simp [e, Ne.symm e]
  ·have hb : Nat.blt d s.n = false := by
    cases hx : Nat.blt d s.n
    ·rfl
    ·exact absurd (by simpa [Nat.blt_eq] using hx) hd
   simp only [hb]
   split
   ·rename_i h; obtain ⟨h1, h2⟩ := h; cases h1; exact absurd h2 hd
   ·rfl
theorem Same.app {s s' : St} (h : Same s s') (dst : Option Nat) (e : Eff) : Same (s.app dst e) (s'.app dst e) :=
 ⟨h.n, fun t => by simp only [St.app, put_lk, h.n, h.t], fun b => by simp only [St.app, lk_append, h.m]⟩
theorem gchk_congr {ops : Array Oper} {s s' : St} {o : Oper} (h : ∀ j want oj d, o.guard = some (j, want) → ops[j]? = some oj → oj.dst = some d → s.get d = s'.get d) : gchk ops s o = gchk ops s' o := by
 unfold gchk
 cases hg : o.guard with
 | none => rfl
 | some p =>
  obtain ⟨j, want⟩ := p
  dsimp only
  cases hj : ops[j]? with
  | none => rfl
  | some oj =>
   dsimp only
   cases hd : oj.dst with
   | none => rfl
   | some d => dsimp only; rw [h j want oj d hg hj hd]
theorem AStep.congr {P : Program} {o : Oper} {s s' : St} {e : Eff} (h : AStep P o s e) (hn : s'.n = s.n) (hop : ∀ x ∈ o.op.operands.toList, s'.ev x = s.ev x) (hacc : ∀ b ∈ e.acc, lk b s'.m = lk b s.m) : AStep P o s' e :=
 fun q h1 h2 h3 h4 => h q (h1.trans hn) (fun x hx => (h2 x hx).trans (hop x hx)) (fun b hb => (h3 b hb).trans (hacc b hb)) h4
theorem Item.ok_same {P : Program} {ops : Array Oper} {x : Item} {s s' : St} (h : Same s s') (hx : x.ok P ops s) : x.ok P ops s' := by
 unfold Item.ok at *
 cases he : x.e with
 | none =>
  simp only [he] at hx ⊢
  rw [← hx]
  exact gchk_congr fun _ _ _ d _ _ _ => (h.get d).symm
 | some e =>
  simp only [he] at hx ⊢
  exact ⟨(gchk_congr fun _ _ _ d _ _ _ => (h.get d).symm).trans hx.1, hx.2.1.congr h.n.symm (fun y _ => (h.ev y).symm) (fun b _ => (h.m b).symm), fun b hb => ⟨by rw [← h.m]; exact (hx.2.2 b hb).1, (hx.2.2 b hb).2⟩⟩
theorem Run.same {P : Program} {ops : Array Oper} {K : St → Prop} (hK : ∀ s s', Same s s' → K s → K s') : ∀ (l : List Item) {s s' : St}, Same s s' → Run P ops K l s → Run P ops K l s'
 | [], _, _, h, hr => hK _ _ h hr
 | _ :: l, _, _, h, hr => ⟨Item.ok_same h hr.1, Run.same hK l (h.app _ _) hr.2⟩
def disj (l r : List Nat) : Bool := l.all fun x => !r.contains x
def indep (ops : Array Oper) (x y : Item) : Bool :=
 x.o.apart ops y.o && disj (x.eff.wr.map (·.1)) (y.eff.acc ++ y.eff.nw ++ y.eff.wr.map (·.1)) && disj (y.eff.wr.map (·.1)) (x.eff.acc ++ x.eff.nw)
theorem disj_spec {l r : List Nat} (h : disj l r = true) : ∀ x ∈ l, x ∉ r := by
 intro x hx hr
 unfold disj at h
 rw [List.all_eq_true] at h
 have := h x hx
 simp [hr] at this
theorem lk_none_of {α : Type} {b : Nat} {l : List (Nat × α)} (h : b ∉ l.map (·.1)) : lk b l = none := by
 induction l with
 | nil => rfl
 | cons p l ih =>
  obtain ⟨j, v⟩ := p
  simp only [List.map_cons, List.mem_cons, not_or] at h
  rw [lk_cons_ne _ _ h.1]
  exact ih h.2
theorem app_lk {s : St} {dst : Option Nat} {e : Eff} {b : Nat} (h : b ∉ e.wr.map (·.1)) : lk b (s.app dst e).m = lk b s.m := by
 simp only [St.app, lk_append, lk_none_of h, Option.none_or]
theorem app_get {s : St} {dst : Option Nat} {e : Eff} {t : Nat} (h : dst ≠ some t) : (s.app dst e).get t = s.get t := by
 simp only [St.get, St.app, put_lk]
 rw [if_neg (fun hh => h hh.1)]
theorem app_ev {s : St} {dst : Option Nat} {e : Eff} {x : Operand} (h : ∀ d, dst = some d → x ≠ .tmp d) : (s.app dst e).ev x = s.ev x := by
 cases x with
 | tmp t => exact app_get (fun hd => h t hd rfl)
 | _ => rfl
theorem mem_looks {ops : Array Oper} {o : Oper} {t : Nat} (h : Operand.tmp t ∈ o.op.operands.toList) : t ∈ o.looksAt ops := by
 unfold Oper.looksAt
 refine List.mem_append.2 (.inl (List.mem_filterMap.2 ⟨_, h, rfl⟩))
theorem guard_looks {ops : Array Oper} {o : Oper} {j : Nat} {want : Bool} {oj : Oper} {d : Nat} (hg : o.guard = some (j, want)) (hj : ops[j]? = some oj) (hd : oj.dst = some d) : d ∈ o.looksAt ops := by
 unfold Oper.looksAt
 refine List.mem_append.2 (.inr ?_)
 simp [hg, hj, hd]
theorem ok_before {P : Program} {ops : Array Oper} {y : Item} {s : St} {dst : Option Nat} {e : Eff} (hd : ∀ d, dst = some d → d ∉ y.o.looksAt ops) (hw : ∀ b ∈ e.wr.map (·.1), b ∉ y.eff.acc) (h : y.ok P ops (s.app dst e)) : y.ok P ops s := by
 have hget : ∀ t ∈ y.o.looksAt ops, (s.app dst e).get t = s.get t := fun t ht => app_get (fun hh => hd t hh ht)
 have hg : gchk ops (s.app dst e) y.o = gchk ops s y.o := gchk_congr fun j want oj d h1 h2 h3 => hget d (guard_looks h1 h2 h3)
 unfold Item.ok at *
 unfold Item.eff at hw
 cases hy : y.e with
 | none => simp only [hy] at h ⊢; rw [← hg]; exact h
 | some ey =>
  simp only [hy] at h hw ⊢
  refine ⟨by rw [← hg]; exact h.1, h.2.1.congr rfl (fun x hx => (app_ev fun d hd' hxd => ?_).symm) (fun b hb => (app_lk fun hbw => hw b hbw hb).symm), fun b hb => ?_⟩
  ·subst hxd
   exact hd d hd' (mem_looks hx)
  ·refine ⟨?_, (h.2.2 b hb).2⟩
   have := (h.2.2 b hb).1
   simp only [St.app, lk_append] at this
   cases hq : lk b e.wr with
   | none => simpa [hq] using this
   | some v => simp [hq] at this
theorem ok_behind {P : Program} {ops : Array Oper} {x : Item} {s : St} {dst : Option Nat} {e : Eff} (hd : ∀ d, dst = some d → d ∉ x.o.looksAt ops) (hw : ∀ b ∈ e.wr.map (·.1), b ∉ x.eff.acc ++ x.eff.nw) (h : x.ok P ops s) : x.ok P ops (s.app dst e) := by
 have hget : ∀ t ∈ x.o.looksAt ops, (s.app dst e).get t = s.get t := fun t ht => app_get (fun hh => hd t hh ht)
 have hg : gchk ops (s.app dst e) x.o = gchk ops s x.o := gchk_congr fun j want oj d h1 h2 h3 => hget d (guard_looks h1 h2 h3)
 unfold Item.ok at *
 unfold Item.eff at hw
 cases hx : x.e with
 | none => simp only [hx] at h ⊢; rw [hg]; exact h
 | some ex =>
  simp only [hx] at h hw ⊢
  refine ⟨by rw [hg]; exact h.1, h.2.1.congr rfl (fun y hy => app_ev fun d hd' hyd => ?_) (fun b hb => app_lk fun hbw => hw b hbw (List.mem_append.2 (.inl hb))), fun b hb => ?_⟩
  ·subst hyd
   exact hd d hd' (mem_looks hy)
  ·refine ⟨?_, (h.2.2 b hb).2⟩
   rw [app_lk fun hbw => hw b hbw (List.mem_append.2 (.inr hb))]
   exact (h.2.2 b hb).1
theorem app_comm {s : St} {d d' : Option Nat} {e e' : Eff} (hd : ∀ t, d = some t → d' ≠ some t) (hw : ∀ b ∈ e.wr.map (·.1), b ∉ e'.wr.map (·.1)) : Same ((s.app d e).app d' e') ((s.app d' e').app d e) := by
 refine ⟨rfl, fun t => ?_, fun b => ?_⟩
 ·have h1 : ∀ (q : St) (dd : Option Nat) (ee : Eff) (t : Nat), lk t (q.app dd ee).t = if dd = some t ∧ t < q.n then some ee.v else lk t q.t := fun q dd ee t => by simp only [St.app, put_lk]
  rw [h1, h1, h1, h1]
  show (if d' = some t ∧ t < s.n then some e'.v else if d = some t ∧ t < s.n then some e.v else lk t s.t) = (if d = some t ∧ t < s.n then some e.v else if d' = some t ∧ t < s.n then some e'.v else lk t s.t)
  by_cases h2 : d = some t ∧ t < s.n
  ·have h4 : ¬ (d' = some t ∧ t < s.n) := fun h3 => hd t h2.1 h3.1
   rw [if_neg h4, if_pos h2, if_pos h2]
  ·rw [if_neg h2, if_neg h2]
 ·simp only [St.app, lk_append]
  cases h1 : lk b e.wr with
  | none => simp
  | some v =>
   have hb : b ∈ e.wr.map (·.1) := by
    refine Classical.byContradiction fun hn => ?_
    rw [lk_none_of hn] at h1
    cases h1
   rw [lk_none_of (hw b hb)]
   simp
theorem Run.swap {P : Program} {ops : Array Oper} {K : St → Prop} (hK : ∀ s s', Same s s' → K s → K s') {x y : Item} {l : List Item} {s : St} (hi : indep ops x y = true) (h : Run P ops K (x :: y :: l) s) : Run P ops K (y :: x :: l) s := by
 unfold indep at hi
 simp only [Bool.and_eq_true] at hi
 obtain ⟨⟨ha, hw1⟩, hw2⟩ := hi
 obtain ⟨a1, a2, a3⟩ := Oper.apart_spec ha
 have w1 := disj_spec hw1
 have w2 := disj_spec hw2
 obtain ⟨hx, hy, hl⟩ := h
 refine ⟨ok_before a1 (fun b hb hc => w1 b hb (by simp [hc])) hy, ok_behind a3 w2 hx, ?_⟩
 exact Run.same hK l (app_comm a2 (fun b hb hc => w1 b hb (by
  simp only [List.mem_append]
  exact .inr hc))) hl
theorem Run.first {P : Program} {ops : Array Oper} {K : St → Prop} (hK : ∀ s s', Same s s' → K s → K s') {y : Item} {l : List Item} : ∀ (pre : List Item) {s : St}, (∀ x ∈ pre, indep ops x y = true) → Run P ops K (pre ++ y :: l) s → Run P ops K (y :: (pre ++ l)) s
 | [], _, _, h => h
 | x :: pre, s, hi, h => by
  have h1 : Run P ops K (x :: y :: (pre ++ l)) s := ⟨h.1, Run.first hK pre (fun z hz => hi z (by simp [hz])) h.2⟩
  exact Run.swap hK (hi x (by simp)) h1
theorem wpOp_of_ok {P : Program} {ops : Array Oper} {Q : Exit → Act → World → Prop} {x : Item} {s : St} {c : Ctx} {a : Act} {w : World} {K : Act → World → Prop} (hx : ops[x.i]? = some x.o) (h : x.ok P ops s) (hs : SRel c s a w) (hK : ∀ a' w', SRel c (s.app x.o.dst x.eff) a' w' → K a' w') : wpOp P ops Q x.i K a w := by
 obtain ⟨φ, R, hsx⟩ := hs
 unfold wpOp
 simp only [hx]
 unfold Item.ok at h
 unfold Item.eff at hK
 cases he : x.e with
 | none =>
  simp only [he] at h hK
  rw [gchk_spec hsx h]
  simp only [Bool.false_eq_true, if_false]
  exact hK _ _ ⟨φ, R, SRelX.app (s := s) (m := s.m) hsx x.o.dst (.tup rfl (by simp))⟩
 | some e =>
  simp only [he] at h hK
  rw [gchk_spec hsx h.1]
  simp only [if_true]
  exact .inl (h.2.1 s rfl (fun _ _ => rfl) (fun _ _ => rfl) h.2.2 c a w K Q ⟨φ, R, hsx⟩ hK)
theorem wpOps_of_run {P : Program} {ops : Array Oper} {Q : Exit → Act → World → Prop} {c : Ctx} {K : St → Prop} (hK : ∀ s a w, K s → SRel c s a w → Q .normal a w) : ∀ (l : List Item) (s : St) (a : Act) (w : World), (∀ x ∈ l, ops[x.i]? = some x.o) → Run P ops K l s → SRel c s a w → wpOps P ops Q (l.map (·.i)) a w
 | [], s, a, w, _, h, hs => hK s a w h hs
 | x :: l, s, a, w, hi, h, hs => by
  rw [List.map_cons, wpOps_cons]
  exact wpOp_of_ok (hi x (by simp)) h.1 hs (fun a' w' hs' => wpOps_of_run hK l _ a' w' (fun y hy => hi y (by simp [hy])) h.2 hs')
def hard (e : Edge) : Bool := Region.binds .any e
def masks (ops : List Oper) : List Nat :=
 go ops []
where
 one (acc : List Nat) : List Edge → Nat
  | [] => 0
  | e :: l => match hard e with
   | true => (2 ^ e.on ||| acc.getD e.on 0) ||| one acc l
   | false => one acc l
 go : List Oper → List Nat → List Nat
  | [], acc => acc
  | o :: l, acc => go l (acc ++ [one acc o.after.toList])
def backB : List Oper → Nat → Bool
 | [], _ => true
 | o :: l, k => (o.after.toList.all fun e => !hard e || Nat.blt e.on k) && backB l (k + 1)
def pairsB (ops : Array Oper) (ms : List Nat) : List Item → Bool
 | [] => true
 | x :: l => (l.all fun y => (ms.getD y.i 0).testBit x.i || indep ops x y) && pairsB ops ms l
def okD (ops : Array Oper) (l : List Item) : Bool := backB ops.toList 0 && pairsB ops (masks ops.toList) l
def Down (ops : Array Oper) (listed : Nat → Prop) : Prop := ∀ j o, ops[j]? = some o → listed j → ∀ e ∈ o.after, hard e = true → listed e.on
theorem one_spec {ops : Array Oper} {listed : Nat → Prop} (hd : Down ops listed) {acc : List Nat} (hacc : ∀ j i, (acc.getD j 0).testBit i = true → (∃ o, ops[j]? = some o ∧ ∀ e ∈ o.after, hard e = true → listed e.on) → listed i) (hjs : ∀ j, listed j → ∃ o, ops[j]? = some o) :
  ∀ (l : List Edge) (i : Nat), (masks.one acc l).testBit i = true → (∀ e ∈ l, hard e = true → listed e.on) → listed i
 | [], i, h, _ => by simp [masks.one] at h
 | e :: l, i, h, hl => by
  simp only [masks.one] at h
  cases he : hard e with
  | false => rw [he] at h; exact one_spec hd hacc hjs l i h (fun e' he' => hl e' (by simp [he']))
  | true =>
   rw [he] at h
   simp only [Nat.testBit_or, Bool.or_eq_true, Nat.testBit_two_pow, decide_eq_true_eq] at h
   have hon := hl e (by simp) he
   rcases h with (h | h) | h
   ·exact h ▸ hon
   ·obtain ⟨o, ho⟩ := hjs _ hon
    exact hacc e.on i h ⟨o, ho, fun e' he' hh => hd e.on o ho hon e' he' hh⟩
   ·exact one_spec hd hacc hjs l i h (fun e' he' => hl e' (by simp [he']))
theorem masks_go_spec {ops : Array Oper} {listed : Nat → Prop} (hd : Down ops listed) (hjs : ∀ j, listed j → ∃ o, ops[j]? = some o) : ∀ (l : List Oper) (acc : List Nat), (∀ k, l[k]? = ops[acc.length + k]?) →
  (∀ j i, (acc.getD j 0).testBit i = true → (∃ o, ops[j]? = some o ∧ ∀ e ∈ o.after, hard e = true → listed e.on) → listed i) →
  ∀ j i, ((masks.go l acc).getD j 0).testBit i = true → (∃ o, ops[j]? = some o ∧ ∀ e ∈ o.after, hard e = true → listed e.on) → listed i
 | [], acc, _, hacc => hacc
 | o :: l, acc, hl, hacc => by
  simp only [masks.go]
  refine masks_go_spec hd hjs l (acc ++ [masks.one acc o.after.toList]) (fun k => ?_) ?_
  ·have := hl (k + 1)
   simp only [List.getElem?_cons_succ] at this
   rw [this]
   congr 1
   simp
   omega
  ·intro j i hb hj
   by_cases hjl : j < acc.length
   ·refine hacc j i ?_ hj
    rwa [List.getD_eq_getElem?_getD, List.getElem?_append_left hjl, ← List.getD_eq_getElem?_getD] at hb
   ·by_cases hje : j = acc.length
    ·subst hje
     have h0 := hl 0
     simp at h0
     obtain ⟨o', ho', hh⟩ := hj
     rw [← h0] at ho'
     cases ho'
     rw [List.getD_eq_getElem?_getD] at hb
     simp at hb
     exact one_spec hd hacc hjs o.after.toList i hb (fun e he => hh e (by simpa using he))
    ·rw [List.getD_eq_getElem?_getD, List.getElem?_eq_none (by simp; omega)] at hb
     simp at hb
theorem masks_spec {ops : Array Oper} {listed : Nat → Prop} (hd : Down ops listed) (hjs : ∀ j, listed j → ∃ o, ops[j]? = some o) (j i : Nat) (h : ((masks ops.toList).getD j 0).testBit i = true) {o : Oper} (ho : ops[j]? = some o) (hl : ∀ e ∈ o.after, hard e = true → listed e.on) : listed i :=
 masks_go_spec hd hjs ops.toList [] (by simp) (by simp) j i h ⟨o, ho, hl⟩
theorem backB_spec {ops : Array Oper} : ∀ (l : List Oper) (k : Nat), (∀ q, l[q]? = ops[k + q]?) → backB l k = true → ∀ j o, k ≤ j → ops[j]? = some o → ∀ e ∈ o.after, hard e = true → e.on < j
 | [], k, hl, _, j, o, hj, ho => by
  have := hl (j - k)
  rw [show k + (j - k) = j by omega, ho] at this
  simp at this
 | o :: l, k, hl, h, j, o', hj, ho' => by
  simp only [backB, Bool.and_eq_true] at h
  by_cases e : j = k
  ·subst e
   have := hl 0
   simp at this
   rw [← this] at ho'
   cases ho'
   intro e he hh
   have h1 := h.1
   rw [List.all_eq_true] at h1
   have := h1 e (by simpa using he)
   simpa [hh] using this
  ·exact backB_spec l (k + 1) (fun q => by
    have := hl (q + 1)
    simp only [List.getElem?_cons_succ] at this
    rw [this]
    congr 1
    omega) h.2 j o' (by omega) ho'
theorem mem_ready {ops : Array Oper} {listed : Array Bool} {i : Nat} (h : i ∈ Region.ready .any ops listed) : i < ops.size ∧ listed.getD i true = false ∧ ∃ o, ops[i]? = some o ∧ ∀ e ∈ o.after, hard e = true → listed.getD e.on false = true := by
 unfold Region.ready at h
 rw [List.mem_filter] at h
 obtain ⟨h1, h2⟩ := h
 simp only [Bool.and_eq_true, Bool.not_eq_true'] at h2
 cases ho : ops[i]? with
 | none => simp [ho] at h2
 | some o =>
  simp only [ho, Option.map_some, Option.getD_some] at h2
  refine ⟨by simpa using h1, h2.1, o, rfl, fun e he hh => ?_⟩
  have := Array.all_eq_true.1 h2.2
  obtain ⟨q, hq, hqe⟩ := Array.mem_iff_getElem.1 he
  have := this q hq
  rw [hqe] at this
  have hb : Region.binds .any e = true := hh
  rw [hb] at this
  simpa using this
theorem ready_of {ops : Array Oper} {listed : Array Bool} {i : Nat} {o : Oper} (ho : ops[i]? = some o) (hi : listed.getD i true = false) (h : ∀ e ∈ o.after, hard e = true → listed.getD e.on false = true) : i ∈ Region.ready .any ops listed := by
 unfold Region.ready
 rw [List.mem_filter]
 refine ⟨by simpa using (Array.getElem?_eq_some_iff.1 ho).1, ?_⟩
 simp only [hi, Bool.not_false, Bool.true_and, ho, Option.map_some, Option.getD_some]
 rw [Array.all_eq_true]
 intro q hq
 have := h o.after[q] (Array.getElem_mem hq)
 cases hb : Region.binds .any o.after[q] with
 | false => simp
 | true => simp [this hb]
theorem wpAny_of_run {P : Program} {ops : Array Oper} {Q : Exit → Act → World → Prop} {c : Ctx} {K : St → Prop} (hKs : ∀ s s', Same s s' → K s → K s') (hK : ∀ s a w, K s → SRel c s a w → Q .normal a w) (hback : backB ops.toList 0 = true) :
  ∀ (n : Nat) (l : List Item) (listed : Array Bool) (s : St) (a : Act) (w : World), l.length = n → listed.size = ops.size → (∀ x ∈ l, ops[x.i]? = some x.o) → (l.map (·.i)).Pairwise (· < ·) →
   (∀ i, i < ops.size → (listed.getD i true = false ↔ i ∈ l.map (·.i))) → Down ops (fun j => listed.getD j false = true) → pairsB ops (masks ops.toList) l = true → Run P ops K l s → SRel c s a w →
   wpAny P .any ops Q n listed a w := by
 intro n
 induction n with
 | zero =>
  intro l listed s a w hn hsz hi hs hlist hdown hp hr hrel
  have : l = [] := List.eq_nil_of_length_eq_zero hn
  subst this
  refine ⟨?_, hK s a w hr hrel⟩
  refine List.eq_nil_iff_forall_not_mem.2 fun i hi' => ?_
  obtain ⟨h1, h2, _⟩ := mem_ready hi'
  simpa using (hlist i h1).1 h2
 | succ n ih =>
  intro l listed s a w hn hsz hi hs hlist hdown hp hr hrel
  have gd : ∀ j, j < ops.size → listed.getD j true = listed.getD j false := fun j hj => by
   simp [Array.getD_eq_getD_getElem?, hsz, hj]
  refine ⟨fun hnil => ?_, fun i hi' => ?_⟩
  ·
   exfalso
   match l, hn with
   | x :: l, _ =>
    have hxo := hi x (by simp)
    have hxl : x.i < ops.size := (Array.getElem?_eq_some_iff.1 hxo).1
    have : x.i ∈ Region.ready .any ops listed := ready_of hxo ((hlist x.i hxl).2 (by simp)) (fun e he hh => by
     have hlt := backB_spec ops.toList 0 (by simp) hback x.i x.o (Nat.zero_le _) hxo e he hh
     have hel : e.on < ops.size := by omega
     rw [← gd _ hel]
     cases hq : listed.getD e.on true with
     | true => rfl
     | false =>
      have hm := (hlist e.on hel).1 hq
      simp only [List.map_cons, List.mem_cons] at hm
      rcases hm with hm | hm
      ·omega
      ·simp only [List.map_cons, List.pairwise_cons] at hs
       have := hs.1 _ hm
       omega)
    rw [hnil] at this
    cases this
  ·obtain ⟨hil, hiu, o, ho, hpre⟩ := mem_ready hi'
   have hmem := (hlist i hil).1 hiu
   obtain ⟨y, hy, hyi⟩ := List.mem_map.1 hmem
   obtain ⟨pre, post, rfl⟩ := List.append_of_mem hy
   subst hyi
   have hyo := hi y (by simp)
   rw [ho] at hyo
   cases hyo
   have hjs : ∀ j, listed.getD j false = true → ∃ o, ops[j]? = some o := by
    intro j hj
    have hlt : j < listed.size := by
     rcases Nat.lt_or_ge j listed.size with h | h
     ·exact h
     ·simp [Array.getD_eq_getD_getElem?, Array.getElem?_eq_none h] at hj
    exact ⟨ops[j]'(by omega), by simp⟩
   have hind : ∀ x ∈ pre, indep ops x y = true := by
    intro x hx
    have hpp : ∀ (pre : List Item), pairsB ops (masks ops.toList) (pre ++ y :: post) = true → ∀ x ∈ pre, ((masks ops.toList).getD y.i 0).testBit x.i = true ∨ indep ops x y = true := by
     intro pre
     induction pre with
     | nil => intro _ x hx; cases hx
     | cons z pre ihp =>
      intro hpz x hx
      simp only [List.cons_append, pairsB, Bool.and_eq_true] at hpz
      rcases List.mem_cons.1 hx with rfl | hx
      ·have := List.all_eq_true.1 hpz.1 y (by simp)
       simpa using this
      ·exact ihp hpz.2 x hx
    rcases hpp pre hp x hx with h | h
    ·exfalso
     have hl := masks_spec hdown hjs y.i x.i h ho hpre
     have hxl : x.i < ops.size := (Array.getElem?_eq_some_iff.1 (hi x (by simp [hx]))).1
     have := (hlist x.i hxl).2 (by simp; exact .inl ⟨x, hx, rfl⟩)
     rw [gd _ hxl, hl] at this
     cases this
    ·exact h
   have hrun := Run.first hKs pre hind hr
   refine wpOp_of_ok (hi y (by simp)) hrun.1 hrel (fun a' w' hrel' => ?_)
   refine ih (pre ++ post) (listed.setIfInBounds y.i true) _ a' w' (by simp at hn ⊢; omega) (by simpa using hsz) (fun x hx => hi x (by simp at hx ⊢; rcases hx with h | h; exact .inl h; exact .inr (.inr h))) ?_ ?_ ?_ ?_ hrun.2 hrel'
   ·simp only [List.map_append, List.map_cons] at hs ⊢
    exact hs.sublist (List.Sublist.append_left (List.sublist_cons_self _ _) _)
   ·intro j hj
    have hyl : y.i < listed.size := by omega
    have hnd : y.i ∉ (pre ++ post).map (·.i) := by
     simp only [List.map_append, List.map_cons] at hs ⊢
     rw [List.pairwise_append] at hs
     intro hm
     rcases List.mem_append.1 hm with h | h
     ·have := hs.2.2 _ h y.i (by simp)
      omega
     ·have := (List.pairwise_cons.1 hs.2.1).1 _ h
      omega
    by_cases e : j = y.i
    ·subst e
     simp only [Array.getD_eq_getD_getElem?, Array.getElem?_setIfInBounds, hyl]
     simp only [if_true, Option.getD_some, Bool.true_eq_false, false_iff]
     exact hnd
    ·have h1 : (listed.setIfInBounds y.i true).getD j true = listed.getD j true := by
      simp only [Array.getD_eq_getD_getElem?, Array.getElem?_setIfInBounds_ne (Ne.symm e)]
     rw [h1, hlist j hj]
     simp only [List.map_append, List.map_cons, List.mem_append, List.mem_cons]
     constructor
     ·rintro (h | h | h)
      ·exact .inl h
      ·exact absurd h e
      ·exact .inr h
     ·rintro (h | h)
      ·exact .inl h
      ·exact .inr (.inr h)
   ·intro j oj hoj hj e he hh
    have hyl : y.i < listed.size := by omega
    have up : ∀ q, listed.getD q false = true → (listed.setIfInBounds y.i true).getD q false = true := by
     intro q hq
     by_cases e : q = y.i
     ·subst e; simp [Array.getD_eq_getD_getElem?, hyl]
     ·rw [Array.getD_eq_getD_getElem?, Array.getElem?_setIfInBounds_ne (Ne.symm e), ← Array.getD_eq_getD_getElem?]; exact hq
    by_cases ej : j = y.i
    ·subst ej
     rw [ho] at hoj
     cases hoj
     exact up _ (hpre e he hh)
    ·rw [Array.getD_eq_getD_getElem?, Array.getElem?_setIfInBounds_ne (Ne.symm ej), ← Array.getD_eq_getD_getElem?] at hj
     exact up _ (hdown j oj hoj hj e he hh)
   ·have hsub : ∀ (pre : List Item), pairsB ops (masks ops.toList) (pre ++ y :: post) = true → pairsB ops (masks ops.toList) (pre ++ post) = true := by
     intro pre
     induction pre with
     | nil => intro h; simp only [List.nil_append, pairsB, Bool.and_eq_true] at h ⊢; exact h.2
     | cons z pre ihp =>
      intro h
      simp only [List.cons_append, pairsB, Bool.and_eq_true] at h ⊢
      refine ⟨?_, ihp h.2⟩
      rw [List.all_eq_true] at h ⊢
      intro q hq
      exact h.1 q (by simp at hq ⊢; rcases hq with hq | hq; exact .inl hq; exact .inr (.inr hq))
    exact hsub pre hp
def items : Nat → List Oper → List (Option Eff) → List Item
 | k, o :: l, e :: r => ⟨k, o, e⟩ :: items (k + 1) l r
 | _, _, _ => []
theorem items_spec : ∀ (l : List Oper) (r : List (Option Eff)) (k : Nat), l.length = r.length → (items k l r).map (·.i) = (List.range l.length).map (k + ·) ∧ ∀ x ∈ items k l r, k ≤ x.i ∧ l[x.i - k]? = some x.o
 | [], [], k, _ => by simp [items]
 | o :: l, e :: r, k, h => by
  obtain ⟨h1, h2⟩ := items_spec l r (k + 1) (by simpa using h)
  refine ⟨?_, fun x hx => ?_⟩
  ·simp only [items, List.map_cons, h1, List.length_cons, List.range_succ_eq_map, List.map_map, Nat.add_zero, List.cons.injEq, true_and]
   apply List.map_congr_left
   intro a _
   simp
   omega
  ·simp only [items, List.mem_cons] at hx
   rcases hx with rfl | hx
   ·simp
   ·obtain ⟨q1, q2⟩ := h2 x hx
    refine ⟨by omega, ?_⟩
    rw [show x.i - k = (x.i - (k + 1)) + 1 by omega]
    simpa using q2
 | [], _ :: _, k, h => by simp at h
 | _ :: _, [], k, h => by simp at h
theorem wp_region_run {P : Program} {id : Nat} {ops : Array Oper} {draw : Bool} {Q : Exit → Act → World → Prop} {c : Ctx} {K : St → Prop} {s : St} {a : Act} {w : World} {r : List (Option Eff)} (hKs : ∀ s s', Same s s' → K s → K s') (hK : ∀ s a w, K s → SRel c s a w → Q .normal a w)
  (hlen : ops.toList.length = r.length) (hmix : P.follows .mixedOrders = true) (hdr : draw = true → okD ops (items 0 ops.toList r) = true) (hr : Run P ops K (items 0 ops.toList r) s) (hs : SRel c s a w) : (Code.region id ops draw).wp P Q a w := by
 obtain ⟨h1, h2⟩ := items_spec ops.toList r 0 hlen
 have hio : ∀ x ∈ items 0 ops.toList r, ops[x.i]? = some x.o := fun x hx => by
  have := (h2 x hx).2
  simpa using this
 cases draw with
 | false =>
  refine wp_region ?_
  have := wpOps_of_run hK _ s a w hio hr hs
  rw [h1] at this
  simpa using this
 | true =>
  refine wp_region_any hmix ?_
  have hok := hdr rfl
  unfold okD at hok
  simp only [Bool.and_eq_true] at hok
  have hl : (items 0 ops.toList r).length = ops.size := by
   have := congrArg List.length h1
   simpa using this
  have hs' : SRel c s a { w with drawn := w.drawn + 1 } := by
   obtain ⟨φ, R, q⟩ := hs
   have e := q.ext.trans (G' := fun _ => False) (c := { w with drawn := w.drawn + 1 }) ⟨rfl, rfl, rfl, Nat.le_refl _, fun _ _ _ => rfl⟩ (fun _ _ h => h.elim)
   refine ⟨φ, R, q.n, fun t av ht => (q.t t av ht).mono (fun _ _ => rfl) (fun _ h => h) (fun _ _ h => h), ⟨fun b k hb => ?_, q.m.inj, q.m.notR⟩, q.dom, q.fresh, q.R0, q.Rn, q.Rb, e, q.d, q.keep⟩
   obtain ⟨oh, ho, hr⟩ := q.m.rel b k hb
   exact ⟨oh, ho, hr.mono (fun _ _ => rfl) (fun _ _ => rfl) (fun _ _ h => h)⟩
  refine wpAny_of_run hKs hK hok.1 ops.size _ _ s a _ hl (by simp) hio ?_ ?_ ?_ hok.2 hr hs'
  ·rw [h1]
   simp only [Nat.zero_add, List.map_id']
   exact List.pairwise_lt_range
  ·intro i hi
   rw [h1]
   simp [Array.getD_eq_getD_getElem?, hi]
  ·intro j o ho hj
   simp [Array.getD_eq_getD_getElem?, (Array.getElem?_eq_some_iff.1 ho).1] at hj
end Go.Ab
