/- The abstract layer, part 13: a call. -/
import Derived.Test.YtpoehckffpbfiaaGreatXAAb12
namespace Go.Ab
open Go.RowKit
section
variable {P : Program} {o : Oper} {s : St}
def fcall (fo : Operand) (xs : Array Operand) (tys : Array TypeId) : Op := .call { callee := .value fo, args := xs, argTypes := tys }
def srcs : Rho → List Nat
 | [] => []
 | (_, some b) :: l => b :: srcs l
 | (_, none) :: l => srcs l
theorem srcs_mem {ρ : Rho} {b' b : Nat} (h : lk b' ρ = some (some b)) : b ∈ srcs ρ := by
 induction ρ with
 | nil => simp [lk] at h
 | cons p l ih =>
  obtain ⟨j, o⟩ := p
  rw [lk_cons] at h
  split at h
  ·cases h; simp [srcs]
  ·cases o with
   | none => exact ih h
   | some q => simp [srcs, ih h]
def deadL : List Nat → Mem
 | [] => []
 | b :: l => (b, none) :: deadL l
theorem lk_deadL (l : List Nat) (b : Nat) : lk b (deadL l) = if b ∈ l then some none else none := by
 induction l with
 | nil => simp [deadL, lk]
 | cons x l ih =>
  simp only [deadL, lk_cons, ih, List.mem_cons]
  by_cases e : b = x
  ·simp [e]
  ·simp [e]
def backOK (ρ : Rho) (M : Mem) (σ : Rho) (W : Mem) : Bool := W.all fun p => match (srcs ρ).contains p.1 with
 | false => true
 | true => match lk p.1 σ with
  | some (some b') => match lk b' ρ with
   | some (some t) => Nat.beq t p.1 && (match lk b' M with | some (some _) => true | _ => false)
   | _ => false
  | _ => false
def newNames (ρ : Rho) : Mem → List Nat
 | [] => []
 | (t, _) :: l => match (srcs ρ).contains t with
  | true => newNames ρ l
  | false => t :: newNames ρ l
theorem newNames_mem {ρ : Rho} : ∀ {W : Mem} {t : Nat} {x : Option Blk}, (t, x) ∈ W → t ∉ srcs ρ → t ∈ newNames ρ W
 | (j, y) :: l, t, x, h, ht => by
  simp only [newNames]
  rcases List.mem_cons.1 h with h | h
  ·cases h
   have hc : (srcs ρ).contains j = false := by simpa using ht
   rw [hc]
   simp
  ·have := newNames_mem h ht
   split
   ·exact this
   ·exact List.mem_cons_of_mem _ this
def noSlW : Mem → Prop
 | [] => True
 | (_, some k) :: l => (∀ x ∈ k.xs, noSl x = true) ∧ noSlW l
 | (_, none) :: l => noSlW l
theorem noSlW_mem : ∀ {W : Mem}, noSlW W → ∀ t k, (t, some k) ∈ W → ∀ x ∈ k.xs, noSl x = true
 | (j, some q) :: l, h, t, k, hm => by
  simp only [noSlW] at h
  rcases List.mem_cons.1 hm with hm | hm
  ·cases hm; exact h.1
  ·exact noSlW_mem h.2 t k hm
 | (j, none) :: l, h, t, k, hm => by
  simp only [noSlW] at h
  rcases List.mem_cons.1 hm with hm | hm
  ·cases hm
  ·exact noSlW_mem h t k hm
theorem cells_noSl {x : AV} (h : noSl x = true) : ∀ (j : Nat) (c : AV), x.cells[j]? = some c → noSl c = true := by
 intro j c hj
 cases x with
 | agg cs => exact noSlL_get (cs := cs) (by simpa [noSl] using h) j c hj
 | _ =>
  simp only [AV.cells] at hj
  cases j with
  | zero => simp at hj; subst hj; exact h
  | succ j => simp at hj
def lendsOK (ρ : Rho) (m : Mem) : Mem → Prop
 | [] => True
 | (b, some k) :: l => lk b m = some (some k) ∧ b ∉ srcs ρ ∧ lendsOK ρ m l
 | (_, none) :: _ => False
theorem lendsOK_mem {ρ : Rho} {m : Mem} : ∀ {L : Mem}, lendsOK ρ m L → ∀ b x, (b, x) ∈ L → ∃ k, x = some k ∧ lk b m = some (some k) ∧ b ∉ srcs ρ
 | (j, some q) :: l, h, b, x, hm => by
  simp only [lendsOK] at h
  rcases List.mem_cons.1 hm with hm | hm
  ·cases hm; exact ⟨q, rfl, h.1, h.2.1⟩
  ·exact lendsOK_mem h.2.2 b x hm
 | (j, none) :: l, h, _, _, _ => by simp [lendsOK] at h
theorem as_call {f : Nat} {fn : Func} {fo : Operand} {xs : Array Operand} {tys : Array TypeId} {fs cs avs args : List AV} {M M' L W : Mem} {ρ σ : Rho} {r v : AV} (ho : o.op = fcall fo xs tys) (hfn : P.funcs[f]? = some fn) (hname : (fn.name == "runtime.NumGoroutine") = false) (hbody : fn.body.isNone = false)
  (hfo : s.ev fo = .clo f fs cs) (hav : fs ++ xs.toList.map s.ev ++ cs = avs) (H : Holds P f args M r M') (hL : lendsOK ρ s.m L) (hargs : wkL L ρ avs args) (hi : injB ρ = true) (hk : (ρ.all fun p => (lk p.1 M).isSome) = true) (hM : wkM ρ s.m M)
  (hσi : injB σ = true) (hσk : (σ.all fun p => (lk p.1 W).isSome) = true) (hW : wkM σ M' W) (hv : wkP [] σ r v) (hback : backOK ρ M σ W = true) (hns : L ≠ [] → noSl v = true ∧ noSlW W) :
  AStep P o s ⟨v, W ++ deadL (srcs ρ), srcs ρ ++ L.map (·.1), newNames ρ W⟩ := by
 intro s' hn hop hacc hnw c a w next Q hs hnext
 obtain ⟨φ, R, hsx⟩ := hs
 have hsl : ∀ b ∈ srcs ρ, lk b s'.m = lk b s.m := fun b hb => hacc b (by simp [hb])
 have hLl : ∀ b x, (b, x) ∈ L → ∃ k, x = some k ∧ lk b s'.m = some (some k) ∧ b ∉ srcs ρ := fun b x hb => by
  obtain ⟨k, h1, h2, h3⟩ := lendsOK_mem hL b x hb
  exact ⟨k, h1, by rw [hacc b (by simp; exact .inr ⟨x, hb⟩)]; exact h2, h3⟩
 have hrf := hsx.ev fo
 rw [hop fo (by simp [ho, fcall, Op.operands, Call.operands]), hfo] at hrf
 generalize hq : a.eval fo = q at hrf
 cases hrf with
 | @clo _ _ _ _ fv cv hfl hcl hf1 hc1 =>
  have hrun : (execOp a.eval o).run P w = .ok (.enter f (fv ++ xs.map a.eval ++ cv)) w := by
   have hname' : ¬ (fn.name = "runtime.NumGoroutine") := by simpa using hname
   have hbody' : ¬ (fn.body = none) := by intro h; simp [h] at hbody
   simp [execOp, ho, fcall, resolve, hq, Deferred.ofValue, invoke, callFunc, hfn, hname', hbody']
  unfold Oper.wp
  rw [hrun]
  simp only [Oper.upon]
  have hMs : wkM ρ s'.m M := by
   have : ∀ {M : Mem}, wkM ρ s.m M → wkM ρ s'.m M := by
    intro M
    induction M with
    | nil => intro h; exact h
    | cons p l ih =>
     obtain ⟨b', ok⟩ := p
     cases ok with
     | none => intro h; simp [wkM] at h
     | some k =>
      intro h
      simp only [wkM] at h ⊢
      refine ⟨?_, ih h.2⟩
      cases hq : lk b' ρ with
      | none => simp [hq] at h
      | some oo =>
       cases oo with
       | none => simpa [hq] using h.1
       | some b =>
        have h1 := h.1
        simp only [hq] at h1 ⊢
        rw [hsl b (srcs_mem hq)]
        exact h1
   exact this hM
  obtain ⟨m1, m2, m3⟩ := wk_mem hsx.m hi hk hMs
  let Rc : Nat → Prop := fun n => R n ∨ blksOf φ L n
  have hLm : ∀ b k, lk b L = some (some k) → lk b s'.m = some (some k) ∧ b ∉ srcs ρ := fun b k hb => by
   obtain ⟨k', h1, h2, h3⟩ := hLl b _ (lk_mem hb)
   cases h1
   exact ⟨h2, h3⟩
  have passed : ∀ n, blksOf (φ.via ρ) M n → ∃ b k x, b ∈ srcs ρ ∧ lk b s'.m = some (some k) ∧ φ b = some (some x) ∧ x.blk = n := by
   rintro n ⟨b', k', x, h1, h2, h3⟩
   obtain ⟨b, k, e1, e2, e3⟩ := m3 b' k' x h1 h2
   exact ⟨b, k, x, srcs_mem e1, e2, e3, h3⟩
  have hRcb : ∀ n, Rc n → n < w.heap.size := by
   rintro n (h | ⟨b, k, x, h1, h2, rfl⟩)
   ·exact hsx.Rb n h
   ·exact hsx.lt (hLm b k h1).1 h2
  have hmem : MemOK w Rc (φ.via ρ) M := by
   refine ⟨fun b k hb => ?_, m1.inj, fun b k x hb hx => ?_⟩
   ·obtain ⟨oh, h1, h2⟩ := m1.rel b k hb
    refine ⟨oh, h1, ?_⟩
    cases oh with
    | none => exact h2
    | some x =>
     obtain ⟨r1, r2, r3, r4, C, r5, r6, r7⟩ := h2
     refine ⟨r1, r2, r3, r4, C, r5, r6, fun i y hy => ⟨(r7 i y hy).1, fun j c' hj => ?_⟩⟩
     obtain ⟨u, hu, hr⟩ := (r7 i y hy).2 j c' hj
     exact ⟨u, hu, hr.mono (fun _ _ => rfl) (fun _ h => .inl h) (fun _ _ h => h)⟩
   ·rintro (h | ⟨b1, k1, x1, h1, h2, h3⟩)
    ·exact m1.notR b k x hb hx h
    ·obtain ⟨b0, k0, e1, e2, e3⟩ := m3 b k x hb hx
     have := hsx.m.inj b1 b0 k1 k0 x1 x (hLm b1 k1 h1).1 e2 h2 e3 h3
     subst this
     exact (hLm b1 k1 h1).2 (srcs_mem e1)
  obtain ⟨al, aget⟩ := wkL_get hargs
  have havl : avs.length = (fv ++ xs.map a.eval ++ cv).size := by
   rw [← hav]; simp [hfl, hcl]
  have hrel0 : ∀ (i : Nat) (x : AV) (u : Value), avs[i]? = some x → (fv ++ xs.map a.eval ++ cv)[i]? = some u → Rel w R φ x u := by
   intro i x u hx hu
   rw [← hav] at hx
   rw [List.append_assoc] at hx
   rw [Array.append_assoc] at hu
   by_cases h1 : i < fs.length
   ·rw [List.getElem?_append_left h1] at hx
    rw [Array.getElem?_append_left (by omega)] at hu
    exact hf1 i x u hx hu
   ·rw [List.getElem?_append_right (by omega)] at hx
    rw [Array.getElem?_append_right (by omega), ← hfl] at hu
    by_cases h2 : i - fs.length < xs.size
    ·rw [List.getElem?_append_left (by simpa using h2), List.getElem?_map, Array.getElem?_toList] at hx
     rw [Array.getElem?_append_left (by simpa using h2), Array.getElem?_map] at hu
     cases hy : xs[i - fs.length]? with
     | none => simp [hy] at hx
     | some y =>
      simp [hy] at hx hu
      subst hx
      subst hu
      have := hsx.ev y
      rwa [hop y (by simp [ho, fcall, Op.operands, Call.operands]; exact .inr (Array.mem_of_getElem? hy))] at this
    ·rw [List.getElem?_append_right (by simp; omega)] at hx
     rw [Array.getElem?_append_right (by simp; omega)] at hu
     exact hc1 _ x u hx (by simpa using hu)
  have hcall := H w (fv ++ xs.map a.eval ++ cv) (φ.via ρ) Rc (by rw [← al, havl]) (fun i d u hd hu => by
    have hlt := (List.getElem?_eq_some_iff.1 hd).1
    have hx : avs[i]? = some (avs[i]'(by omega)) := List.getElem?_eq_getElem (by omega)
    exact wkP_rel hsx.m (m := L) (fun _ h => .inl h) (fun b k x hb hx => ⟨(hLm b k hb).1, .inr ⟨b, k, x, hb, hx, rfl⟩⟩) (hrel0 i _ u hx hu) (aget i _ d hx hd)) hmem m2 hRcb
  refine hcall.mono ?_
  rintro e w' ⟨u, φ', R', rfl, hru, hmem', hfresh', hkeep', hRR', hRn', hRb', hext'⟩
  refine hnext _ _ ?_
  obtain ⟨n1, n2, n3⟩ := wk_mem hmem' hσi hσk hW
  have hnp : ∀ b k x, lk b s'.m = some (some k) → φ b = some (some x) → b ∉ srcs ρ → ¬ blksOf (φ.via ρ) M x.blk := by
   intro b k x hb hx hbs hp
   obtain ⟨b1, k1, x1, h1, h2, h3, h4⟩ := passed _ hp
   have := hsx.m.inj b1 b k1 k x1 x h2 hb h3 hx h4
   subst this
   exact hbs h1
  have hRw : ∀ n, R n → w'.heap[n]? = w.heap[n]? := by
   intro n hn'
   refine hext'.block n (hsx.Rb n hn') fun hp => ?_
   obtain ⟨b1, k1, x1, h1, h2, h3, h4⟩ := passed _ hp
   exact hsx.m.notR b1 k1 x1 h2 h3 (h4 ▸ hn')
  let φ2 : Ph := fun b => match φ'.via σ b with
   | some x => some x
   | none => φ b
  have viaW : ∀ t x, φ'.via σ t = some x → ∃ y, lk t W = some y := n2
  have hWnew : ∀ t y, lk t W = some y → t ∉ srcs ρ → Fr s' t := fun t y hy ht => hnw t (newNames_mem (lk_mem hy) ht)
  have hback' : ∀ t y, lk t W = some y → t ∈ srcs ρ → ∃ b' k', lk t σ = some (some b') ∧ lk b' ρ = some (some t) ∧ lk b' M = some (some k') := by
   intro t y hy ht
   have := List.all_eq_true.1 hback _ (lk_mem hy)
   have hc : (srcs ρ).contains t = true := by simpa using ht
   simp only [hc] at this
   cases h1 : lk t σ with
   | none => simp [h1] at this
   | some o1 =>
    cases o1 with
    | none => simp [h1] at this
    | some b' =>
     simp only [h1] at this
     cases h2 : lk b' ρ with
     | none => simp [h2] at this
     | some o2 =>
      cases o2 with
      | none => simp [h2] at this
      | some t' =>
       simp only [h2, Bool.and_eq_true] at this
       have ht' := Nat.eq_of_beq_eq_true this.1
       subst ht'
       cases h3 : lk b' M with
       | none => simp [h3] at this
       | some o3 =>
        cases o3 with
        | none => simp [h3] at this
        | some k' => exact ⟨b', k', rfl, h2, h3⟩
  have homeS : ∀ t x, t ∈ srcs ρ → φ'.via σ t = some x → φ t = some x := by
   intro t x ht hx
   obtain ⟨y, hy⟩ := viaW t x hx
   obtain ⟨b', k', h1, h2, h3⟩ := hback' t y hy ht
   simp only [Ph.via, h1] at hx
   have hyk : ∃ kk, lk b' M' = some (some kk) := by
    cases y with
    | none =>
     exfalso
     have : ∀ {W : Mem}, wkM σ M' W → lk t W ≠ some none := by
      intro W
      induction W with
      | nil => intro _ h; simp [lk] at h
      | cons p l ih =>
       obtain ⟨j, q⟩ := p
       cases q with
       | none => intro h; simp [wkM] at h
       | some q =>
        intro h hh
        rw [lk_cons] at hh
        split at hh
        ·cases hh
        ·simp only [wkM] at h
         exact ih h.2 hh
     exact this hW hy
    | some kk =>
     have := wkM_mem hW t kk (lk_mem hy)
     simp only [h1] at this
     obtain ⟨k0, hk0, _⟩ := this
     exact ⟨k0, hk0⟩
   obtain ⟨kk, hkk⟩ := hyk
   rw [hkeep' b' k' kk h3 hkk] at hx
   simpa [Ph.via, h2] using hx
  have freshN : ∀ t, Fr s' t → φ t = none := by
   intro t ht
   cases hq : φ t with
   | none => rfl
   | some y => obtain ⟨z, hz⟩ := hsx.dom t y hq; rw [ht.1] at hz; cases hz
  have hφ2 : ∀ b x, φ b = some x → φ2 b = some x := by
   intro b x hx
   show (match φ'.via σ b with | some x => some x | none => φ b) = some x
   cases hq : φ'.via σ b with
   | none => exact hx
   | some y =>
    obtain ⟨z, hz⟩ := viaW b y hq
    by_cases hb : b ∈ srcs ρ
    ·rw [homeS b y hb hq] at hx; exact hx
    ·rw [freshN b (hWnew b z hz hb)] at hx; cases hx
  have hφ2' : ∀ b x, φ'.via σ b = some x → φ2 b = some x := by
   intro b x hx
   show (match φ'.via σ b with | some x => some x | none => φ b) = some x
   rw [hx]
  have hφ2v : ∀ b x y, lk b W = some y → φ2 b = some x → φ'.via σ b = some x ∨ (φ'.via σ b = none ∧ φ b = some x) := by
   intro b x y hy hx
   have hx' : (match φ'.via σ b with | some x => some x | none => φ b) = some x := hx
   cases hq : φ'.via σ b with
   | none => rw [hq] at hx'; exact .inr ⟨rfl, hx'⟩
   | some z => rw [hq] at hx'; exact .inl hx'
  have hWv : ∀ b k, lk b W = some (some k) → ∃ oh, φ'.via σ b = some oh := fun b k hb => by
   obtain ⟨oh, h1, _⟩ := n1.rel b k hb
   exact ⟨oh, h1⟩
  have split : ∀ b k, lk b ((W ++ deadL (srcs ρ)) ++ s'.m) = some (some k) → lk b W = some (some k) ∨ (lk b W = none ∧ b ∉ srcs ρ ∧ lk b s'.m = some (some k)) := by
   intro b k hb
   rw [lk_append, lk_append, lk_deadL] at hb
   cases h1 : lk b W with
   | some y => rw [h1] at hb; simp at hb; subst hb; exact .inl rfl
   | none =>
    rw [h1] at hb
    by_cases h2 : b ∈ srcs ρ
    ·simp [h2] at hb
    ·simp [h2] at hb; exact .inr ⟨rfl, h2, hb⟩
  have hWblk : ∀ b k x, lk b W = some (some k) → φ'.via σ b = some (some x) → w.heap.size ≤ x.blk ∨ blksOf (φ.via ρ) M x.blk := by
   intro b k x hb hx
   obtain ⟨b0, k0, e1, e2, e3⟩ := n3 b k x hb hx
   exact hfresh' b0 k0 x e2 e3
  have φ2W : ∀ b k x, lk b W = some (some k) → φ2 b = some (some x) → φ'.via σ b = some (some x) := by
   intro b k x hb hx
   obtain ⟨oh, hoh⟩ := hWv b k hb
   have := hφ2' b oh hoh
   rw [this] at hx
   rw [hoh]
   exact hx
  have φ2old : ∀ b x, lk b W = none → φ2 b = some x → φ b = some x := by
   intro b x hb hx
   have hx' : (match φ'.via σ b with | some x => some x | none => φ b) = some x := hx
   cases hq : φ'.via σ b with
   | none => rw [hq] at hx'; exact hx'
   | some z => obtain ⟨y, hy⟩ := viaW b z hq; rw [hb] at hy; cases hy
  have pfresh : ∀ n, blksOf (φ.via ρ) M n → c.w0.heap.size ≤ n ∨ c.G n := by
   intro n hp
   obtain ⟨b1, k1, x1, h1, h2, h3, h4⟩ := passed _ hp
   rw [← h4]
   exact hsx.fresh b1 k1 x1 h2 h3
  have wsz : c.w0.heap.size ≤ w.heap.size := hsx.ext.size
  have main : ∀ R2 : Nat → Prop, (∀ n, R n → R2 n) → (∀ n, R2 n → R n ∨ (R' n ∧ (w.heap.size ≤ n ∨ blksOf (φ.via ρ) M n))) → (∀ n, R2 n → n < w'.heap.size) →
    (∀ b k, lk b W = some (some k) → ∀ x ∈ k.xs, ∀ (j : Nat) (d : AV) (u : Value), x.cells[j]? = some d → Rel w' R' (φ'.via σ) d u → Rel w' R2 (φ'.via σ) d u) → Rel w' R2 (φ'.via σ) v u →
    SRel c (s'.app o.dst ⟨v, W ++ deadL (srcs ρ), srcs ρ ++ L.map (·.1), newNames ρ W⟩) (a.put o.dst u) w' := by
   intro R2 hR2 hR2' hR2b hcon hvu
   refine ⟨φ2, R2, ?_⟩
   refine SRelX.app (s := s') (m := (W ++ deadL (srcs ρ)) ++ s'.m) ?_ o.dst (hvu.mono (fun _ _ => rfl) (fun _ h => h) hφ2')
   have hold : ∀ b k x, lk b s'.m = some (some k) → φ b = some (some x) → b ∉ srcs ρ → w'.heap[x.blk]? = w.heap[x.blk]? := fun b k x hb hx hbs => hext'.block _ (hsx.lt hb hx) (hnp b k x hb hx hbs)
   refine ⟨hsx.n, fun t av ht => (hsx.t t av ht).mono hRw hR2 hφ2, ⟨?_, ?_, ?_⟩, ?_, ?_, fun n hn' => hR2 n (hsx.R0 n hn'), ?_, hR2b, ?_, hsx.d, ?_⟩
   ·intro b k hb
    rcases split b k hb with hb | ⟨hb1, hb2, hb3⟩
    ·obtain ⟨oh, h1, h2⟩ := n1.rel b k hb
     refine ⟨oh, hφ2' b oh h1, ?_⟩
     cases oh with
     | none => exact h2
     | some x =>
      obtain ⟨r1, r2, r3, r4, C, r5, r6, r7⟩ := h2
      refine ⟨r1, r2, r3, r4, C, r5, r6, fun i y hy => ⟨(r7 i y hy).1, fun j d hj => ?_⟩⟩
      obtain ⟨q, hq, hr⟩ := (r7 i y hy).2 j d hj
      exact ⟨q, hq, (hcon b k hb y (List.mem_of_getElem? hy) j d q hj hr).mono (fun _ _ => rfl) (fun _ h => h) hφ2'⟩
    ·obtain ⟨oh, h1, h2⟩ := hsx.m.rel b k hb3
     refine ⟨oh, hφ2 b oh h1, ?_⟩
     cases oh with
     | none => exact h2
     | some x =>
      obtain ⟨r1, r2, r3, r4, C, r5, r6, r7⟩ := h2
      refine ⟨r1, r2, r3, r4, C, by rw [hold b k x hb3 h1 hb2]; exact r5, r6, fun i y hy => ⟨(r7 i y hy).1, fun j d hj => ?_⟩⟩
      obtain ⟨q, hq, hr⟩ := (r7 i y hy).2 j d hj
      exact ⟨q, hq, hr.mono hRw hR2 hφ2⟩
   ·intro b1 b2 k1 k2 y1 y2 h1 h2 e1 e2 heq
    rcases split b1 k1 h1 with h1 | ⟨h11, h12, h13⟩ <;> rcases split b2 k2 h2 with h2 | ⟨h21, h22, h23⟩
    ·exact n1.inj b1 b2 k1 k2 y1 y2 h1 h2 (φ2W b1 k1 y1 h1 e1) (φ2W b2 k2 y2 h2 e2) heq
    ·exfalso
     have f2 := φ2old b2 _ h21 e2
     rcases hWblk b1 k1 y1 h1 (φ2W b1 k1 y1 h1 e1) with h | h
     ·have := hsx.lt h23 f2; omega
     ·rw [heq] at h; exact hnp b2 k2 y2 h23 f2 h22 h
    ·exfalso
     have f1 := φ2old b1 _ h11 e1
     rcases hWblk b2 k2 y2 h2 (φ2W b2 k2 y2 h2 e2) with h | h
     ·have := hsx.lt h13 f1; omega
     ·rw [← heq] at h; exact hnp b1 k1 y1 h13 f1 h12 h
    ·exact hsx.m.inj b1 b2 k1 k2 y1 y2 h13 h23 (φ2old b1 _ h11 e1) (φ2old b2 _ h21 e2) heq
   ·intro b k x hb hx hR2x
    rcases split b k hb with hb | ⟨hb1, hb2, hb3⟩
    ·have hx' := φ2W b k x hb hx
     have hnR' := n1.notR b k x hb hx'
     rcases hR2' _ hR2x with h | ⟨h, _⟩
     ·exact hnR' (hRR' _ (.inl h))
     ·exact hnR' h
    ·have hx' := φ2old b _ hb1 hx
     rcases hR2' _ hR2x with h | ⟨_, h | h⟩
     ·exact hsx.m.notR b k x hb3 hx' h
     ·have := hsx.lt hb3 hx'; omega
     ·exact hnp b k x hb3 hx' hb2 h
   ·intro b x hx
    have hx' : (match φ'.via σ b with | some x => some x | none => φ b) = some x := hx
    rw [lk_append, lk_append]
    cases hq : φ'.via σ b with
    | some z => obtain ⟨y, hy⟩ := viaW b z hq; exact ⟨y, by rw [hy]; simp⟩
    | none =>
     rw [hq] at hx'
     obtain ⟨y, hy⟩ := hsx.dom b x hx'
     cases h1 : (lk b W).or (lk b (deadL (srcs ρ))) with
     | none => exact ⟨y, by rw [hy]; rfl⟩
     | some z => exact ⟨z, rfl⟩
   ·intro b k x hb hx
    rcases split b k hb with hb | ⟨hb1, hb2, hb3⟩
    ·rcases hWblk b k x hb (φ2W b k x hb hx) with h | h
     ·exact .inl (Nat.le_trans wsz h)
     ·exact pfresh _ h
    ·exact hsx.fresh b k x hb3 (φ2old b _ hb1 hx)
   ·intro n hn'
    rcases hR2' n hn' with h | ⟨_, h | h⟩
    ·exact hsx.Rn n h
    ·exact .inr (.inl (Nat.le_trans wsz h))
    ·exact .inr (pfresh n h)
   ·exact hsx.ext.trans hext' (fun i hi hp => (pfresh i hp).resolve_left (by omega))
   ·intro b hb
    have hdef : φ2 b = (match φ'.via σ b with | some x => some x | none => φ b) := rfl
    cases hq : φ'.via σ b with
    | none => rw [hdef, hq]; exact hsx.keep b hb
    | some z =>
     obtain ⟨y, hy⟩ := viaW b z hq
     by_cases hbs : b ∈ srcs ρ
     ·have := homeS b z hbs hq
      have h2 : φ2 b = φ b := by rw [hdef, hq]; exact this.symm
      rw [h2]
      exact hsx.keep b hb
     ·have := (hWnew b y hy hbs).2
      omega
  have hvu := wkP_rel (R' := R') hmem' (m := []) (fun _ h => h) (fun b k h hb => by simp [lk] at hb) hru hv
  by_cases hLe : L = []
  ·refine main R' (fun n h => hRR' n (.inl h)) (fun n h => ?_) hRb' (fun _ _ _ _ _ _ _ _ _ h => h) hvu
   rcases hRn' n h with (h1 | ⟨b, k, x, h1, _⟩) | h1 | h1
   ·exact .inl h1
   ·rw [hLe] at h1; simp [lk] at h1
   ·exact .inr ⟨h, .inl h1⟩
   ·exact .inr ⟨h, .inr h1⟩
  ·obtain ⟨s1, s2⟩ := hns hLe
   refine main R (fun _ h => h) (fun n h => .inl h) (fun n h => Nat.lt_of_lt_of_le (hsx.Rb n h) hext'.size) (fun b k hb x hx j d u' hj hr => ?_) (hvu.noSl s1)
   exact hr.noSl (cells_noSl (noSlW_mem s2 b k (lk_mem hb) x hx) j d hj)
end
end Go.Ab
