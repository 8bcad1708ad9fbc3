/- The abstract layer, part 11: states that say less; what a function does. -/
import Derived.Test.YtpoehckffpbfiaaGreatXAAb10
namespace Go.Ab
open Go.RowKit
variable {lim : Nat}
def lenL : List AV → List AV → Prop
 | [], [] => True
 | c :: cs, d :: ds => c.cells.length = d.cells.length ∧ lenL cs ds
 | _, _ => False
theorem lenL_get : ∀ {cs ds : List AV}, lenL cs ds → ∀ (i : Nat) (c d : AV), cs[i]? = some c → ds[i]? = some d → c.cells.length = d.cells.length
 | [], [], _, i, c, d, h, _ => by simp at h
 | c :: cs, d :: ds, h, i, c', d', hc, hd => by
  cases i with
  | zero => simp at hc hd; subst hc; subst hd; exact h.1
  | succ i => exact lenL_get h.2 i c' d' (by simpa using hc) (by simpa using hd)
 | [], _ :: _, h, _, _, _, _, _ => by simp [lenL] at h
 | _ :: _, [], h, _, _, _, _, _ => by simp [lenL] at h
def wkX (ρ : Rho) (xs ys : List AV) : Prop := (xs = ys ∧ ∀ y ∈ ys, noref y = true) ∨ (wkL [] ρ xs ys ∧ lenL xs ys)
def wkM (ρ : Rho) (m : Mem) : Mem → Prop
 | [] => True
 | (_, none) :: _ => False
 | (b', some k) :: l => (match lk b' ρ with
   | some (some b) => ∃ k0, lk b m = some (some k0) ∧ k0.ty = k.ty ∧ k0.esz = k.esz ∧ wkX ρ k0.xs k.xs
   | some none => k.xs = []
   | none => False) ∧ wkM ρ m l
def wkT (ρ : Rho) (s : St) : List (Nat × AV) → Prop
 | [] => True
 | (t, av) :: l => wkP [] ρ (s.get t) av ∧ wkT ρ s l
def injB : Rho → Bool
 | [] => true
 | (_, some b) :: l => (l.all fun p => match p.2 with | some b' => !Nat.beq b b' | none => true) && injB l
 | (_, none) :: l => injB l
def rhoOK (ρ : Rho) (m : Mem) : Bool := injB ρ && ρ.all fun p => (lk p.1 m).isSome && (Nat.blt p.1 1000 || match p.2 with | some b => Nat.beq b p.1 | none => false)
theorem lk_mem {α : Type} {k : Nat} {v : α} {l : List (Nat × α)} (h : lk k l = some v) : (k, v) ∈ l := by
 induction l with
 | nil => simp [lk] at h
 | cons p l ih =>
  obtain ⟨j, u⟩ := p
  rw [lk_cons] at h
  split at h
  ·subst_vars; cases h; simp
  ·simp [ih h]
theorem injB_spec : ∀ {ρ : Rho}, injB ρ = true → ∀ b1 b2 b, lk b1 ρ = some (some b) → lk b2 ρ = some (some b) → b1 = b2
 | [], _, b1, b2, b, h1, _ => by simp [lk] at h1
 | (j, some q) :: l, h, b1, b2, b, h1, h2 => by
  simp only [injB, Bool.and_eq_true] at h
  rw [lk_cons] at h1 h2
  have no : ∀ b1, lk b1 l = some (some q) → False := by
   intro b1 hb
   have := List.all_eq_true.1 h.1 _ (lk_mem hb)
   simp at this
  by_cases e1 : b1 = j
  ·by_cases e2 : b2 = j
   ·rw [e1, e2]
   ·rw [if_pos e1] at h1; cases h1
    rw [if_neg e2] at h2
    exact (no _ h2).elim
  ·rw [if_neg e1] at h1
   by_cases e2 : b2 = j
   ·rw [if_pos e2] at h2; cases h2
    exact (no _ h1).elim
   ·rw [if_neg e2] at h2
    exact injB_spec h.2 b1 b2 b h1 h2
 | (j, none) :: l, h, b1, b2, b, h1, h2 => by
  simp only [injB] at h
  rw [lk_cons] at h1 h2
  by_cases e1 : b1 = j
  ·rw [if_pos e1] at h1; cases h1
  ·rw [if_neg e1] at h1
   by_cases e2 : b2 = j
   ·rw [if_pos e2] at h2; cases h2
   ·rw [if_neg e2] at h2
    exact injB_spec h b1 b2 b h1 h2
theorem wkM_mem {ρ : Rho} {m : Mem} : ∀ {M : Mem}, wkM ρ m M → ∀ b' k, (b', some k) ∈ M → (match lk b' ρ with
   | some (some b) => ∃ k0, lk b m = some (some k0) ∧ k0.ty = k.ty ∧ k0.esz = k.esz ∧ wkX ρ k0.xs k.xs
   | some none => k.xs = []
   | none => False)
 | [], _, b', k, h => by cases h
 | (j, none) :: l, hw, _, _, _ => by simp [wkM] at hw
 | (j, some q) :: l, hw, b', k, h => by
  simp only [wkM] at hw
  rcases List.mem_cons.1 h with h | h
  ·cases h; exact hw.1
  ·exact wkM_mem hw.2 b' k h
theorem wkP_cells {ρ : Rho} {x y : AV} (h : wkP [] ρ x y) (hl : x.cells.length = y.cells.length) : ∀ (j : Nat) (c d : AV), x.cells[j]? = some c → y.cells[j]? = some d → wkP [] ρ c d := by
 intro j c d hc hd
 by_cases hy : y = .bot
 ·subst hy
  simp only [AV.cells] at hd
  cases j with
  | zero => simp at hd; subst hd; cases c <;> simp [wkP]
  | succ j => simp at hd
 ·have one : ∀ {x y : AV}, x.cells = [x] → y.cells = [y] → wkP [] ρ x y → ∀ (j : Nat) (c d : AV), x.cells[j]? = some c → y.cells[j]? = some d → wkP [] ρ c d := by
   intro x y h1 h2 h j c d hc hd
   rw [h1] at hc
   rw [h2] at hd
   cases j with
   | zero => simp at hc hd; subst hc; subst hd; exact h
   | succ j => simp at hc
  cases x <;> cases y <;> first | exact absurd rfl hy | (simp [wkP] at h; done) | exact one rfl rfl h j c d hc hd | skip
  rename_i cs ds
  simp only [wkP] at h
  exact (wkL_get h).2 j c d hc hd
theorem wk_mem {φ : Ph} {R : Nat → Prop} {mm : Mem} {w : World} (hs : MemOK w R φ mm) {ρ : Rho} {M : Mem} (hi : injB ρ = true) (hi2 : (ρ.all fun p => (lk p.1 M).isSome) = true) (hM : wkM ρ mm M) :
  MemOK w R (φ.via ρ) M ∧ (∀ b x, φ.via ρ b = some x → ∃ y, lk b M = some y) ∧ (∀ b k h, lk b M = some (some k) → φ.via ρ b = some (some h) → ∃ b0 k0, lk b ρ = some (some b0) ∧ lk b0 mm = some (some k0) ∧ φ b0 = some (some h)) := by
 have hinj := injB_spec hi
 have src : ∀ b k h, lk b M = some (some k) → φ.via ρ b = some (some h) → ∃ b0 k0, lk b ρ = some (some b0) ∧ lk b0 mm = some (some k0) ∧ φ b0 = some (some h) ∧ k0.ty = k.ty ∧ k0.esz = k.esz ∧ wkX ρ k0.xs k.xs := by
  intro b k h hb hv
  have := wkM_mem hM b k (lk_mem hb)
  unfold Ph.via at hv
  cases hq : lk b ρ with
  | none => simp [hq] at hv
  | some o =>
   cases o with
   | none => simp [hq] at hv
   | some b0 =>
    simp only [hq] at hv this
    obtain ⟨k0, h0, h1, h2, h3⟩ := this
    exact ⟨b0, k0, rfl, h0, hv, h1, h2, h3⟩
 refine ⟨⟨?_, ?_, ?_⟩, ?_, ?_⟩
 ·intro b k hb
  have hm := wkM_mem hM b k (lk_mem hb)
  cases hq : lk b ρ with
  | none => simp [hq] at hm
  | some o =>
   cases o with
   | none =>
    simp only [hq] at hm
    exact ⟨none, by simp [Ph.via, hq], hm⟩
   | some b0 =>
    simp only [hq] at hm
    obtain ⟨k0, h0, h1, h2, h3⟩ := hm
    obtain ⟨oh, ho, hr⟩ := hs.rel b0 k0 h0
    refine ⟨oh, by simp [Ph.via, hq, ho], ?_⟩
    cases oh with
    | none =>
     simp only [BlkRel] at hr ⊢
     rw [hr] at h3
     rcases h3 with ⟨h3, _⟩ | ⟨h3, _⟩
     ·exact h3.symm
     ·have := (wkL_get h3).1
      exact List.eq_nil_of_length_eq_zero (by simpa using this.symm)
    | some x =>
     obtain ⟨r1, r2, r3, r4, C, r5, r6, r7⟩ := hr
     rcases h3 with ⟨h3, h4⟩ | ⟨h3, h4⟩
     ·refine ⟨by rw [← h2, r1], r2, by rw [← h3]; exact r3, r4, C, by rw [← h1]; exact r5, r6, fun i y hy => ?_⟩
      have hy0 := hy
      rw [← h3] at hy
      obtain ⟨q1, q2⟩ := r7 i y hy
      refine ⟨q1, fun j c' hj => ?_⟩
      obtain ⟨u, hu, hru⟩ := q2 j c' hj
      refine ⟨u, hu, hru.noref ?_⟩
      have hn := h4 y (List.mem_of_getElem? hy0)
      cases y with
      | agg cs => exact norefL_get (cs := cs) (by simpa [noref] using hn) j c' hj
      | _ =>
       simp only [AV.cells] at hj
       cases j with
       | zero => simp at hj; subst hj; exact hn
       | succ j => simp at hj
     ·obtain ⟨g1, g2⟩ := wkL_get h3
      refine ⟨by rw [← h2, r1], r2, by rw [← g1]; exact r3, r4, C, by rw [← h1]; exact r5, r6, fun i y hy => ?_⟩
      have hlt := (List.getElem?_eq_some_iff.1 hy).1
      have hx : k0.xs[i]? = some (k0.xs[i]'(by omega)) := List.getElem?_eq_getElem (by omega)
      obtain ⟨q1, q2⟩ := r7 i _ hx
      have hlen := lenL_get h4 i _ y hx hy
      refine ⟨by rw [← hlen]; exact q1, fun j d hj => ?_⟩
      have hjl : j < (k0.xs[i]'(by omega)).cells.length := by rw [hlen]; exact (List.getElem?_eq_some_iff.1 hj).1
      obtain ⟨u, hu, hru⟩ := q2 j _ (List.getElem?_eq_getElem hjl)
      refine ⟨u, hu, ?_⟩
      exact wkP_rel hs (m := []) (fun _ h => h) (fun b k h hb => by simp [lk] at hb) hru (wkP_cells (g2 i _ y hx hy) hlen j _ d (List.getElem?_eq_getElem hjl) hj)
 ·intro b b' k k' h h' hb hb' hv hv' heq
  obtain ⟨q, kq, e1, e2, e3, _⟩ := src b k h hb hv
  obtain ⟨q', kq', f1, f2, f3, _⟩ := src b' k' h' hb' hv'
  have := hs.inj q q' kq kq' h h' e2 f2 e3 f3 heq
  subst this
  exact hinj b b' q e1 f1
 ·intro b k h hb hv
  obtain ⟨q, kq, e1, e2, e3, _⟩ := src b k h hb hv
  exact hs.notR q kq h e2 e3
 ·intro b x hx
  unfold Ph.via at hx
  cases hq : lk b ρ with
  | none => simp [hq] at hx
  | some o =>
   have := List.all_eq_true.1 hi2 _ (lk_mem hq)
   exact Option.isSome_iff_exists.1 this
 ·intro b k h hb hv
  obtain ⟨q, kq, e1, e2, e3, _⟩ := src b k h hb hv
  exact ⟨q, kq, e1, e2, e3⟩
def wkS (ρ : Rho) (s h : St) : Prop := s.n = h.n ∧ rhoOK ρ h.m = true ∧ wkT ρ s h.t ∧ wkM ρ s.m h.m
theorem wkT_mem {ρ : Rho} {s : St} : ∀ {l : List (Nat × AV)}, wkT ρ s l → ∀ t av, (t, av) ∈ l → wkP [] ρ (s.get t) av
 | [], _, t, av, h => by cases h
 | (j, q) :: l, hw, t, av, h => by
  simp only [wkT] at hw
  rcases List.mem_cons.1 h with h | h
  ·cases h; exact hw.1
  ·exact wkT_mem hw.2 t av h
theorem rhoOK_spec {ρ : Rho} {M : Mem} (h : rhoOK ρ M = true) : injB ρ = true ∧ (ρ.all fun p => (lk p.1 M).isSome) = true := by
 unfold rhoOK at h
 simp only [Bool.and_eq_true] at h
 refine ⟨h.1, List.all_eq_true.2 fun p hp => ?_⟩
 have := List.all_eq_true.1 h.2 p hp
 simp only [Bool.and_eq_true] at this
 exact this.1
theorem via_keep {ρ : Rho} {M : Mem} {φ φ0 : Ph} (h : rhoOK ρ M = true) (hk : ∀ b, 1000 ≤ b → φ b = none ∨ φ b = φ0 b) : ∀ b, 1000 ≤ b → φ.via ρ b = none ∨ φ.via ρ b = φ0 b := by
 intro b hb
 unfold rhoOK at h
 simp only [Bool.and_eq_true] at h
 unfold Ph.via
 cases hq : lk b ρ with
 | none => exact .inl rfl
 | some o =>
  have := List.all_eq_true.1 h.2 _ (lk_mem hq)
  simp only [Bool.and_eq_true, Bool.or_eq_true] at this
  have hlt : ¬ (Nat.blt b 1000 = true) := by simp; omega
  have := this.2.resolve_left hlt
  cases o with
  | none => simp at this
  | some q =>
   have := Nat.eq_of_beq_eq_true this
   subst this
   exact hk _ hb
theorem SRelX.weaken {c : Ctx} {φ : Ph} {R : Nat → Prop} {s h : St} {a : Act} {w : World} (hs : SRelX c φ R s a w) {ρ : Rho} (hw : wkS ρ s h) : SRelX c (φ.via ρ) R h a w := by
 obtain ⟨h1, h2, h3, h4⟩ := hw
 obtain ⟨i1, i2⟩ := rhoOK_spec h2
 obtain ⟨m1, m2, m3⟩ := wk_mem hs.m i1 i2 h4
 refine ⟨hs.n.trans h1, fun t av ht => ?_, m1, m2, fun b k x hb hx => ?_, hs.R0, hs.Rn, hs.Rb, hs.ext, hs.d, via_keep h2 hs.keep⟩
 ·exact wkP_rel hs.m (m := []) (fun _ h => h) (fun b k h hb => by simp [lk] at hb) (hs.get t) (wkT_mem h3 t av (lk_mem ht))
 ·obtain ⟨b0, k0, _, e1, e2⟩ := m3 b k x hb hx
  exact hs.fresh b0 k0 x e1 e2
theorem SRel.weaken {c : Ctx} {s h : St} {a : Act} {w : World} (hs : SRel c s a w) {ρ : Rho} (hw : wkS ρ s h) : SRel c h a w := by
 obtain ⟨φ, R, q⟩ := hs
 exact ⟨_, _, q.weaken hw⟩
def Holds (P : Program) (f : Nat) (args : List AV) (M : Mem) (r : AV) (M' : Mem) : Prop :=
 ∀ (w : World) (vs : Array Value) (φ : Ph) (R : Nat → Prop), args.length = vs.size → (∀ (i : Nat) (c : AV) (v : Value), args[i]? = some c → vs[i]? = some v → Rel w R φ c v) → MemOK w R φ M →
  (∀ b x, φ b = some x → ∃ y, lk b M = some y) → (∀ n, R n → n < w.heap.size) →
  Calls P f vs w fun e w' => ∃ v φ' R', e = .returned v ∧ Rel w' R' φ' r v ∧ MemOK w' R' φ' M' ∧ (∀ b k h, lk b M' = some (some k) → φ' b = some (some h) → w.heap.size ≤ h.blk ∨ blksOf φ M h.blk) ∧
   (∀ b k k', lk b M = some (some k) → lk b M' = some (some k') → φ' b = φ b) ∧ (∀ n, R n → R' n) ∧ (∀ n, R' n → R n ∨ w.heap.size ≤ n ∨ blksOf φ M n) ∧ (∀ n, R' n → n < w'.heap.size) ∧ Ext w w' (blksOf φ M)
def AWP (P : Program) (lim : Nat) (code : Code) (Q : Exit → St → Prop) (s : St) : Prop :=
 ∀ (c : Ctx) (_ : c.w0.heap.size = lim) (a : Act) (w : World), SRel c s a w → code.wp P (fun e a' w' => ∃ s', SRel c s' a' w' ∧ Q e s') a w
section
variable {P : Program} {Q : Exit → St → Prop} {s : St}
theorem awp_skip (h : Q .normal s) : AWP P lim .skip Q s := fun _ _ _ _ hs => wp_skip ⟨s, hs, h⟩
theorem awp_ret (h : Q .ret s) : AWP P lim .ret Q s := fun _ _ _ _ hs => wp_ret ⟨s, hs, h⟩
theorem awp_exit {id : Nat} (h : Q (.exit id) s) : AWP P lim (.exit id) Q s := fun _ _ _ _ hs => wp_exit ⟨s, hs, h⟩
def thenQ (next : St → Prop) (Q : Exit → St → Prop) : Exit → St → Prop
 | .normal, s => next s
 | e, s => Q e s
theorem awp_seq {x y : Code} (h : AWP P lim x (thenQ (AWP P lim y Q) Q) s) : AWP P lim (.seq x y) Q s := by
 intro c hc0 a w hs
 refine wp_seq (wp_mono (h c hc0 a w hs) ?_)
 rintro e a' w' ⟨s', hs', hq⟩
 cases e with
 | normal => exact hq c hc0 a' w' hs'
 | _ => exact ⟨s', hs', hq⟩
theorem awp_cond {x : Operand} {p q : Code} {b : Bool} (hx : s.ev x = .sc (.bool b)) (h1 : b = true → AWP P lim p Q s) (h2 : b = false → AWP P lim q Q s) : AWP P lim (.cond x p q) Q s := by
 intro c hc0 a w hs
 obtain ⟨φ, R, hsx⟩ := hs
 have hr := hsx.ev x
 rw [hx] at hr
 exact wp_cond_split hr.sc_inv (fun e => h1 e c hc0 a w ⟨φ, R, hsx⟩) (fun e => h2 e c hc0 a w ⟨φ, R, hsx⟩)
def blockQ (id : Nat) (Q : Exit → St → Prop) : Exit → St → Prop
 | .exit id', s => if id' = id then Q .normal s else Q (.exit id') s
 | e, s => Q e s
theorem awp_block {id : Nat} {x : Code} (h : AWP P lim x (blockQ id Q) s) : AWP P lim (.block id x) Q s := by
 intro c hc0 a w hs
 refine wp_block (wp_mono (h c hc0 a w hs) ?_)
 rintro e a' w' ⟨s', hs', hq⟩
 cases e with
 | exit id' =>
  simp only [Exit.inBlock]
  simp only [blockQ] at hq
  split
  ·rename_i h; rw [if_pos h] at hq; exact ⟨s', hs', hq⟩
  ·rename_i h; rw [if_neg h] at hq; exact ⟨s', hs', hq⟩
 | _ => exact ⟨s', hs', hq⟩
theorem awp_loop {X : Type} {body : Code} (head : X → St) (μ : X → Nat) (x0 : X) (h0 : ∃ ρ, wkS ρ s (head x0))
  (step : ∀ x, AWP P lim body (thenQ (fun s' => ∃ x' ρ, wkS ρ s' (head x') ∧ μ x' < μ x) Q) (head x)) : AWP P lim (.loop body) Q s := by
 intro c hc0 a w hs
 obtain ⟨ρ0, h0⟩ := h0
 have hs0 := hs.weaken h0
 intro b k cs
 have key : ∀ n x a w, μ x = n → SRel c (head x) a w →
   ∃ e a' w', (∃ s', SRel c s' a' w' ∧ Q e s') ∧ Arrives P (lone (b.at a (.code body :: .inLoop body :: k)) cs w) b k cs e a' w' := by
  intro n
  induction n using Nat.strongRecOn with
  | _ n ih =>
   intro x a w hn hx
   obtain ⟨e, a₁, w₁, ⟨s1, hs1, hq⟩, harr⟩ := step x c hc0 a w hx b (.inLoop body :: k) cs
   cases e with
   | normal =>
    obtain ⟨x', ρ, hw, hlt⟩ := hq
    obtain ⟨e₂, a₂, w₂, hq₂, harr₂⟩ := ih (μ x') (hn ▸ hlt) x' a₁ w₁ rfl (hs1.weaken hw)
    exact ⟨e₂, a₂, w₂, hq₂, .of_steps (Steps.trans harr (.one step_inLoop)) harr₂⟩
   | exit id => exact ⟨_, a₁, w₁, ⟨s1, hs1, hq⟩, .pass (x := .inLoop body) rfl (fun _ _ => .inl (by simp)) harr⟩
   | goto l => exact ⟨_, a₁, w₁, ⟨s1, hs1, hq⟩, .pass (x := .inLoop body) rfl (fun _ _ => .inl (by simp)) harr⟩
   | ret => exact ⟨_, a₁, w₁, ⟨s1, hs1, hq⟩, .pass (x := .inLoop body) rfl (fun _ _ => .inl (by simp)) harr⟩
   | panic ch => exact ⟨_, a₁, w₁, ⟨s1, hs1, hq⟩, .pass (x := .inLoop body) rfl (fun _ _ => .inl (by simp)) harr⟩
   | outgrown => exact ⟨_, a₁, w₁, ⟨s1, hs1, hq⟩, .pass (x := .inLoop body) rfl (fun _ _ => .inl (by simp)) harr⟩
 obtain ⟨e, a', w', hq, harr⟩ := key _ x0 a w rfl hs0
 exact ⟨e, a', w', hq, .of_steps (.one step_loop) harr⟩
theorem awp_weaken {body : Code} {h : St} (hw : ∃ ρ, wkS ρ s h) (hh : AWP P lim body Q h) : AWP P lim body Q s := by
 obtain ⟨ρ, hw⟩ := hw
 exact fun c hc0 a w hs => hh c hc0 a w (hs.weaken hw)
theorem Run.mono {ops : Array Oper} {K K' : St → Prop} (hK : ∀ s, K s → K' s) : ∀ (l : List Item) {s : St}, Run P ops K l s → Run P ops K' l s
 | [], _, h => hK _ h
 | _ :: l, _, h => ⟨h.1, Run.mono hK l h.2⟩
theorem awp_region {id : Nat} {ops : Array Oper} {draw : Bool} {r : List (Option Eff)} (hmix : P.follows .mixedOrders = true) (hlen : ops.toList.length = r.length) (hdr : draw = true → okD ops (items 0 ops.toList r) = true) (hr : Run P ops (Q .normal) (items 0 ops.toList r) s) : AWP P lim (.region id ops draw) Q s := by
 intro c hc0 a w hs
 refine wp_region_run (K := fun s' => ∃ s0, Same s0 s' ∧ Q .normal s0) (c := c) ?_ ?_ hlen hmix hdr (Run.mono (fun s h => ⟨s, ⟨rfl, fun _ => rfl, fun _ => rfl⟩, h⟩) _ hr) hs
 ·rintro s s' h ⟨s0, h0, hq⟩
  exact ⟨s0, ⟨h0.n.trans h.n, fun t => (h0.t t).trans (h.t t), fun b => (h0.m b).trans (h.m b)⟩, hq⟩
 ·rintro s a w ⟨s0, h0, hq⟩ ⟨φ, R, hsx⟩
  exact ⟨s0, ⟨φ, R, h0.symm.srelX hsx⟩, hq⟩
end
end Go.Ab
