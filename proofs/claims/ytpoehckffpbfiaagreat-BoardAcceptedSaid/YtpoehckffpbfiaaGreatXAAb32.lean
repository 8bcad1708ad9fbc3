/- The abstract layer, part 32: a range over a function. -/
import Derived.Test.YtpoehckffpbfiaaGreatXAAb31
import Derived.RangeFuncIn
import Derived.RangeFuncLeaves
import Derived.RangeFuncRecord
import Derived.RangeFuncSeq
import Derived.Shelf.Abstract
import Derived.WalkKit
import Derived.OwnWalkIn
import Derived.TacticsInMore
import Derived.LoopNIn
import Derived.LoopIn
import Derived.StillTactics
namespace Go.Ab
open Go.RowKit
variable {P : Program}
theorem wpOps_round {ops : Array Oper} {Q : Exit → Act → World → Prop} {lp n : Nat} (hd : ∀ o ∈ ops, ∀ c, o.op ≠ .defer c) (hQ : ¬ LetsOut Q) : ∀ (l : List Nat) (a : Act) (w : World), wpOps P ops Q l a w → wpOpsIn (Fence.wide.inRound lp) n P ops Q l a w
 | [], a, w, h => h
 | i :: l, a, w, h => by
  simp only [wpOps] at h
  simp only [wpOpsIn]
  cases ho : ops[i]? with
  | none =>
   simp only [ho] at h ⊢
   exact wpOps_round hd hQ l a w h
  | some o =>
   simp only [ho] at h ⊢
   by_cases hw : Region.wanted o (yielded ops a.tmps) = true
   ·simp only [hw, if_true] at h ⊢
    rcases h with h | ⟨_, h⟩
    ·refine ⟨fun _ _ => trivial, ?_⟩
     rw [Oper.semAt_eq _ _ _ (hd o (Array.mem_of_getElem? ho))]
     unfold Oper.wp at h
     generalize (execOp a.eval o).run P w = r at h
     cases r with
     | ok x w' =>
      cases x with
      | value v => exact wpOps_round hd hQ l _ _ h
      | skip => exact wpOps_round hd hQ l _ _ h
      | defer d => exact wpOps_round hd hQ l _ _ h
      | enter f args =>
       refine ⟨fun e => by simp [Fence.inRound, Fence.wide] at e, ?_⟩
       refine callsIn_wide.2 (Calls.mono h ?_)
       intro e w'' hq
       cases e with
       | returned v => exact wpOps_round hd hQ l _ _ hq
       | panicked c => exact hq
       | outgrown => exact hq
      | row r args =>
       refine ⟨fun e => by simp [Fence.inRound, Fence.wide] at e, ?_⟩
       intro c cs _
       obtain ⟨v, w'', hr, hs⟩ := h c cs
       exact ⟨v, w'', wpOps_round hd hQ l _ _ hr, stepsIn_wide.2 hs⟩
      | round _ _ _ _ _ => exact h.elim
      | _ => exact h.elim
     | halt x w' =>
      cases x with
      | panic v => exact h
      | _ => exact h.elim
    ·exact absurd h hQ
   ·simp only [hw, if_false, Bool.false_eq_true] at h ⊢
    exact ⟨fun _ _ => trivial, wpOps_round hd hQ l _ _ h⟩
theorem wpOps_defers {ops : Array Oper} {Q : Exit → Act → World → Prop} {ds : List Deferred} (hd : ∀ o ∈ ops, ∀ ρ w d w', (execOp ρ o).run P w ≠ .ok (.defer d) w') (hQ : ¬ LetsOut Q) (hP : ∀ ch a w, ¬ Q (.panic ch) a w) : ∀ (l : List Nat) (a : Act) (w : World), wpOps P ops Q l a w → wpOps P ops (fun e a' w' => ∃ a'', a' = { a'' with defers := ds } ∧ Q e a'' w') l { a with defers := ds } w
 | [], a, w, h => ⟨a, rfl, h⟩
 | i :: l, a, w, h => by
  simp only [wpOps] at h ⊢
  cases ho : ops[i]? with
  | none =>
   simp only [ho] at h ⊢
   exact wpOps_defers hd hQ hP l a w h
  | some o =>
   simp only [ho] at h ⊢
   have hput : ∀ v, ({ a with defers := ds } : Act).put o.dst v = { (a.put o.dst v) with defers := ds } := by
    intro v
    unfold Act.put
    cases o.dst <;> rfl
   by_cases hw : Region.wanted o (yielded ops a.tmps) = true
   ·simp only [hw, if_true] at h ⊢
    rcases h with h | ⟨_, h⟩
    ·refine .inl ?_
     unfold Oper.wp at h ⊢
     have hev : ({ a with defers := ds } : Act).eval = a.eval := rfl
     rw [hev]
     generalize hr : (execOp a.eval o).run P w = r at h
     cases r with
     | ok x w' =>
      cases x with
      | value v => simp only [Oper.upon] at h ⊢; rw [hput]; exact wpOps_defers hd hQ hP l _ _ h
      | skip => simp only [Oper.upon] at h ⊢; rw [hput]; exact wpOps_defers hd hQ hP l _ _ h
      | defer d => exact absurd hr (hd o (Array.mem_of_getElem? ho) _ _ _ _)
      | enter f args =>
       simp only [Oper.upon] at h ⊢
       refine Calls.mono h ?_
       intro e w'' hq
       cases e with
       | returned v => show wpOps P ops _ l (({ a with defers := ds } : Act).put o.dst v) w''; rw [hput]; exact wpOps_defers hd hQ hP l _ _ hq
       | panicked c => exact absurd hq (hP _ _ _)
       | outgrown => exact absurd hq hQ
      | row r args =>
       simp only [Oper.upon] at h ⊢
       refine Rows.mono h fun v w'' hq => ?_
       rw [hput]; exact wpOps_defers hd hQ hP l _ _ hq
      | _ => exact h.elim
     | halt x w' =>
      cases x with
      | panic v => exact absurd h (hP _ _ _)
      | _ => exact h.elim
    ·exact absurd h hQ
   ·simp only [hw, if_false, Bool.false_eq_true] at h ⊢
    rw [hput]
    exact wpOps_defers hd hQ hP l _ _ h
theorem wpIn_region_run {id lp n : Nat} {ops : Array Oper} {draw : Bool} {Q : Exit → Act → World → Prop} {c : Ctx} {K : St → Prop} {s : St} {a : Act} {w : World} {r : List (Option Eff)} (hd : ∀ o ∈ ops, ∀ c, o.op ≠ .defer c) (hQ : ¬ LetsOut Q) (hKs : ∀ s s', Same s s' → K s → K s') (hK : ∀ s a w, K s → SRel c s a w → Q .normal a w)
  (hlen : ops.toList.length = r.length) (hmix : P.follows .mixedOrders = true) (hdr : draw = true → okD ops (items 0 ops.toList r) = true) (hr : Run P ops K (items 0 ops.toList r) s) (hs : SRel c s a w) : (Code.region id ops draw).wpIn (Fence.wide.inRound lp) n P Q a w := by
 obtain ⟨h1, h2⟩ := items_spec ops.toList r 0 hlen
 have hio : ∀ x ∈ items 0 ops.toList r, ops[x.i]? = some x.o := fun x hx => by
  have := (h2 x hx).2
  simpa using this
 cases draw with
 | false =>
  refine wpIn_region (wpOps_round hd hQ _ _ _ ?_)
  have := wpOps_of_run hK _ s a w hio hr hs
  rw [h1] at this
  simpa using this
 | true =>
  refine wpIn_region_draw fun t => wpOps_round hd hQ _ _ _ ?_
  simp only [Region.schedule, hmix, Bool.true_or, if_true]
  refine wpAny_sound ops.size t _ a _ ?_
  have hok := hdr rfl
  unfold okD at hok
  simp only [Bool.and_eq_true] at hok
  have hl : (items 0 ops.toList r).length = ops.size := by
   have := congrArg List.length h1
   simpa using this
  have hs' : SRel c s a { w with drawn := w.drawn + 1 } := by
   obtain ⟨φ, R, q⟩ := hs
   have e := q.ext.trans (G' := fun _ => False) (c := { w with drawn := w.drawn + 1 }) ⟨rfl, rfl, rfl, Nat.le_refl _, fun _ _ _ => rfl⟩ (fun _ _ h => h.elim)
   refine ⟨φ, R, q.n, fun t av ht => (q.t t av ht).mono (fun _ _ => rfl) (fun _ h => h) (fun _ _ h => h), ⟨fun b k hb => ?_, q.m.inj, q.m.notR⟩, q.dom, q.fresh, q.R0, q.Rn, q.Rb, e, q.d, q.keep⟩
   obtain ⟨oh, ho, hr⟩ := q.m.rel b k hb
   exact ⟨oh, ho, hr.mono (fun _ _ => rfl) (fun _ _ => rfl) (fun _ _ h => h)⟩
  refine wpAny_of_run hKs hK hok.1 ops.size _ _ s a _ hl (by simp) hio ?_ ?_ ?_ hok.2 hr hs'
  ·rw [h1]
   simp only [Nat.zero_add, List.map_id']
   exact List.pairwise_lt_range
  ·intro i hi
   rw [h1]
   simp [Array.getD_eq_getD_getElem?, hi]
  ·intro j o ho hj
   simp [Array.getD_eq_getD_getElem?, (Array.getElem?_eq_some_iff.1 ho).1] at hj
def AWR (P : Program) (lim : Nat) (code : Code) (Q : Exit → St → Prop) (s : St) : Prop :=
 ∀ (lp n : Nat) (c : Ctx) (_ : c.w0.heap.size = lim) (a : Act) (w : World), SRel c s a w → code.wpIn (Fence.wide.inRound lp) n P (fun e a' w' => ∃ s', SRel c s' a' w' ∧ Q e s') a w
def noDefer (o : Oper) : Bool := match o.op with
 | .defer _ => false
 | _ => true
theorem noDefer_spec {ops : Array Oper} (h : ops.toList.all noDefer = true) : ∀ o ∈ ops, ∀ c, o.op ≠ .defer c := by
 intro o ho c hc
 have := List.all_eq_true.1 h o (by simpa using ho)
 simp [noDefer, hc] at this
def normQ (F : St → Prop) : Exit → St → Prop
 | .normal, s => F s
 | _, _ => False
theorem awr_go {lim id : Nat} {ops : Array Oper} {draw : Bool} {s : St} {F : St → Prop} (hmix : P.follows .mixedOrders = true) (hd : ops.toList.all noDefer = true) (h : Go P ops draw F ops.toList s []) : AWR P lim (.region id ops draw) (normQ F) s := by
 obtain ⟨r, h1, h2, h3⟩ := h
 intro lp n c hc0 a w hs
 refine wpIn_region_run (K := fun s' => ∃ s0, Same s0 s' ∧ F s0) (c := c) (noDefer_spec hd) ?_ ?_ ?_ h1.symm hmix (by simpa using h2) (Run.mono (fun s h => ⟨s, ⟨rfl, fun _ => rfl, fun _ => rfl⟩, h⟩) _ (h3 0)) hs
 ·rintro ⟨_, _, _, _, h⟩
  exact h
 ·rintro s s' h ⟨s0, h0, hq⟩
  exact ⟨s0, ⟨h0.n.trans h.n, fun t => (h0.t t).trans (h.t t), fun b => (h0.m b).trans (h.m b)⟩, hq⟩
 ·rintro s a w ⟨s0, h0, hq⟩ ⟨φ, R, hsx⟩
  exact ⟨s0, ⟨φ, R, h0.symm.srelX hsx⟩, hq⟩
theorem awr_block {lim id : Nat} {code : Code} {s : St} {F : St → Prop} (h : AWR P lim code (normQ F) s) : AWR P lim (.block id code) (normQ F) s := by
 intro lp n c hc0 a w hs
 refine wpIn_block (wpIn_mono (h lp n c hc0 a w hs) ?_)
 rintro e a' w' ⟨s', hs', hq⟩
 cases e with
 | normal => exact ⟨s', hs', hq⟩
 | _ => exact hq.elim
structure HPost (w : World) (φ : Ph) (R : Nat → Prop) (M M' : Mem) (w' : World) (φ' : Ph) (R' : Nat → Prop) : Prop where
 mem : MemOK w' R' φ' M'
 dom : ∀ b x, φ' b = some x → ∃ y, lk b M' = some y
 fresh : ∀ b k h, lk b M' = some (some k) → φ' b = some (some h) → w.heap.size ≤ h.blk ∨ blksOf φ M h.blk
 keep : ∀ b k k', lk b M = some (some k) → lk b M' = some (some k') → φ' b = φ b
 R0 : ∀ n, R n → R' n
 Rn : ∀ n, R' n → R n ∨ w.heap.size ≤ n ∨ blksOf φ M n
 Rb : ∀ n, R' n → n < w'.heap.size
 ext : Ext w w' (blksOf φ M)
def RFin (M M' : Mem) (s : St) : Prop := ∃ ρ, rhoOK ρ M' = true ∧ keepOK ρ M M' = true ∧ wkM ρ s.m M'
theorem round_of_awr {body : Code} {n : Nat} {t : List (Nat × AV)} {M M' : Mem} (hM : bigKeys M = true) (h : ∀ lim, AWR P lim body (normQ (RFin M M')) ⟨n, t, M⟩) {w : World} {a : Act} {φ : Ph} {R : Nat → Prop} (hn : a.tmps.size = n) (hd : a.defers = [])
  (ht : ∀ q av, lk q t = some av → Rel w R φ av (a.tmps.getD q undef)) (hmem : MemOK w R φ M) (hdom : ∀ b x, φ b = some x → ∃ y, lk b M = some y) (hRb : ∀ m, R m → m < w.heap.size) (lp k : Nat) :
  body.wpIn (Fence.wide.inRound lp) k P (fun e _ w' => e = .normal ∧ ∃ φ' R', HPost w φ R M M' w' φ' R') a w := by
 have hs0 : SRelX ⟨w, blksOf φ M, R, φ⟩ φ R ⟨n, t, M⟩ a w :=
  ⟨hn, ht, hmem, hdom, fun b k x hb hx => .inr ⟨b, k, x, hb, hx, rfl⟩, fun _ h => h, fun _ h => .inl h, hRb, Ext.refl _ _, hd, fun b _ => .inr rfl⟩
 refine wpIn_mono (h w.heap.size lp k ⟨w, blksOf φ M, R, φ⟩ rfl a w ⟨φ, R, hs0⟩) ?_
 rintro e a' w' ⟨s', ⟨φ1, R1, hs1⟩, hq⟩
 cases e with
 | normal =>
  refine ⟨rfl, ?_⟩
  obtain ⟨ρ, f2, f3, f5⟩ := hq
  obtain ⟨i1, i2⟩ := rhoOK_spec f2
  obtain ⟨m1, m2, m3⟩ := wk_mem hs1.m i1 i2 f5
  refine ⟨φ1.via ρ, R1, m1, m2, fun b k x hb hx => ?_, fun b k k' h1 h2 => ?_, hs1.R0, hs1.Rn, hs1.Rb, hs1.ext⟩
  ·obtain ⟨b0, k0, _, e1, e2⟩ := m3 b k x hb hx
   exact hs1.fresh b0 k0 x e1 e2
  ·have hk := List.all_eq_true.1 f3 _ (lk_mem h1)
   simp only [h2] at hk
   cases hq : lk b ρ with
   | none => simp [hq] at hk
   | some o =>
    cases o with
    | none => simp [hq] at hk
    | some q =>
     simp only [hq] at hk
     have hqb := Nat.eq_of_beq_eq_true hk
     rw [hqb] at hq
     have hbig : 1000 ≤ b := Nat.le_of_ble_eq_true (by simpa using List.all_eq_true.1 hM _ (lk_mem h1))
     have hlive := wkM_mem f5 b k' (lk_mem h2)
     simp only [hq] at hlive
     obtain ⟨k0, hk0, _⟩ := hlive
     obtain ⟨oh, ho, _⟩ := hs1.m.rel b k0 hk0
     have : φ1 b = φ b := by
      rcases hs1.keep b hbig with h | h
      ·rw [h] at ho; cases ho
      ·exact h
     simp [Ph.via, hq, this]
 | _ => exact hq.elim
end Go.Ab
