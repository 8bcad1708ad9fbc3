/- The abstract layer, part 12: a function out of its body; a call. -/
import Derived.Test.YtpoehckffpbfiaaGreatXAAb11
namespace Go.Ab
open Go.RowKit
variable {lim : Nat}
section
variable {P : Program}
def ResOK (P : Program) (s : St) : List ResultVar → List AV → Prop
 | [], [] => True
 | .tmp t :: l, v :: vs => s.get t = v ∧ ResOK P s l vs
 | .cell a t :: l, v :: vs => (∃ D b i off k e, tyOf P t = some D ∧ s.get a = .ref b i off ∧ lk b s.m = some (some k) ∧ k.xs[i]? = some e ∧ rd D e.cells off = some v) ∧ ResOK P s l vs
 | _, _ => False
def retAV : List AV → AV
 | [v] => v
 | vs => .tup vs
def resRun (tmps : Array Value) : ResultVar → Sem Value
 | .tmp t => pure (tmps.getD t undef)
 | .cell q t => do loadVar t (← asAddr (tmps.getD q undef))
theorem results_eq (fn : Func) (tmps : Array Value) : results fn tmps = (do
  let vs ← fn.results.mapM (resRun tmps)
  pure (if h : vs.size = 1 then vs[0] else .tuple vs)) := by
 have : resRun tmps = (fun
   | ResultVar.tmp t => pure (tmps.getD t undef)
   | ResultVar.cell a t => do loadVar t (← asAddr (tmps.getD a undef))) := by funext r; cases r <;> rfl
 rw [this]
 rfl
theorem run_results {c : Ctx} {φ : Ph} {R : Nat → Prop} {s : St} {a : Act} {w : World} (hs : SRelX c φ R s a w) {fn : Func} {vs : List AV} (h : ResOK P s fn.results.toList vs) : ∃ v, (results fn a.tmps).run P w = .ok v w ∧ Rel w R φ (retAV vs) v := by
 have key : ∀ (rs : List ResultVar) (vs : List AV), ResOK P s rs vs → ∃ us : List Value, (rs.mapM (resRun a.tmps)).run P w = .ok us w ∧ us.length = vs.length ∧ ∀ (i : Nat) (x : AV) (u : Value), vs[i]? = some x → us[i]? = some u → Rel w R φ x u := by
  intro rs
  induction rs with
  | nil =>
   intro vs h
   cases vs with
   | nil => exact ⟨[], by simp, rfl, fun i x u hx => by simp at hx⟩
   | cons v vs => simp [ResOK] at h
  | cons r rs ih =>
   intro vs h
   cases vs with
   | nil => cases r <;> simp [ResOK] at h
   | cons v vs =>
    have fin : ∀ (u : Value), Rel w R φ v u → ResOK P s rs vs → ∃ us : List Value, (rs.mapM (resRun a.tmps)).run P w = .ok us w ∧ (u :: us).length = (v :: vs).length ∧ ∀ (i : Nat) (x : AV) (u' : Value), (v :: vs)[i]? = some x → (u :: us)[i]? = some u' → Rel w R φ x u' := by
     intro u hu hr
     obtain ⟨us, h1, h2, h3⟩ := ih vs hr
     refine ⟨us, h1, by simp [h2], fun i x u' hx hu' => ?_⟩
     cases i with
     | zero => simp at hx hu'; subst hx; subst hu'; exact hu
     | succ i => exact h3 i x u' (by simpa using hx) (by simpa using hu')
    cases r with
    | tmp t =>
     simp only [ResOK] at h
     obtain ⟨us, h1, h2, h3⟩ := fin (a.tmps.getD t undef) (h.1 ▸ hs.get t) h.2
     exact ⟨_, by simp only [List.mapM_cons, resRun, Sem.run_bind, Sem.run_pure, Result.andThen_ok, h1], h2, h3⟩
    | cell q t =>
     simp only [ResOK] at h
     obtain ⟨⟨D, b, i, off, k, e, hD, hq, hb, he, hv⟩, hrest⟩ := h
     have hr := hs.get q
     rw [hq] at hr
     generalize hqq : a.tmps.getD q undef = pv at hr
     cases hr with
     | @ref _ _ _ _ hm hbh =>
      obtain ⟨oh, ho', hbr⟩ := hs.m.rel b k hb
      rw [hbh] at ho'
      cases ho'
      obtain ⟨_, _, _, _, C, hC, hCs, hel⟩ := hbr
      obtain ⟨hl, hcell⟩ := hel i e he
      obtain ⟨u, h2, h3⟩ := run_loadVar (P := P) (w := w) (R := R) (φ := φ) (b := hm.blk) (o := i * hm.esz) (off := off) hD hv (fun j => C[i * hm.esz + j]?.getD undef) (fun j hj => by
        obtain ⟨u, hu, _⟩ := hcell j (e.cells[j]) (by simp [hj])
        rw [cell_of_row w _ _ C _ _ hC, hu]
        rfl) (fun j c' hc' => by
        obtain ⟨u, hu, hru⟩ := hcell j c' hc'
        rw [hu]
        exact hru)
      obtain ⟨us, h4, h5, h6⟩ := fin u h3 hrest
      exact ⟨_, by simp only [List.mapM_cons, resRun, Sem.run_bind, hqq, asAddr, Sem.run_pure, Result.andThen_ok, h2, h4], h5, h6⟩
 obtain ⟨us, h1, h2, h3⟩ := key _ vs h
 rw [results_eq, Array.mapM_eq_mapM_toList]
 refine ⟨if h : us.toArray.size = 1 then us.toArray[0] else .tuple us.toArray, by simp only [Sem.run_bind, Sem.run_map, Sem.run_pure, h1, Result.andThen_ok], ?_⟩
 match vs, us, h2 with
 | [v], [u], _ => exact h3 0 v u rfl rfl
 | [], [], _ => exact .tup rfl (fun i c v hc => by simp at hc)
 | v1 :: v2 :: vs, u1 :: u2 :: us, h2 =>
  simp only [List.size_toArray, List.length_cons, retAV]
  rw [dif_neg (by omega)]
  exact .tup (by simp at h2 ⊢; omega) (fun i c v hc hv => h3 i c v hc (by simpa using hv))
def keepOK (ρ : Rho) (M M' : Mem) : Bool := M.all fun p => match lk p.1 M' with
 | some _ => match lk p.1 ρ with
  | some (some b) => Nat.beq b p.1
  | _ => false
 | none => true
def FinOK (P : Program) (fn : Func) (M : Mem) (r : AV) (M' : Mem) (s : St) : Prop :=
 ∃ vs ρ, ResOK P s fn.results.toList vs ∧ rhoOK ρ M' = true ∧ keepOK ρ M M' = true ∧ wkP [] ρ (retAV vs) r ∧ wkM ρ s.m M'
def retQ (F : St → Prop) : Exit → St → Prop
 | .normal, s => F s
 | .ret, s => F s
 | _, _ => False
def argSlots : Nat → List AV → List (Nat × AV)
 | _, [] => []
 | k, a :: l => (k, a) :: argSlots (k + 1) l
theorem lk_argSlots : ∀ (l : List AV) (k t : Nat) (av : AV), lk t (argSlots k l) = some av → k ≤ t ∧ l[t - k]? = some av
 | [], k, t, av, h => by simp [argSlots, lk] at h
 | a :: l, k, t, av, h => by
  simp only [argSlots, lk_cons] at h
  split at h
  ·subst_vars; cases h; simp
  ·obtain ⟨h1, h2⟩ := lk_argSlots l (k + 1) t av h
   refine ⟨by omega, ?_⟩
   rw [show t - k = (t - (k + 1)) + 1 by omega]
   simpa using h2
def bigKeys (M : Mem) : Bool := M.all fun p => Nat.ble 1000 p.1
theorem holds_of_awp {f n : Nat} {fn : Func} {body : Code} {args : List AV} {M : Mem} {r : AV} {M' : Mem} (hf : P.funcs[f]? = some fn) (hb : fn.body = some body) (hn : fn.ntmps = n) (hlen : Nat.ble args.length n = true) (hM : bigKeys M = true)
  (h : ∀ lim, AWP P lim body (retQ (FinOK P fn M r M')) { n := n, t := argSlots 0 args, m := M }) : Holds P f args M r M' := by
 intro w vs φ R hal hargs hmem hdom hRb
 have hle : args.length ≤ n := Nat.le_of_ble_eq_true hlen
 refine calls_of_wp hf hb ?_
 have hs0 : SRelX ⟨w, blksOf φ M, R, φ⟩ φ R { n := n, t := argSlots 0 args, m := M } { tmps := vs ++ Array.replicate (fn.ntmps - vs.size) undef, defers := [] } w := by
  refine ⟨by simp [hn]; omega, fun t av ht => ?_, hmem, hdom, fun b k x hb hx => .inr ⟨b, k, x, hb, hx, rfl⟩, fun _ h => h, fun _ h => .inl h, hRb, Ext.refl _ _, rfl, fun b _ => .inr rfl⟩
  obtain ⟨_, h2⟩ := lk_argSlots args 0 t av ht
  simp only [Nat.sub_zero] at h2
  have hlt : t < vs.size := by rw [← hal]; exact (List.getElem?_eq_some_iff.1 h2).1
  have := hargs t av vs[t] h2 (by simp [hlt])
  simpa [Array.getD_eq_getD_getElem?, Array.getElem?_append_left hlt, hlt] using this
 refine wp_mono (h w.heap.size ⟨w, blksOf φ M, R, φ⟩ rfl _ w ⟨φ, R, hs0⟩) ?_
 rintro e a' w' ⟨s', ⟨φ1, R1, hs1⟩, hq⟩
 have fin : FinOK P fn M r M' s' → a'.defers = [] ∧ ∃ v, (results fn a'.tmps).run P w' = .ok v w' ∧ ∃ v0 φ' R', Ending.returned v = .returned v0 ∧ Rel w' R' φ' r v0 ∧ MemOK w' R' φ' M' ∧ (∀ b k h, lk b M' = some (some k) → φ' b = some (some h) → w.heap.size ≤ h.blk ∨ blksOf φ M h.blk) ∧
   (∀ b k k', lk b M = some (some k) → lk b M' = some (some k') → φ' b = φ b) ∧ (∀ n, R n → R' n) ∧ (∀ n, R' n → R n ∨ w.heap.size ≤ n ∨ blksOf φ M n) ∧ (∀ n, R' n → n < w'.heap.size) ∧ Ext w w' (blksOf φ M) := by
  rintro ⟨avs, ρ, f1, f2, f3, f4, f5⟩
  obtain ⟨v, g1, g2⟩ := run_results hs1 f1
  obtain ⟨i1, i2⟩ := rhoOK_spec f2
  obtain ⟨m1, m2, m3⟩ := wk_mem hs1.m i1 i2 f5
  refine ⟨hs1.d, v, g1, v, φ1.via ρ, R1, rfl, wkP_rel hs1.m (m := []) (fun _ h => h) (fun b k h hb => by simp [lk] at hb) g2 f4, m1, fun b k x hb hx => ?_, fun b k k' h1 h2 => ?_, hs1.R0, hs1.Rn, hs1.Rb, hs1.ext⟩
  ·obtain ⟨b0, k0, _, e1, e2⟩ := m3 b k x hb hx
   exact hs1.fresh b0 k0 x e1 e2
  ·have hk := List.all_eq_true.1 f3 _ (lk_mem h1)
   simp only [h2] at hk
   cases hq : lk b ρ with
   | none => simp [hq] at hk
   | some o =>
    cases o with
    | none => simp [hq] at hk
    | some q =>
     simp only [hq] at hk
     have hqb := Nat.eq_of_beq_eq_true hk
     rw [hqb] at hq
     have hbig : 1000 ≤ b := Nat.le_of_ble_eq_true (by simpa using List.all_eq_true.1 hM _ (lk_mem h1))
     have hlive := wkM_mem f5 b k' (lk_mem h2)
     simp only [hq] at hlive
     obtain ⟨k0, hk0, _⟩ := hlive
     obtain ⟨oh, ho, _⟩ := hs1.m.rel b k0 hk0
     have : φ1 b = φ b := by
      rcases hs1.keep b hbig with h | h
      ·rw [h] at ho; cases ho
      ·exact h
     simp [Ph.via, hq, this]
 cases e with
 | normal => exact fin hq
 | ret => exact fin hq
 | exit _ => exact hq.elim
 | goto _ => exact hq.elim
 | panic _ => exact hq.elim
 | outgrown => exact hq.elim
end
end Go.Ab
