/- The abstract layer, part 35: functions that hold a range over a function. -/
import Derived.Test.YtpoehckffpbfiaaGreatXAAb34
namespace Go.Ab
open Go.RowKit
variable {P : Program}
def AWX (P : Program) (Z : Ctx → Act → World → Prop) (lim : Nat) (code : Code) (Q : Exit → St → Prop) (s : St) : Prop :=
 ∀ (c : Ctx) (_ : c.w0.heap.size = lim) (a : Act) (w : World), SRel c s a w → code.wp P (fun e a' w' => (∃ s', SRel c s' a' w' ∧ Q e s') ∨ (e = .ret ∧ Z c a' w')) a w
variable {Z : Ctx → Act → World → Prop} {lim : Nat} {Q : Exit → St → Prop} {s : St}
theorem awx_seq {x y : Code} (h : AWP P lim x (thenQ (AWX P Z lim y Q) Q) s) : AWX P Z lim (.seq x y) Q s := by
 intro c hc0 a w hs
 refine wp_seq (wp_mono (h c hc0 a w hs) ?_)
 rintro e a' w' ⟨s', hs', hq⟩
 cases e with
 | normal => exact hq c hc0 a' w' hs'
 | _ => exact .inl ⟨s', hs', hq⟩
def ZM (P : Program) (fn : Func) (r : AV) (c : Ctx) (a : Act) (w : World) : Prop :=
 ∃ D, a.defers = [{ target := .collected D, args := #[] }] ∧ w.heap[D]? = some (.deferred (some [])) ∧
  ∃ v φ' R', (results fn a.tmps).run P (w.putObj D (.deferred none)) = .ok v (w.putObj D (.deferred none)) ∧ Rel (w.putObj D (.deferred none)) R' φ' r v ∧ (∀ n, c.R0 n → R' n) ∧ (∀ n, R' n → c.R0 n ∨ c.w0.heap.size ≤ n ∨ c.G n) ∧ (∀ n, R' n → n < w.heap.size) ∧ Ext c.w0 (w.putObj D (.deferred none)) c.G
theorem holds_fnX {f n : Nat} {fn : Func} {body : Code} {args : List AV} {r : AV} {t : List (Nat × AV)} (hf : P.funcs[f]? = some fn) (hb : fn.body = some body) (hn : fn.ntmps = n) (hlen : Nat.ble args.length n = true) (ht : argF 0 args = some t)
  (h : ∀ lim, AWX P (ZM P fn r) lim body (retQ (FinOK P fn [] r [])) ⟨n, t, []⟩) : Holds P f args [] r [] := by
 intro w vs φ R hal hargs hmem hdom hRb
 have hle : args.length ≤ n := Nat.le_of_ble_eq_true hlen
 refine callsIn_wide.1 (callsIn_of_wp_marks (n := 0) hf hb trivial (wpIn_wide.2 ?_) rfl)
 have hs0 : SRelX ⟨w, blksOf φ [], R, φ⟩ φ R ⟨n, t, []⟩ { tmps := vs ++ Array.replicate (fn.ntmps - vs.size) undef, defers := [] } w := by
  refine ⟨by simp [hn]; omega, fun q av hq => ?_, hmem, hdom, fun b k x hb hx => .inr ⟨b, k, x, hb, hx, rfl⟩, fun _ h => h, fun _ h => .inl h, hRb, Ext.refl _ _, rfl, fun b _ => .inr rfl⟩
  rw [← argF_eq ht] at hq
  obtain ⟨_, h2⟩ := lk_argSlots args 0 q av hq
  simp only [Nat.sub_zero] at h2
  have hlt : q < vs.size := by rw [← hal]; exact (List.getElem?_eq_some_iff.1 h2).1
  have := hargs q av vs[q] h2 (by simp [hlt])
  simpa [Array.getD_eq_getD_getElem?, Array.getElem?_append_left hlt, hlt] using this
 refine wp_mono (h w.heap.size ⟨w, blksOf φ [], R, φ⟩ rfl _ w ⟨φ, R, hs0⟩) ?_
 have nolk : ∀ {b : Nat} {k : Option Blk}, lk b ([] : Mem) = some k → False := fun h => by simp [lk] at h
 rintro e a' w' (⟨s', ⟨φ1, R1, hs1⟩, hq⟩ | ⟨rfl, D, hd, hD, v, φ', R', z1, z2, z3, z4, z5, z6⟩)
 ·have hx : e = .normal ∨ e = .ret := by
   cases e <;> first | exact .inl rfl | exact .inr rfl | exact hq.elim
  have hq' : FinOK P fn [] r [] s' := by rcases hx with rfl | rfl <;> exact hq
  obtain ⟨avs, ρ, f1, f2, f3, f4, f5⟩ := hq'
  obtain ⟨v, g1, g2⟩ := run_results hs1 f1
  obtain ⟨i1, i2⟩ := rhoOK_spec f2
  obtain ⟨m1, m2, m3⟩ := wk_mem hs1.m i1 i2 f5
  have hL : ∀ {RR : Ending → World → Prop}, RR (.returned v) w' → LeavesInM Fence.wide 0 P fn a'.tmps RR a'.defers .returning w' := by
   intro RR hr
   rw [hs1.d]
   exact ⟨v, g1, hr⟩
  rcases hx with rfl | rfl
  all_goals exact hL ⟨v, φ1.via ρ, R1, rfl, wkP_rel hs1.m (m := []) (fun _ h => h) (fun b k h hb => (nolk hb).elim) g2 f4, m1, fun b k x hb _ => (nolk hb).elim, fun b k k' hb _ => (nolk hb).elim, hs1.R0, hs1.Rn, hs1.Rb, hs1.ext⟩
 ·have hL : ∀ {RR : Ending → World → Prop}, LeavesInM Fence.wide 0 P fn a'.tmps RR [{ target := .collected D, args := #[] }] .returning w' → LeavesInM Fence.wide 0 P fn a'.tmps RR a'.defers .returning w' := fun h => by rw [hd]; exact h
  refine hL ⟨by simp, .inl ⟨D, _, rfl, run_takeDeferred hD, v, z1, v, φ', R', rfl, z2, ⟨fun b k hb => (nolk hb).elim, fun b b' k k' x x' hb => (nolk hb).elim, fun b k x hb => (nolk hb).elim⟩, fun b k x hb _ => (nolk hb).elim, fun b k k' hb _ => (nolk hb).elim, z3, z4, ?_, z6⟩⟩
  intro n hn
  have := z5 n hn
  simpa [World.putObj] using this
end Go.Ab
