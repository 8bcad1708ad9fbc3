/- The abstract layer, part 33: rounds one after the other. -/
import Derived.Test.YtpoehckffpbfiaaGreatXAAb32
namespace Go.Ab
open Go.RowKit
variable {P : Program}
theorem MemOK.cells {w : World} {R : Nat → Prop} {φ : Ph} {M : Mem} (h : MemOK w R φ M) {n : Nat} (hn : blksOf φ M n) : ∃ C t, w.heap[n]? = some (.cells C t (0, 0)) := by
 obtain ⟨b, k, x, h1, h2, rfl⟩ := hn
 obtain ⟨oh, h3, h4⟩ := h.rel b k h1
 rw [h2] at h3
 cases h3
 obtain ⟨_, _, _, _, C, hC, _⟩ := h4
 exact ⟨C, _, hC⟩
theorem HPost.put {w w1 w2 : World} {φ φ1 : Ph} {R R1 : Nat → Prop} {M M1 : Mem} (h : HPost w φ R M M1 w1 φ1 R1) {l : Nat} (hl : w.heap.size ≤ l) (hR : ¬ R1 l) (ho : ¬ blksOf φ1 M1 l)
  (he : ∀ n, n ≠ l → w2.heap[n]? = w1.heap[n]?) (hs : w2.heap.size = w1.heap.size) (h1 : w2.os = w1.os) (h2 : w2.tape = w1.tape) (h3 : w2.output = w1.output) : HPost w φ R M M1 w2 φ1 R1 := by
 refine ⟨⟨fun b k hb => ?_, h.mem.inj, h.mem.notR⟩, h.dom, h.fresh, h.keep, h.R0, h.Rn, fun n hn => by rw [hs]; exact h.Rb n hn, ⟨h1.trans h.ext.os, h2.trans h.ext.tape, h3.trans h.ext.output, by rw [hs]; exact h.ext.size, fun i hi hg => ?_⟩⟩
 ·obtain ⟨oh, h4, h5⟩ := h.mem.rel b k hb
  refine ⟨oh, h4, ?_⟩
  have hRw : ∀ n, R1 n → w2.heap[n]? = w1.heap[n]? := fun n hn => he n (fun e => hR (e ▸ hn))
  cases oh with
  | none => exact h5
  | some x =>
   obtain ⟨r1, r2, r3, r4, C, r5, r6, r7⟩ := h5
   refine ⟨r1, r2, r3, r4, C, ?_, r6, fun i y hy => ⟨(r7 i y hy).1, fun j c' hj => ?_⟩⟩
   ·rw [he _ (fun e => ho (e ▸ ⟨b, k, x, hb, h4, rfl⟩))]
    exact r5
   ·obtain ⟨u, hu, hr⟩ := (r7 i y hy).2 j c' hj
    exact ⟨u, hu, hr.mono hRw (fun _ h => h) (fun _ _ h => h)⟩
 ·rw [he i (by omega)]
  exact h.ext.block i hi hg
theorem HPost.name {w w1 : World} {φ φ1 : Ph} {R R1 : Nat → Prop} {M M1 N : Mem} {ρ : Rho} (h : HPost w φ R M M1 w1 φ1 R1) (hi : injB ρ = true) (hk : (ρ.all fun p => (lk p.1 N).isSome) = true) (hw : wkM ρ M1 N) (hkeep : ∀ b k k', lk b M = some (some k) → lk b N = some (some k') → lk b ρ = some (some b) ∧ ∃ k1, lk b M1 = some (some k1)) : HPost w φ R M N w1 (φ1.via ρ) R1 := by
 obtain ⟨m1, m2, m3⟩ := wk_mem h.mem hi hk hw
 refine ⟨m1, m2, fun b k x hb hx => ?_, fun b k k' h1 h2 => ?_, h.R0, h.Rn, h.Rb, h.ext⟩
 ·obtain ⟨b0, k0, _, e1, e2⟩ := m3 b k x hb hx
  exact h.fresh b0 k0 x e1 e2
 ·obtain ⟨e1, k1, e2⟩ := hkeep b k k' h1 h2
  simp only [Ph.via, e1]
  exact h.keep b k k1 h1 e2
theorem HPost.trans {w w1 w2 : World} {φ φ1 φ2 : Ph} {R R1 R2 : Nat → Prop} {M M1 M2 : Mem} (h : HPost w φ R M M1 w1 φ1 R1) (g : HPost w1 φ1 R1 M1 M2 w2 φ2 R2) (hkeep : ∀ b k k', lk b M = some (some k) → lk b M2 = some (some k') → ∃ k1, lk b M1 = some (some k1)) : HPost w φ R M M2 w2 φ2 R2 := by
 have hb : ∀ n, blksOf φ1 M1 n → w.heap.size ≤ n ∨ blksOf φ M n := by
  rintro n ⟨b, k, x, h1, h2, rfl⟩
  exact h.fresh b k x h1 h2
 refine ⟨g.mem, g.dom, fun b k x h1 h2 => ?_, fun b k k' h1 h2 => ?_, fun n hn => g.R0 n (h.R0 n hn), fun n hn => ?_, g.Rb, h.ext.trans g.ext fun i hi hg => ?_⟩
 ·rcases g.fresh b k x h1 h2 with e | e
  ·exact .inl (Nat.le_trans h.ext.size e)
  ·exact hb _ e
 ·obtain ⟨k1, e1⟩ := hkeep b k k' h1 h2
  rw [g.keep b k1 k' e1 h2, h.keep b k k1 h1 e1]
 ·rcases g.Rn n hn with e | e | e
  ·exact h.Rn n e
  ·exact .inr (.inl (Nat.le_trans h.ext.size e))
  ·exact .inr (hb n e)
 ·rcases hb i hg with e | e
  ·omega
  ·exact e
theorem HPost.refl {w : World} {φ : Ph} {R : Nat → Prop} {M : Mem} (h1 : MemOK w R φ M) (h2 : ∀ b x, φ b = some x → ∃ y, lk b M = some y) (h3 : ∀ n, R n → n < w.heap.size) : HPost w φ R M M w φ R :=
 ⟨h1, h2, fun b k x hb hx => .inr ⟨b, k, x, hb, hx, rfl⟩, fun _ _ _ _ _ => rfl, fun _ h => h, fun _ h => .inl h, h3, Ext.refl _ _⟩
end Go.Ab
