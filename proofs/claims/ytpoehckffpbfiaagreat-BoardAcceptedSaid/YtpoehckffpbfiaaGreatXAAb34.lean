/- The abstract layer, part 34: the statement 'for x := range f' whose rounds all go on. -/
import Derived.Test.YtpoehckffpbfiaaGreatXAAb33
namespace Go.Ab
open Go.RowKit
variable {P : Program}
theorem HPost.grow {w w1 w2 : World} {φ φ1 : Ph} {R R1 : Nat → Prop} {M M1 : Mem} (h : HPost w φ R M M1 w1 φ1 R1) (hs : w1.heap.size ≤ w2.heap.size) (he : ∀ n, n < w1.heap.size → w2.heap[n]? = w1.heap[n]?) (h1 : w2.os = w1.os) (h2 : w2.tape = w1.tape) (h3 : w2.output = w1.output) : HPost w φ R M M1 w2 φ1 R1 := by
 refine ⟨⟨fun b k hb => ?_, h.mem.inj, h.mem.notR⟩, h.dom, h.fresh, h.keep, h.R0, h.Rn, fun n hn => Nat.lt_of_lt_of_le (h.Rb n hn) hs, ⟨h1.trans h.ext.os, h2.trans h.ext.tape, h3.trans h.ext.output, Nat.le_trans h.ext.size hs, fun i hi hg => ?_⟩⟩
 ·obtain ⟨oh, h4, h5⟩ := h.mem.rel b k hb
  refine ⟨oh, h4, h5.mono (fun n hn => he n (h.Rb n hn)) (fun x hx => he _ ?_) (fun _ _ h => h)⟩
  obtain ⟨C, t, hC⟩ := h.mem.cells ⟨b, k, x, hb, by rw [h4, hx], rfl⟩
  exact (Array.getElem?_eq_some_iff.1 hC).1
 ·rw [he i (Nat.lt_of_lt_of_le hi h.ext.size)]
  exact h.ext.block i hi hg
theorem HPost.drew {w w1 : World} {φ φ1 : Ph} {R R1 : Nat → Prop} {M M1 : Mem} (h : HPost w φ R M M1 w1 φ1 R1) : HPost w φ R M M1 w1.drew φ1 R1 := h.grow (Nat.le_refl _) (fun _ _ => rfl) rfl rfl rfl
def Itr (P : Program) (gf : Nat) (lb : Array Value) (C : World → Prop) (encs : Nat → Array Value) (N : Nat) : Prop :=
 ∀ (n l : Nat) (J : Nat → World → Prop) (W : World), (∀ k (W : World), J k W → J k W.drew) → (∀ k W, J k W → C W) →
  (∀ k W, J k W → k < N → YieldAt Fence.wide (n - 1) P l (encs k) W fun e W' => e = .returned (.bool true) ∧ J (k + 1) W') → J 0 W →
  CallsIn Fence.wide n P gf (#[.func (.yield l) #[] #[]] ++ lb) W fun e W' => (∃ v, e = .returned v) ∧ J N W'
theorem wp_range {g : Operand} {ps : Array Tmp} {assign body : Code} {Q : Exit → Act → World → Prop} {a : Act} {w : World} {n gf N : Nat} {lb : Array Value} {C : World → Prop} {encs : Nat → Array Value}
  {φ : Ph} {R : Nat → Prop} {M0 : Mem} {Mk Mr : Nat → Mem} {ρ : Rho} {ρ0 : Rho} (a₁ : Nat → Act)
  (hg : a.eval g = .func (.func gf) #[] lb) (eg : ∀ args w, (callFunc gf args).run P w = .ok (.enter gf args) w) (it : Itr P gf lb C encs N) (hps : ∀ k, (encs k).size = ps.size)
  (hmem : MemOK w R φ M0) (hdom : ∀ b x, φ b = some x → ∃ y, lk b M0 = some y) (hRb : ∀ n, R n → n < w.heap.size)
  (hC : ∀ W φ' R' M', HPost w φ R M0 M' W φ' R' → C W)
  (hρ0 : injB ρ0 = true) (hk0 : (ρ0.all fun p => (lk p.1 (Mk 0)).isSome) = true) (hw0 : wkM ρ0 M0 (Mk 0)) (hkeep0 : ∀ b k k', lk b M0 = some (some k) → lk b (Mk 0) = some (some k') → lk b ρ0 = some (some b) ∧ ∃ k1, lk b M0 = some (some k1))
  (hρ : injB ρ = true) (hkρ : ∀ k, (ρ.all fun p => (lk p.1 (Mk (k + 1))).isSome) = true) (hwρ : ∀ k, k < N → wkM ρ (Mr k) (Mk (k + 1))) (hkeep : ∀ j b k k', lk b M0 = some (some k) → lk b (Mk (j + 1)) = some (some k') → lk b ρ = some (some b) ∧ ∃ k1, lk b (Mr j) = some (some k1))
  (hkeepR : ∀ j b k k', lk b M0 = some (some k) → lk b (Mr j) = some (some k') → ∃ k1, lk b (Mk j) = some (some k1))
  (hassign : ∀ (lp k m : Nat) (W : World) (K : Act → World → Prop), k < N → K (a₁ k) W → assign.wpIn (Fence.wide.inRound lp) m P (Exit.then K (fun _ _ _ => False)) { tmps := (ps.zip (encs k)).foldl (fun t (p, v) => t.setIfInBounds p v) a.tmps, defers := [] } W)
  (hbody : ∀ (lp k m : Nat) (W : World) (φ' : Ph) (R' : Nat → Prop), k < N → HPost w φ R M0 (Mk k) W φ' R' → body.wpIn (Fence.wide.inRound lp) m P (fun e _ W' => e = .normal ∧ ∃ φ2 R2, HPost W φ' R' (Mk k) (Mr k) W' φ2 R2) (a₁ k) W)
  (hdone : ∀ (D : Nat) (W : World) (φ' : Ph) (R' : Nat → Prop), HPost w φ R M0 (Mk N) W φ' R' → w.heap.size ≤ D → ¬ R' D → W.heap[D]? = some (.deferred (some [])) → Q .normal { a with defers := { target := .collected D, args := #[] } :: a.defers } W) :
  (Code.rangeFunc g ps assign body).wpIn Fence.wide n P Q a w := by
 refine wpIn_rangeFunc ?_
 intro fn hfn
 obtain ⟨rec, hrec⟩ : ∃ rec : LoopState → Option Code → Loop, rec = fun st pe => { state := st, pending := pe, fn, tmps := a.tmps, params := ps, assign, body, defers := w.heap.size } := ⟨_, rfl⟩
 obtain ⟨W1, hW1⟩ : ∃ W1, (w.alloc (.deferred (some []))).alloc (.loop (rec .ready none)) = W1 := ⟨_, rfl⟩
 have hL1 : W1.heap[w.heap.size + 1]? = some (.loop (rec .ready none)) := by
  rw [← hW1]; have := World.alloc_heap_new (w.alloc (.deferred (some []))) (.loop (rec .ready none)); rwa [World.size_alloc] at this
 have hK1 : W1.heap[w.heap.size]? = some (.deferred (some [])) := by
  rw [← hW1]; exact (Below.heap_alloc _ _ _ (by simp)).trans (World.alloc_heap_new w _)
 have hP1 : HPost w φ R M0 (Mk 0) W1 (φ.via ρ0) R := by
  refine ((HPost.refl hmem hdom hRb).name hρ0 hk0 hw0 hkeep0).grow ?_ ?_ ?_ ?_ ?_
  ·rw [← hW1, World.size_alloc, World.size_alloc]; omega
  ·intro n hn
   rw [← hW1]
   exact (Below.heap_alloc _ _ _ (by simp; omega)).trans (Below.heap_alloc _ _ _ hn)
  ·rw [← hW1]; rfl
  ·rw [← hW1]; rfl
  ·rw [← hW1]; rfl
 refine ⟨w.heap.size + 1, [{ target := .collected w.heap.size, args := #[] }], W1, { target := .fn (.func gf) lb, args := #[.func (.yield (w.heap.size + 1)) #[] #[]] }, W1, gf,
  #[.func (.yield (w.heap.size + 1)) #[] #[]] ++ lb, W1, ?_, ?_, fun _ _ => trivial, ?_, fun h => by simp [Fence.wide] at h, ?_⟩
 ·rw [← hW1, hrec]; exact run_enterLoop_outer _ _ _ _ _
 ·simp only [resolve, hg]
  simp [go_sem]
 ·simp [invoke, go_sem, eg]
 ·refine (it (n - 1) (w.heap.size + 1)
   (fun k W => ∃ φ' R', HPost w φ R M0 (Mk k) W φ' R' ∧ W.heap[w.heap.size + 1]? = some (.loop (rec .ready none)) ∧ W.heap[w.heap.size]? = some (.deferred (some [])) ∧ ¬ R' (w.heap.size + 1) ∧ ¬ R' w.heap.size)
   W1 ?_ ?_ ?_ ⟨_, _, hP1, hL1, hK1, fun h => by have := hRb _ h; omega, fun h => by have := hRb _ h; omega⟩).mono ?_
  ·rintro k W ⟨φ', R', h1, h2, h3, h4, h5⟩
   exact ⟨φ', R', h1.drew, h2, h3, h4, h5⟩
  ·rintro k W ⟨φ', R', h1, _⟩
   exact hC W φ' R' _ h1
  ·
   rintro k W ⟨φ', R', h1, hl, hk, hRl, hRD⟩ hlt
   have hlt1 : w.heap.size + 1 < W.heap.size := (Array.getElem?_eq_some_iff.1 hl).1
   have hy := run_yield (P := P) (args := encs k) hl (by rw [hrec]; exact hps k)
   rw [hrec] at hy
   refine ⟨fn, _, assign, body, hy, roundIn_of_wpIn hfn (hassign _ k _ W _ hlt ⟨_, run_beginRound hl (by rw [hrec]), ?_⟩)⟩
   have hnc : ∀ {W : World} {φ' : Ph} {R' : Nat → Prop} {M' : Mem} {n : Nat} {o : Obj}, MemOK W R' φ' M' → W.heap[n]? = some o → (∀ C t, o ≠ .cells C t (0, 0)) → ¬ blksOf φ' M' n := by
    intro W φ' R' M' n o hm ho hne hb
    obtain ⟨C, t, hC⟩ := hm.cells hb
    rw [ho] at hC
    cases hC
    exact hne _ _ rfl
   have hput : ∀ {W : World} {φ' : Ph} {R' : Nat → Prop} {M' : Mem} {o o' : Obj}, HPost w φ R M0 M' W φ' R' → W.heap[w.heap.size + 1]? = some o → (∀ C t, o ≠ .cells C t (0, 0)) → ¬ R' (w.heap.size + 1) → HPost w φ R M0 M' (W.putObj (w.heap.size + 1) o') φ' R' := by
    intro W φ' R' M' o o' h ho hne hR'
    exact h.put (l := w.heap.size + 1) (by omega) hR' (hnc h.mem ho hne) (fun n hn => World.putObj_heap_other (by omega)) (by simp [World.putObj]) rfl rfl rfl
   have hl2 : (W.putObj (w.heap.size + 1) (.loop { rec .ready none with state := .busy })).heap[w.heap.size + 1]? = some (.loop { rec .ready none with state := .busy }) := World.putObj_heap_same hlt1
   have hk2 : (W.putObj (w.heap.size + 1) (.loop { rec .ready none with state := .busy })).heap[w.heap.size]? = some (.deferred (some [])) := (World.putObj_heap_other (by omega)).trans hk
   have hP2 := hput (o' := .loop { rec .ready none with state := .busy }) h1 hl (fun _ _ h => by cases h) hRl
   refine wpIn_mono (hbody _ k _ _ φ' R' hlt hP2) ?_
   rintro e a3 W3 ⟨rfl, φ2, R2, h3⟩
   have e1 : W3.heap[w.heap.size + 1]? = some (.loop { rec .ready none with state := .busy }) := by
    rw [h3.ext.block _ (Array.getElem?_eq_some_iff.1 hl2).1 (hnc hP2.mem hl2 (fun _ _ h => by cases h))]
    exact hl2
   have e2 : W3.heap[w.heap.size]? = some (.deferred (some [])) := by
    rw [h3.ext.block _ (Array.getElem?_eq_some_iff.1 hk2).1 (hnc hP2.mem hk2 (fun _ _ h => by cases h))]
    exact hk2
   have e3 : ¬ R2 (w.heap.size + 1) := fun h => by
    rcases h3.Rn _ h with q | q | q
    ·exact hRl q
    ·exact absurd q (Nat.not_le.2 (Array.getElem?_eq_some_iff.1 hl2).1)
    ·exact hnc hP2.mem hl2 (fun _ _ h => by cases h) q
   have e4 : ¬ R2 w.heap.size := fun h => by
    rcases h3.Rn _ h with q | q | q
    ·exact hRD q
    ·exact absurd q (Nat.not_le.2 (Array.getElem?_eq_some_iff.1 hk2).1)
    ·exact hnc hP2.mem hk2 (fun _ _ h => by cases h) q
   have hP3 := ((hP2.trans h3 (hkeepR k)).name hρ (hkρ k) (hwρ k hlt) (hkeep k))
   refine ⟨_, _, run_endRound (P := P) none e1, rfl, _, R2, hput hP3 e1 (fun _ _ h => by cases h) e3, ?_, (World.putObj_heap_other (by omega)).trans e2, e3, e4⟩
   rw [World.putObj_heap_same (Array.getElem?_eq_some_iff.1 e1).1, hrec]
   rfl
  ·
   rintro e W2 ⟨⟨v, rfl⟩, φ', R', h1, hl, hk, hRl, hRD⟩
   refine ⟨none, _, by have := run_endLoop (P := P) hl (by rw [hrec]; simp); rw [hrec] at this; exact this, ?_⟩
   refine hdone _ _ φ' R' (h1.put (l := w.heap.size + 1) (by omega) hRl ?_ (fun n hn => World.putObj_heap_other (by omega)) (by simp [World.putObj]) rfl rfl rfl) (Nat.le_refl _) hRD ((World.putObj_heap_other (by omega)).trans hk)
   intro hb
   obtain ⟨C, t, hC⟩ := h1.mem.cells hb
   rw [hl] at hC
   cases hC
end Go.Ab
