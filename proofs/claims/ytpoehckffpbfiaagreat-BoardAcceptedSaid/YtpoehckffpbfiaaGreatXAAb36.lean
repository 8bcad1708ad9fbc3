/- The abstract layer, part 36: the end of a function that holds a range over a function. -/
import Derived.Test.YtpoehckffpbfiaaGreatXAAb35
namespace Go.Ab
open Go.RowKit
variable {P : Program} {Z : Ctx → Act → World → Prop} {lim : Nat} {Q : Exit → St → Prop}
theorem lk_nil' {α : Type} (k : Nat) : lk k ([] : List (Nat × α)) = none := rfl
def AWX2 (P : Program) (Z : Ctx → Act → World → Prop) (lim : Nat) (y z : Code) (Q : Exit → St → Prop) (s : St) : Prop :=
 ∀ (c : Ctx) (_ : c.w0.heap.size = lim) (a : Act) (w : World), SRel c s a w → y.wp P (Exit.then (z.wp P fun e a' w' => (∃ s', SRel c s' a' w' ∧ Q e s') ∨ (e = .ret ∧ Z c a' w')) fun e a' w' => (∃ s', SRel c s' a' w' ∧ Q e s') ∨ (e = .ret ∧ Z c a' w')) a w
theorem awx_seq2 {x y z : Code} {s : St} (h : AWP P lim x (thenQ (AWX2 P Z lim y z Q) Q) s) : AWX P Z lim (.seq (.seq x y) z) Q s := by
 intro c hc0 a w hs
 refine wp_seq (wp_seq (wp_mono (h c hc0 a w hs) ?_))
 rintro e a' w' ⟨s', hs', hq⟩
 cases e with
 | normal => exact hq c hc0 a' w' hs'
 | _ => exact .inl ⟨s', hs', hq⟩
theorem zm_of_rest {fn : Func} {r : AV} {n : Nat} {t : List (Nat × AV)} {M : Mem} {id : Nat} {ops : Array Oper} (hrest : Go P ops false (fun s' => ∃ h, WkF s' h ∧ FinOK P fn [] r [] h) ops.toList ⟨n, t, M⟩ []) (hdef : ∀ o ∈ ops, ∀ ρ w d w', (execOp ρ o).run P w ≠ .ok (.defer d) w')
  {c : Ctx} {a : Act} {W : World} {φ : Ph} {R : Nat → Prop} {D : Nat} (hn : a.tmps.size = n) (hda : a.defers = []) (ht : ∀ q av, lk q t = some av → Rel W R φ av (a.tmps.getD q undef)) (hm : MemOK W R φ M) (hdom : ∀ b x, φ b = some x → ∃ y, lk b M = some y) (hRb : ∀ m, R m → m < W.heap.size)
  (hD : W.heap[D]? = some (.deferred (some []))) (hRD : ¬ R D) (hR0 : ∀ n, c.R0 n → R n) (hRn : ∀ n, R n → c.R0 n ∨ c.w0.heap.size ≤ n ∨ c.G n) (hfr : ∀ n, blksOf φ M n → c.w0.heap.size ≤ n ∨ c.G n) (hext : Ext c.w0 W c.G) (hDs : c.w0.heap.size ≤ D) :
  (Code.seq (.region id ops false) .ret).wp P (fun e a' w' => (∃ s', SRel c s' a' w' ∧ Q e s') ∨ (e = .ret ∧ ZM P fn r c a' w')) { a with defers := [{ target := .collected D, args := #[] }] } W := by
 have hs0 : SRelX ⟨W, blksOf φ M, R, φ⟩ φ R ⟨n, t, M⟩ a W := ⟨hn, ht, hm, hdom, fun b k x hb hx => .inr ⟨b, k, x, hb, hx, rfl⟩, fun _ h => h, fun _ h => .inl h, hRb, Ext.refl _ _, hda, fun b _ => .inr rfl⟩
 obtain ⟨r0, h1, _, h3⟩ := hrest
 obtain ⟨i1, i2⟩ := items_spec ops.toList r0 0 h1.symm
 have hio : ∀ x ∈ items 0 ops.toList r0, ops[x.i]? = some x.o := fun x hx => by simpa using (i2 x hx).2
 have run := wpOps_of_run (Q := fun e a' w' => e = .normal ∧ ∃ s', SRel ⟨W, blksOf φ M, R, φ⟩ s' a' w' ∧ ∃ h, WkF s' h ∧ FinOK P fn [] r [] h) (fun s a w hk hs => ⟨rfl, s, hs, hk⟩) _ _ a W hio (h3 0) ⟨φ, R, hs0⟩
 rw [i1] at run
 have run2 := wpOps_defers (ds := [{ target := .collected D, args := #[] }]) hdef (by rintro ⟨_, _, h, _⟩; cases h) (by rintro _ _ _ ⟨h, _⟩; cases h) _ a W run
 refine wp_seq (wp_mono (wp_region (by simpa using run2)) ?_)
 rintro e _ w' ⟨a'', rfl, rfl, s', hs', h, hw, hfin⟩
 refine wp_ret (.inr ⟨rfl, ?_⟩)
 obtain ⟨φ3, R3, hs3⟩ := hs'.freeze hw
 have hDlt : D < W.heap.size := (Array.getElem?_eq_some_iff.1 hD).1
 have hDb : ¬ blksOf φ M D := fun hb => by
  obtain ⟨C, t, hC⟩ := hm.cells hb
  rw [hD] at hC
  cases hC
 have hDw : w'.heap[D]? = some (.deferred (some [])) := by rw [hs3.ext.block D hDlt hDb]; exact hD
 have hRD3 : ¬ R3 D := fun q => by
  rcases hs3.Rn D q with q | q | q
  ·exact hRD q
  ·exact absurd q (Nat.not_le.2 hDlt)
  ·exact hDb q
 have hown : ¬ blksOf φ3 h.m D := fun hb => by
  obtain ⟨C, t, hC⟩ := hs3.m.cells hb
  rw [hDw] at hC
  cases hC
 have he : ∀ k, k ≠ D → (w'.putObj D (.deferred none)).heap[k]? = w'.heap[k]? := fun k hk => World.putObj_heap_other hk
 have hsz : (w'.putObj D (.deferred none)).heap.size = w'.heap.size := by simp [World.putObj]
 have hRw : ∀ k, R3 k → (w'.putObj D (.deferred none)).heap[k]? = w'.heap[k]? := fun k hk => he k (fun e => hRD3 (e ▸ hk))
 have hs4 : SRelX ⟨w'.putObj D (.deferred none), blksOf φ3 h.m, R3, φ3⟩ φ3 R3 h a'' (w'.putObj D (.deferred none)) := by
  refine ⟨hs3.n, fun t av ht => (hs3.t t av ht).mono hRw (fun _ h => h) (fun _ _ h => h), ⟨fun b k hb => ?_, hs3.m.inj, hs3.m.notR⟩, hs3.dom, fun b k x hb hx => .inr ⟨b, k, x, hb, hx, rfl⟩, fun _ h => h, fun _ h => .inl h, fun k hk => by rw [hsz]; exact hs3.Rb k hk, Ext.refl _ _, hs3.d, fun b _ => .inr rfl⟩
  obtain ⟨oh, h4, h5⟩ := hs3.m.rel b k hb
  exact ⟨oh, h4, h5.mono hRw (fun x hx => he _ (fun e => hown (e ▸ ⟨b, k, x, hb, by rw [h4, hx], rfl⟩))) (fun _ _ h => h)⟩
 obtain ⟨vs, ρ, f1, f2, f3, f4, f5⟩ := hfin
 obtain ⟨v, g1, g2⟩ := run_results hs4 f1
 refine ⟨D, rfl, hDw, v, φ3.via ρ, R3, g1, wkP_rel hs4.m (m := []) (fun _ h => h) (fun b k h hb => by simp [lk] at hb) g2 f4, fun k hk => hs3.R0 k (hR0 k hk), fun k hk => ?_, hs3.Rb, ?_⟩
 ·rcases hs3.Rn k hk with q | q | q
  ·exact hRn k q
  ·exact .inr (.inl (Nat.le_trans hext.size q))
  ·exact .inr (hfr k q)
 ·refine (hext.trans hs3.ext fun i hi hg => ?_).trans (G' := fun i => i = D) ⟨rfl, rfl, rfl, by rw [hsz]; exact Nat.le_refl _, fun i _ hi => he i hi⟩ fun i hi hg => ?_
  ·rcases hfr i hg with q | q
   ·exact absurd q (Nat.not_le.2 hi)
   ·exact q
  ·omega
theorem awx2_chunk {fn : Func} {r : AV} {n : Nat} {t : List (Nat × AV)} {m : Mem} {bid id : Nat} {ops : Array Oper} {assign body : Code} {gf N gs ps xs bs rs X Y bb rb tyX tyY : Nat} {d : List Int} (BB : Nat → Nat → Blk) (RB : Blk) (LB : Nat → Blk)
  (hg : St.get ⟨n, t, m⟩ gs = .clo gf [] [.ref X 0 0, .ref Y 0 0]) (hX : lk X m = some (some ⟨tyX, 1, [.sl (d.map fun k => .sc (.int .i64 k))]⟩)) (hY : lk Y m = some (some ⟨tyY, 1, [.sc (.int .i64 7)]⟩))
  (hb : St.get ⟨n, t, m⟩ bs = .ref bb 0 0) (hr : St.get ⟨n, t, m⟩ rs = .ref rb 0 0) (hne : X ≠ bb ∧ X ≠ rb ∧ Y ≠ bb ∧ Y ≠ rb) (hd : d.length = 7 * N)
  (eg : ∀ args w, (callFunc gf args).run P w = .ok (.enter gf args) w)
  (it : ∀ B1 B2 b off cap, 7 * N ≤ cap → Itr P gf #[.pointer (some ⟨B1, 0, none⟩), .pointer (some ⟨B2, 0, none⟩)] (fun W => W.cell? ⟨B1, 0, none⟩ = some (.slice (some ⟨b, off, none⟩) (7 * N) cap) ∧ W.cell? ⟨B2, 0, none⟩ = some (.int .i64 7)) (fun k => #[.slice (some ⟨b, off + 7 * k, none⟩) 7 7]) N)
  (it0 : ∀ B1 B2 cap sa encs, Itr P gf #[.pointer (some ⟨B1, 0, none⟩), .pointer (some ⟨B2, 0, none⟩)] (fun W => W.cell? ⟨B1, 0, none⟩ = some (.slice sa 0 cap)) encs 0)
  (hw1 : wkM [(1000, some bb), (1002, some rb), (1102, none)] m [(1000, some (BB 0 1102)), (1002, some RB), (1102, some (LB 0))]) (hbr : Nat.beq bb rb = false)
  (hw0 : wkM [(1000, some 1000), (1002, some 1002), (1101, some 1102)] [(1000, some (BB 0 1102)), (1002, some RB), (1102, some (LB 0))] [(1000, some (BB 0 1101)), (1002, some RB), (1101, some (LB 0))])
  (hwk : ∀ k, k < N → wkM [(1000, some 1000), (1002, some 1002), (1101, some 999)] [(1000, some (BB (k + 1) 999)), (1002, some RB), (999, some (LB (k + 1)))] [(1000, some (BB (k + 1) 1101)), (1002, some RB), (1101, some (LB (k + 1)))])
  (hsl : ps < n ∧ xs < n ∧ ps ≠ bs ∧ xs ≠ bs)
  (hassign : ∀ (lp m : Nat) (W : World) (K : Act → World → Prop) (tm : Array Value), tm.size = n → K { tmps := tm.setIfInBounds xs (tm.getD ps undef), defers := [] } W → assign.wpIn (Fence.wide.inRound lp) m P (Exit.then K (fun _ _ _ => False)) { tmps := tm, defers := [] } W)
  (hbody : ∀ k, k < N → ∀ lim, AWR P lim body (normQ (RFin [(1000, some (BB k 1101)), (1002, some RB), (1101, some (LB k))] [(1000, some (BB (k + 1) 999)), (1002, some RB), (999, some (LB (k + 1)))])) ⟨n, [(bs, .ref 1000 0 0), (xs, .sl (((d.drop (7 * k)).take 7).map fun k => .sc (.int .i64 k)))], [(1000, some (BB k 1101)), (1002, some RB), (1101, some (LB k))]⟩)
  (hrest : Go P ops false (fun s' => ∃ h, WkF s' h ∧ FinOK P fn [] r [] h) ops.toList ⟨n, [(rs, .ref 1002 0 0), (bs, .ref 1000 0 0)], [(1000, some (BB N 1101)), (1002, some RB), (1101, some (LB N))]⟩ []) (hdef : ∀ o ∈ ops, ∀ ρ w d w', (execOp ρ o).run P w ≠ .ok (.defer d) w') :
  AWX2 P (ZM P fn r) lim (.block bid (.rangeFunc (.tmp gs) #[ps] assign body)) (.seq (.region id ops false) .ret) Q ⟨n, t, m⟩ := by
 intro c hc0 a w ⟨φs, Rs, hs⟩
 have rg := hs.get gs
 rw [hg] at rg
 obtain ⟨hmX, hmY, hφX, hφY, hgv⟩ : ∃ hmX hmY : Home, φs X = some (some hmX) ∧ φs Y = some (some hmY) ∧ a.tmps.getD gs undef = .func (.func gf) #[] #[.pointer (some ⟨hmX.blk, 0, none⟩), .pointer (some ⟨hmY.blk, 0, none⟩)] := by
  generalize a.tmps.getD gs undef = vg at rg
  cases rg with
  | @clo _ _ _ _ fv cv hf hc h1 h2 =>
   have e1 : fv = #[] := by apply Array.eq_empty_of_size_eq_zero; simpa using hf.symm
   have hc2 : cv.size = 2 := by simpa using hc.symm
   obtain ⟨v1, v2, rfl⟩ : ∃ v1 v2, cv = #[v1, v2] := ⟨cv[0], cv[1], by
    apply Array.ext
    ·simpa using hc2
    ·intro i hi hi'
     have : i = 0 ∨ i = 1 := by simp at hi'; omega
     rcases this with rfl | rfl <;> rfl⟩
   have r1 := h2 0 _ v1 rfl rfl
   have r2 := h2 1 _ v2 rfl rfl
   cases r1 with
   | @ref _ _ _ _ hx hbx =>
    cases r2 with
    | @ref _ _ _ _ hy hby => exact ⟨hx, hy, hbx, hby, by rw [e1]; simp⟩
 obtain ⟨ox, hox, hbX⟩ := hs.m.rel X _ hX
 rw [hφX] at hox; cases hox
 obtain ⟨_, _, _, _, CX, hCX, hCXs, helX⟩ := hbX
 obtain ⟨oy, hoy, hbY⟩ := hs.m.rel Y _ hY
 rw [hφY] at hoy; cases hoy
 obtain ⟨_, _, _, _, CY, hCY, hCYs, helY⟩ := hbY
 obtain ⟨u, hu, hru⟩ := (helX 0 _ rfl).2 0 _ rfl
 obtain ⟨u7, hu7, hru7⟩ := (helY 0 _ rfl).2 0 _ rfl
 have := hru7.sc_inv
 subst this
 simp only [Nat.zero_mul, Nat.zero_add] at hu hu7
 obtain ⟨m1, m2, m3⟩ := wk_mem hs.m (ρ := [(1000, some bb), (1002, some rb), (1102, none)]) (by simp [injB, hbr]) rfl hw1
 have hnb : ∀ {x : Nat} {k : Blk} {hm : Home}, lk x m = some (some k) → φs x = some (some hm) → x ≠ bb → x ≠ rb → ¬ blksOf (φs.via [(1000, some bb), (1002, some rb), (1102, none)]) [(1000, some (BB 0 1102)), (1002, some RB), (1102, some (LB 0))] hm.blk := by
  rintro x k hm hk hφ n1 n2 ⟨b, k', h', e1, e2, e3⟩
  obtain ⟨b0, k0, g1, g2, g3⟩ := m3 b k' h' e1 e2
  have := hs.m.inj b0 x k0 k h' hm g2 hk g3 hφ e3
  subst this
  simp only [lk_cons] at g1
  split at g1
  ·cases g1; exact n1 rfl
  ·split at g1
   ·cases g1; exact n2 rfl
   ·split at g1 <;> cases g1
 have hgl : ∀ {b : Nat} {hm : Home}, φs b = some (some hm) → ∀ {k : Blk}, lk b m = some (some k) → hm.blk < w.heap.size := fun h1 k h2 => hs.lt h2 h1
 have hcellX : ∀ W φ' R' M', HPost w (φs.via [(1000, some bb), (1002, some rb), (1102, none)]) Rs [(1000, some (BB 0 1102)), (1002, some RB), (1102, some (LB 0))] M' W φ' R' → W.cell? ⟨hmX.blk, 0, none⟩ = some u := by
  intro W φ' R' M' hp
  rw [cell_of_row W _ _ CX _ _ ((hp.ext.block _ (hgl hφX hX) (hnb hX hφX hne.1 hne.2.1)).trans hCX)]
  exact hu
 have hcellY : ∀ W φ' R' M', HPost w (φs.via [(1000, some bb), (1002, some rb), (1102, none)]) Rs [(1000, some (BB 0 1102)), (1002, some RB), (1102, some (LB 0))] M' W φ' R' → W.cell? ⟨hmY.blk, 0, none⟩ = some (.int .i64 7) := by
  intro W φ' R' M' hp
  rw [cell_of_row W _ _ CY _ _ ((hp.ext.block _ (hgl hφY hY) (hnb hY hφY hne.2.2.1 hne.2.2.2)).trans hCY)]
  exact hu7
 have sb := hs.get bs
 rw [hb] at sb
 have sr := hs.get rs
 rw [hr] at sr
 obtain ⟨hmb, hφb, hvb⟩ : ∃ hm : Home, φs bb = some (some hm) ∧ a.tmps.getD bs undef = .pointer (some ⟨hm.blk, 0, none⟩) := by
  generalize a.tmps.getD bs undef = v at sb
  cases sb with
  | @ref _ _ _ _ h hh => exact ⟨h, hh, by simp⟩
 obtain ⟨hmr, hφr, hvr⟩ : ∃ hm : Home, φs rb = some (some hm) ∧ a.tmps.getD rs undef = .pointer (some ⟨hm.blk, 0, none⟩) := by
  generalize a.tmps.getD rs undef = v at sr
  cases sr with
  | @ref _ _ _ _ h hh => exact ⟨h, hh, by simp⟩
 have vb : (φs.via [(1000, some bb), (1002, some rb), (1102, none)]) 1000 = some (some hmb) := by simp [Ph.via, lk, hφb]
 have vr : (φs.via [(1000, some bb), (1002, some rb), (1102, none)]) 1002 = some (some hmr) := by simp [Ph.via, lk, hφr]
 have refOf : ∀ {W : World} {R' : Nat → Prop} {φ' : Ph} {b : Nat} {hm : Home}, φ' b = some (some hm) → Rel W R' φ' (.ref b 0 0) (.pointer (some ⟨hm.blk, 0, none⟩)) := by
  intro W R' φ' b hm h
  have := Rel.ref (w := W) (R := R') (i := 0) (off := 0) h
  simpa using this
 have key : ∀ (C : World → Prop) (encs : Nat → Array Value) (vs : Nat → Value), (∀ k, encs k = #[vs k]) → Itr P gf #[.pointer (some ⟨hmX.blk, 0, none⟩), .pointer (some ⟨hmY.blk, 0, none⟩)] C encs N →
   (∀ W φ' R' M', HPost w (φs.via [(1000, some bb), (1002, some rb), (1102, none)]) Rs [(1000, some (BB 0 1102)), (1002, some RB), (1102, some (LB 0))] M' W φ' R' → C W) →
   (∀ (W : World) (R' : Nat → Prop) (φ' : Ph) k, k < N → (∀ n, Rs n → R' n) → (∀ n, Rs n → W.heap[n]? = w.heap[n]?) → Rel W R' φ' (.sl (((d.drop (7 * k)).take 7).map fun k => .sc (.int .i64 k))) (vs k)) →
   (Code.block bid (.rangeFunc (.tmp gs) #[ps] assign body)).wp P (Exit.then (Code.wp P (.seq (.region id ops false) .ret) fun e a' w' => (∃ s', SRel c s' a' w' ∧ Q e s') ∨ (e = .ret ∧ ZM P fn r c a' w')) fun e a' w' => (∃ s', SRel c s' a' w' ∧ Q e s') ∨ (e = .ret ∧ ZM P fn r c a' w')) a w := by
  intro C encs vs hencs hit hC hrel
  refine wp_block (wpIn_wide (n := 0) |>.1 ?_)
  refine wp_range (Mk := fun k => [(1000, some (BB k 1101)), (1002, some RB), (1101, some (LB k))]) (Mr := fun k => [(1000, some (BB (k + 1) 999)), (1002, some RB), (999, some (LB (k + 1)))]) (ρ0 := [(1000, some 1000), (1002, some 1002), (1101, some 1102)]) (ρ := [(1000, some 1000), (1002, some 1002), (1101, some 999)])
   (fun k => { tmps := (a.tmps.setIfInBounds ps (vs k)).setIfInBounds xs (vs k), defers := [] }) hgv eg hit (fun k => by rw [hencs]; rfl) m1 m2 hs.Rb hC rfl rfl hw0 ?_ rfl (fun _ => rfl) hwk ?_ ?_ ?_ ?_ ?_
  ·intro b k k' h1 h2
   simp only [lk_cons, lk_nil'] at h1 h2 ⊢
   by_cases e1 : b = 1000
   ·subst e1; simp
   ·by_cases e2 : b = 1002
    ·subst e2; simp
    ·by_cases e3 : b = 1102
     ·subst e3; simp at h2
     ·simp [e1, e2, e3] at h1
  ·intro j b k k' h1 h2
   simp only [lk_cons, lk_nil'] at h1 h2 ⊢
   by_cases e1 : b = 1000
   ·subst e1; simp
   ·by_cases e2 : b = 1002
    ·subst e2; simp
    ·by_cases e3 : b = 1102
     ·subst e3; simp at h2
     ·simp [e1, e2, e3] at h1
  ·intro j b k k' h1 h2
   simp only [lk_cons, lk_nil'] at h1 h2 ⊢
   by_cases e1 : b = 1000
   ·subst e1; simp
   ·by_cases e2 : b = 1002
    ·subst e2; simp
    ·by_cases e3 : b = 1102
     ·subst e3; simp at h2
     ·simp [e1, e2, e3] at h1
  ·intro lp k mm W K hk hK
   rw [hencs]
   have hz : (#[ps].zip #[vs k]).foldl (fun t (x : Tmp × Value) => t.setIfInBounds x.1 x.2) a.tmps = a.tmps.setIfInBounds ps (vs k) := by simp
   refine hassign lp mm W K _ (by simpa using hs.n) ?_
   have hps : ps < a.tmps.size := by rw [hs.n]; exact hsl.1
   simpa [Array.getD_eq_getD_getElem?, hps] using hK
  ·intro lp k mm W φ' R' hk hp
   refine round_of_awr rfl (hbody k hk) (by simpa using hs.n) rfl ?_ hp.mem hp.dom hp.Rb lp mm
   intro q av hq
   have hxs : xs < a.tmps.size := by rw [hs.n]; exact hsl.2.1
   simp only [lk_cons, lk_nil'] at hq
   by_cases e1 : q = bs
   ·subst e1
    simp at hq
    subst hq
    have e2 : φ' 1000 = some (some hmb) := (hp.keep 1000 _ _ rfl rfl).trans vb
    have e3 : ((a.tmps.setIfInBounds ps (vs k)).setIfInBounds xs (vs k)).getD q undef = .pointer (some ⟨hmb.blk, 0, none⟩) := by
     rw [← hvb]
     simp [Array.getD_eq_getD_getElem?, hsl.2.2.1, hsl.2.2.2]
    rw [e3]
    exact refOf e2
   ·by_cases e4 : q = xs
    ·subst e4
     rw [if_neg e1, if_pos rfl] at hq
     obtain rfl := Option.some.inj hq
     have e3 : ((a.tmps.setIfInBounds ps (vs k)).setIfInBounds q (vs k)).getD q undef = vs k := by
      simp [Array.getD_eq_getD_getElem?, hxs]
     rw [e3]
     refine hrel W R' φ' k hk hp.R0 (fun j hj => hp.ext.block j (hs.Rb j hj) ?_)
     rintro ⟨b, k', h', e5, e6, rfl⟩
     exact m1.notR b k' h' e5 e6 hj
    ·simp [e1, e4] at hq
  ·intro D W φ' R' hp hD1 hRD hD
   have e2 : φ' 1000 = some (some hmb) := (hp.keep 1000 _ _ rfl rfl).trans vb
   have e3 : φ' 1002 = some (some hmr) := (hp.keep 1002 _ _ rfl rfl).trans vr
   have hfr : ∀ j, blksOf (φs.via [(1000, some bb), (1002, some rb), (1102, none)]) [(1000, some (BB 0 1102)), (1002, some RB), (1102, some (LB 0))] j → c.w0.heap.size ≤ j ∨ c.G j := by
    rintro j ⟨b, k', h', e5, e6, rfl⟩
    obtain ⟨b0, k0, g1, g2, g3⟩ := m3 b k' h' e5 e6
    exact hs.fresh b0 k0 h' g2 g3
   show Code.wp P (.seq (.region id ops false) .ret) _ _ W
   rw [hs.d]
   refine zm_of_rest hrest hdef (a := a) (φ := φ') (R := R') hs.n hs.d ?_ hp.mem hp.dom hp.Rb hD hRD (fun j hj => hp.R0 j (hs.R0 j hj)) (fun j hj => ?_) ?_ (hs.ext.trans hp.ext fun i hi hg => ?_) (Nat.le_trans hs.ext.size hD1)
   ·intro q av hq
    simp only [lk_cons, lk_nil'] at hq
    by_cases g1 : q = rs
    ·subst g1
     simp at hq
     subst hq
     rw [hvr]
     exact refOf e3
    ·by_cases g2 : q = bs
     ·subst g2
      simp [g1] at hq
      subst hq
      rw [hvb]
      exact refOf e2
     ·simp [g1, g2] at hq
   ·rcases hp.Rn j hj with q | q | q
    ·exact hs.Rn j q
    ·exact .inr (.inl (Nat.le_trans hs.ext.size q))
    ·exact .inr (hfr j q)
   ·rintro j ⟨b, k', h', e5, e6, rfl⟩
    rcases hp.fresh b k' h' e5 e6 with q | q
    ·exact .inl (Nat.le_trans hs.ext.size q)
    ·exact hfr _ q
   ·rcases hfr i hg with q | q
    ·exact absurd q (Nat.not_le.2 hi)
    ·exact q
 by_cases hN : N = 0
 ·subst hN
  have hd0 : d = [] := List.eq_nil_of_length_eq_zero (by simpa using hd)
  subst hd0
  obtain ⟨sa, cap, rfl⟩ : ∃ sa cap, u = .slice sa 0 cap := by
   cases hru with
   | sl0 => exact ⟨_, _, rfl⟩
   | sl f he hR hcap hl hc hr => exact ⟨_, _, rfl⟩
  exact key _ (fun _ => #[undef]) (fun _ => undef) (fun _ => rfl) (it0 _ _ cap sa _) hcellX (fun _ _ _ k hk => absurd hk (Nat.not_lt_zero _))
 ·generalize hxs : d.map (fun k => AV.sc (.int .i64 k)) = xl at hru
  have hlen : xl.length = 7 * N := by rw [← hxs]; simpa using hd
  cases hru with
  | sl0 => simp at hlen; omega
  | @sl _ _ b o cap e f he hR hcap hl hc hr =>
   obtain rfl : e = 1 := by
    have h0 := hl 0 (xl[0]'(by omega)) (List.getElem?_eq_getElem _)
    rw [← h0]
    subst hxs
    simp [AV.cells]
   rw [hlen] at hcellX hcap hc
   refine key _ _ (fun k => .slice (some ⟨b, o + 7 * k, none⟩) 7 7) (fun _ => rfl) (it _ _ b o cap hcap) (fun W φ' R' M' hp => ⟨hcellX W φ' R' M' hp, hcellY W φ' R' M' hp⟩) ?_
   intro W R' φ' k hk hRR hW
   have hl7 : (((d.drop (7 * k)).take 7).map fun k => AV.sc (.int .i64 k)).length = 7 := by simp; omega
   have := Rel.sl (w := W) (R := R') (φ := φ') (xs := ((d.drop (7 * k)).take 7).map fun k => AV.sc (.int .i64 k)) (b := b) (o := o + 7 * k) (cap := 7) (e := 1) (fun j => f (7 * k + j)) (by omega) (hRR _ hR) (by rw [hl7]; exact Nat.le_refl _) ?_ ?_ ?_
   ·rw [hl7] at this
    exact this
   ·intro i x hx
    rw [List.getElem?_map] at hx
    cases hq : ((d.drop (7 * k)).take 7)[i]? with
    | none => simp [hq] at hx
    | some y => simp [hq] at hx; subst hx; rfl
   ·intro j hj
    rw [hl7] at hj
    have := hc (7 * k + j) (by omega)
    rw [World.cell?_of_block (hW _ hR), Nat.add_assoc]
    exact this
   ·intro i x j cc hx hj
    have hi : i < 7 := by rw [← hl7]; exact (List.getElem?_eq_some_iff.1 hx).1
    have hx' : xl[7 * k + i]? = some x := by
     rw [← hxs]
     rw [List.getElem?_map] at hx ⊢
     rw [List.getElem?_take_of_lt hi, List.getElem?_drop] at hx
     exact hx
    have := hr (7 * k + i) x j cc hx' hj
    have e9 : (7 * k + i) * 1 + j = 7 * k + (i * 1 + j) := by omega
    rw [e9] at this
    exact this.mono hW hRR (fun _ _ h => h)
end Go.Ab
