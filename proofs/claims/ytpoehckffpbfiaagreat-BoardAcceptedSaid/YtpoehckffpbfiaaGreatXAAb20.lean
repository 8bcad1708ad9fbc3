/- The abstract layer, part 20: own slices become slices that are only read. -/
import Derived.Test.YtpoehckffpbfiaaGreatXAAb19
namespace Go.Ab
open Go.RowKit
variable {lim : Nat}
def wkXL (L : Mem) (ρ : Rho) (xs ys : List AV) : Prop := (xs = ys ∧ ∀ y ∈ ys, noref y = true) ∨ (wkL L ρ xs ys ∧ lenL xs ys)
def wkML (L : Mem) (ρ : Rho) (m : Mem) : Mem → Prop
 | [] => True
 | (_, none) :: _ => False
 | (b', some k) :: l => (match lk b' ρ with
   | some (some b) => ∃ k0, lk b m = some (some k0) ∧ k0.ty = k.ty ∧ k0.esz = k.esz ∧ wkXL L ρ k0.xs k.xs
   | some none => k.xs = []
   | none => False) ∧ wkML L ρ m l
def wkTL (L : Mem) (ρ : Rho) (s : St) : List (Nat × AV) → Prop
 | [] => True
 | (t, av) :: l => wkP L ρ (s.get t) av ∧ wkTL L ρ s l
theorem wkML_mem {L : Mem} {ρ : Rho} {m : Mem} : ∀ {M : Mem}, wkML L ρ m M → ∀ b' k, (b', some k) ∈ M → (match lk b' ρ with
   | some (some b) => ∃ k0, lk b m = some (some k0) ∧ k0.ty = k.ty ∧ k0.esz = k.esz ∧ wkXL L ρ k0.xs k.xs
   | some none => k.xs = []
   | none => False)
 | [], _, _, _, h => by cases h
 | (j, none) :: l, hw, b', k, h => by simp [wkML] at hw
 | (j, some q) :: l, hw, b', k, h => by
  simp only [wkML] at hw
  rcases List.mem_cons.1 h with h | h
  ·cases h; exact hw.1
  ·exact wkML_mem hw.2 b' k h
theorem wkTL_mem {L : Mem} {ρ : Rho} {s : St} : ∀ {l : List (Nat × AV)}, wkTL L ρ s l → ∀ t av, (t, av) ∈ l → wkP L ρ (s.get t) av
 | [], _, t, av, h => by cases h
 | (j, q) :: l, hw, t, av, h => by
  simp only [wkTL] at hw
  rcases List.mem_cons.1 h with h | h
  ·cases h; exact hw.1
  ·exact wkTL_mem hw.2 t av h
theorem wkP_cellsL {L : Mem} {ρ : Rho} {x y : AV} (h : wkP L ρ x y) (hl : x.cells.length = y.cells.length) : ∀ (j : Nat) (c d : AV), x.cells[j]? = some c → y.cells[j]? = some d → wkP L ρ c d := by
 intro j c d hc hd
 by_cases hy : y = .bot
 ·subst hy
  cases j with
  | zero => simp [AV.cells] at hd; subst hd; cases c <;> simp [wkP]
  | succ j => simp [AV.cells] at hd
 ·have one : ∀ {x y : AV}, x.cells = [x] → y.cells = [y] → wkP L ρ x y → ∀ (j : Nat) (c d : AV), x.cells[j]? = some c → y.cells[j]? = some d → wkP L ρ c d := by
   intro x y h1 h2 h j c d hc hd
   rw [h1] at hc
   rw [h2] at hd
   cases j with
   | zero => simp at hc hd; subst hc; subst hd; exact h
   | succ j => simp at hc
  cases x <;> cases y <;> first | exact absurd rfl hy | (simp [wkP] at h; done) | exact one rfl rfl h j c d hc hd | skip
  rename_i cs ds
  simp only [wkP] at h
  exact (wkL_get h).2 j c d hc hd
def withL (R : Nat → Prop) (φ : Ph) (L : Mem) (n : Nat) : Prop := R n ∨ blksOf φ L n
theorem wk_memL {φ : Ph} {R : Nat → Prop} {mm : Mem} {w : World} (hs : MemOK w R φ mm) {L : Mem} {ρ : Rho} {M : Mem} (hL : lendsOK ρ mm L) (hi : injB ρ = true) (hi2 : (ρ.all fun p => (lk p.1 M).isSome) = true) (hM : wkML L ρ mm M) :
  MemOK w (withL R φ L) (φ.via ρ) M ∧ (∀ b x, φ.via ρ b = some x → ∃ y, lk b M = some y) ∧ (∀ b k h, lk b M = some (some k) → φ.via ρ b = some (some h) → ∃ b0 k0, lk b ρ = some (some b0) ∧ lk b0 mm = some (some k0) ∧ φ b0 = some (some h)) := by
 have hinj := injB_spec hi
 have hm : ∀ b k h, lk b L = some (some k) → φ b = some (some h) → lk b mm = some (some k) ∧ withL R φ L h.blk := by
  intro b k h hb hp
  obtain ⟨k', e, h1, _⟩ := lendsOK_mem hL b _ (lk_mem hb)
  cases e
  exact ⟨h1, .inr ⟨b, k, h, hb, hp, rfl⟩⟩
 have src : ∀ b k h, lk b M = some (some k) → φ.via ρ b = some (some h) → ∃ b0 k0, lk b ρ = some (some b0) ∧ lk b0 mm = some (some k0) ∧ φ b0 = some (some h) ∧ k0.ty = k.ty ∧ k0.esz = k.esz ∧ wkXL L ρ k0.xs k.xs := by
  intro b k h hb hv
  have := wkML_mem hM b k (lk_mem hb)
  unfold Ph.via at hv
  cases hq : lk b ρ with
  | none => simp [hq] at hv
  | some o =>
   cases o with
   | none => simp [hq] at hv
   | some b0 =>
    simp only [hq] at hv this
    obtain ⟨k0, h0, h1, h2, h3⟩ := this
    exact ⟨b0, k0, rfl, h0, hv, h1, h2, h3⟩
 refine ⟨⟨?_, ?_, ?_⟩, ?_, ?_⟩
 ·intro b k hb
  have hm1 := wkML_mem hM b k (lk_mem hb)
  cases hq : lk b ρ with
  | none => simp [hq] at hm1
  | some o =>
   cases o with
   | none =>
    simp only [hq] at hm1
    exact ⟨none, by simp [Ph.via, hq], hm1⟩
   | some b0 =>
    simp only [hq] at hm1
    obtain ⟨k0, h0, h1, h2, h3⟩ := hm1
    obtain ⟨oh, ho, hr⟩ := hs.rel b0 k0 h0
    refine ⟨oh, by simp [Ph.via, hq, ho], ?_⟩
    cases oh with
    | none =>
     simp only [BlkRel] at hr ⊢
     rw [hr] at h3
     rcases h3 with ⟨h3, _⟩ | ⟨h3, _⟩
     ·exact h3.symm
     ·have := (wkL_get h3).1
      exact List.eq_nil_of_length_eq_zero (by simpa using this.symm)
    | some x =>
     obtain ⟨r1, r2, r3, r4, C, r5, r6, r7⟩ := hr
     rcases h3 with ⟨h3, h4⟩ | ⟨h3, h4⟩
     ·refine ⟨by rw [← h2, r1], r2, by rw [← h3]; exact r3, r4, C, by rw [← h1]; exact r5, r6, fun i y hy => ?_⟩
      have hy0 := hy
      rw [← h3] at hy
      obtain ⟨q1, q2⟩ := r7 i y hy
      refine ⟨q1, fun j c' hj => ?_⟩
      obtain ⟨u, hu, hru⟩ := q2 j c' hj
      refine ⟨u, hu, (hru.noref ?_).more fun _ h => .inl h⟩
      have hn := h4 y (List.mem_of_getElem? hy0)
      cases y with
      | agg cs => exact norefL_get (cs := cs) (by simpa [noref] using hn) j c' hj
      | _ =>
       simp only [AV.cells] at hj
       cases j with
       | zero => simp at hj; subst hj; exact hn
       | succ j => simp at hj
     ·obtain ⟨g1, g2⟩ := wkL_get h3
      refine ⟨by rw [← h2, r1], r2, by rw [← g1]; exact r3, r4, C, by rw [← h1]; exact r5, r6, fun i y hy => ?_⟩
      have hlt := (List.getElem?_eq_some_iff.1 hy).1
      have hx : k0.xs[i]? = some (k0.xs[i]'(by omega)) := List.getElem?_eq_getElem (by omega)
      obtain ⟨q1, q2⟩ := r7 i _ hx
      have hlen := lenL_get h4 i _ y hx hy
      refine ⟨by rw [← hlen]; exact q1, fun j d hj => ?_⟩
      have hjl : j < (k0.xs[i]'(by omega)).cells.length := by rw [hlen]; exact (List.getElem?_eq_some_iff.1 hj).1
      obtain ⟨u, hu, hru⟩ := q2 j _ (List.getElem?_eq_getElem hjl)
      refine ⟨u, hu, ?_⟩
      exact wkP_rel hs (m := L) (fun _ h => .inl h) hm hru (wkP_cellsL (g2 i _ y hx hy) hlen j _ d (List.getElem?_eq_getElem hjl) hj)
 ·intro b b' k k' h h' hb hb' hv hv' heq
  obtain ⟨q, kq, e1, e2, e3, _⟩ := src b k h hb hv
  obtain ⟨q', kq', f1, f2, f3, _⟩ := src b' k' h' hb' hv'
  have := hs.inj q q' kq kq' h h' e2 f2 e3 f3 heq
  subst this
  exact hinj b b' q e1 f1
 ·intro b k h hb hv
  obtain ⟨q, kq, e1, e2, e3, _⟩ := src b k h hb hv
  rintro (hR | ⟨b1, k1, h1, g1, g2, g3⟩)
  ·exact hs.notR q kq h e2 e3 hR
  ·obtain ⟨k1', e, f1, f2⟩ := lendsOK_mem hL b1 _ (lk_mem g1)
   have := hs.inj b1 q k1' kq h1 h f1 e2 g2 e3 g3
   subst this
   exact f2 (srcs_mem e1)
 ·intro b x hx
  unfold Ph.via at hx
  cases hq : lk b ρ with
  | none => simp [hq] at hx
  | some o =>
   have := List.all_eq_true.1 hi2 _ (lk_mem hq)
   exact Option.isSome_iff_exists.1 this
 ·intro b k h hb hv
  obtain ⟨q, kq, e1, e2, e3, _⟩ := src b k h hb hv
  exact ⟨q, kq, e1, e2, e3⟩
def WkF (s h : St) : Prop := ∃ L ρ, s.n = h.n ∧ rhoOK ρ h.m = true ∧ lendsOK ρ s.m L ∧ wkTL L ρ s h.t ∧ wkML L ρ s.m h.m
theorem SRel.freeze {c : Ctx} {s h : St} {a : Act} {w : World} (hs : SRel c s a w) (hw : WkF s h) : SRel c h a w := by
 obtain ⟨φ, R, hs⟩ := hs
 obtain ⟨L, ρ, h1, h2, hL, h3, h4⟩ := hw
 obtain ⟨i1, i2⟩ := rhoOK_spec h2
 obtain ⟨m1, m2, m3⟩ := wk_memL hs.m hL i1 i2 h4
 have hLl : ∀ b k h, lk b L = some (some k) → φ b = some (some h) → lk b s.m = some (some k) := by
  intro b k h hb hp
  obtain ⟨k', e, h1, _⟩ := lendsOK_mem hL b _ (lk_mem hb)
  cases e
  exact h1
 refine ⟨φ.via ρ, withL R φ L, hs.n.trans h1, fun t av ht => ?_, m1, m2, fun b k x hb hx => ?_, fun n h => .inl (hs.R0 n h), ?_, ?_, hs.ext, hs.d, via_keep h2 hs.keep⟩
 ·exact wkP_rel hs.m (m := L) (fun _ h => .inl h) (fun b k h hb hp => ⟨hLl b k h hb hp, .inr ⟨b, k, h, hb, hp, rfl⟩⟩) (hs.get t) (wkTL_mem h3 t av (lk_mem ht))
 ·obtain ⟨b0, k0, _, e1, e2⟩ := m3 b k x hb hx
  exact hs.fresh b0 k0 x e1 e2
 ·rintro n (h | ⟨b, k, x, g1, g2, rfl⟩)
  ·exact hs.Rn n h
  ·exact .inr (hs.fresh b k x (hLl b k x g1 g2) g2)
 ·rintro n (h | ⟨b, k, x, g1, g2, rfl⟩)
  ·exact hs.Rb n h
  ·obtain ⟨oh, ho, hr⟩ := hs.m.rel b k (hLl b k x g1 g2)
   rw [g2] at ho
   cases ho
   obtain ⟨_, _, _, _, C, r5, _⟩ := hr
   exact (Array.getElem?_eq_some_iff.1 r5).1
section
variable {P : Program} {tt : TT} {Q : Exit → St → Prop} {s : St}
theorem awp_freeze0 {body : Code} {h : St} (hw : WkF s h) (hh : AWP P lim body Q h) : AWP P lim body Q s :=
 fun c hc0 a w hs => hh c hc0 a w (hs.freeze hw)
theorem wkTL_append {L : Mem} {ρ : Rho} {s : St} : ∀ {a b : List (Nat × AV)}, wkTL L ρ s a → wkTL L ρ s b → wkTL L ρ s (a ++ b)
 | [], _, _, h => h
 | (_, _) :: _, _, h, h' => ⟨h.1, wkTL_append h.2 h'⟩
theorem wkML_append {L : Mem} {ρ : Rho} {m : Mem} : ∀ {a b : Mem}, wkML L ρ m a → wkML L ρ m b → wkML L ρ m (a ++ b)
 | [], _, _, h => h
 | (_, none) :: _, _, h, _ => by simp [wkML] at h
 | (_, some _) :: _, _, h, h' => ⟨h.1, wkML_append h.2 h'⟩
mutual
theorem wkP_up {L : Mem} {ρ : Rho} : ∀ (x y : AV), wkP [] ρ x y → wkP L ρ x y
 | .agg cs, .agg ds, h => by simp only [wkP] at h ⊢; exact wkL_up cs ds h
 | .tup cs, .tup ds, h => by simp only [wkP] at h ⊢; exact wkL_up cs ds h
 | .clo f a b, .clo f' a' b', h => by simp only [wkP] at h ⊢; exact ⟨h.1, wkL_up a a' h.2.1, wkL_up b b' h.2.2⟩
 | .arr b off len, .sl ys, h => by simp [wkP, lendOK, lk] at h
 | .sc v, y, h => by cases y <;> simp only [wkP] at h ⊢ <;> exact h
 | .nilS, y, h => by cases y <;> simp only [wkP] at h ⊢ <;> exact h
 | .sl _, y, h => by cases y <;> simp only [wkP] at h ⊢ <;> exact h
 | .vp _, y, h => by cases y <;> simp only [wkP] at h ⊢ <;> exact h
 | .mpv _ _ _, y, h => by cases y <;> simp only [wkP] at h ⊢ <;> exact h
 | .slx _, y, h => by cases y <;> simp only [wkP] at h ⊢ <;> exact h
 | .agg _, .slx _, h => by simp [wkP] at h
 | .tup _, .slx _, h => by simp [wkP] at h
 | .clo _ _ _, .slx _, h => by simp [wkP] at h
 | .arr _ _ _, .slx _, h => by simp [wkP] at h
 | .agg _, .mpv _ _ _, h => by simp [wkP] at h
 | .tup _, .mpv _ _ _, h => by simp [wkP] at h
 | .clo _ _ _, .mpv _ _ _, h => by simp [wkP] at h
 | .arr _ _ _, .mpv _ _ _, h => by simp [wkP] at h
 | .ref _ _ _, y, h => by cases y <;> simp only [wkP] at h ⊢ <;> exact h
 | .bot, y, h => by cases y <;> simp only [wkP] at h ⊢
 | .agg _, .bot, _ => by simp [wkP]
 | .tup _, .bot, _ => by simp [wkP]
 | .clo _ _ _, .bot, _ => by simp [wkP]
 | .arr _ _ _, .bot, _ => by simp [wkP]
 | .arr _ _ _, .arr _ _ _, h => by simp only [wkP] at h ⊢; exact h
 | .agg _, .sc _, h => by simp [wkP] at h
 | .agg _, .nilS, h => by simp [wkP] at h
 | .agg _, .tup _, h => by simp [wkP] at h
 | .agg _, .sl _, h => by simp [wkP] at h
 | .agg _, .vp _, h => by simp [wkP] at h
 | .agg _, .ref _ _ _, h => by simp [wkP] at h
 | .agg _, .arr _ _ _, h => by simp [wkP] at h
 | .agg _, .clo _ _ _, h => by simp [wkP] at h
 | .tup _, .sc _, h => by simp [wkP] at h
 | .tup _, .nilS, h => by simp [wkP] at h
 | .tup _, .agg _, h => by simp [wkP] at h
 | .tup _, .sl _, h => by simp [wkP] at h
 | .tup _, .vp _, h => by simp [wkP] at h
 | .tup _, .ref _ _ _, h => by simp [wkP] at h
 | .tup _, .arr _ _ _, h => by simp [wkP] at h
 | .tup _, .clo _ _ _, h => by simp [wkP] at h
 | .clo _ _ _, .sc _, h => by simp [wkP] at h
 | .clo _ _ _, .nilS, h => by simp [wkP] at h
 | .clo _ _ _, .agg _, h => by simp [wkP] at h
 | .clo _ _ _, .tup _, h => by simp [wkP] at h
 | .clo _ _ _, .sl _, h => by simp [wkP] at h
 | .clo _ _ _, .vp _, h => by simp [wkP] at h
 | .clo _ _ _, .ref _ _ _, h => by simp [wkP] at h
 | .clo _ _ _, .arr _ _ _, h => by simp [wkP] at h
 | .arr _ _ _, .sc _, h => by simp [wkP] at h
 | .arr _ _ _, .nilS, h => by simp [wkP] at h
 | .arr _ _ _, .agg _, h => by simp [wkP] at h
 | .arr _ _ _, .tup _, h => by simp [wkP] at h
 | .arr _ _ _, .vp _, h => by simp [wkP] at h
 | .arr _ _ _, .ref _ _ _, h => by simp [wkP] at h
 | .arr _ _ _, .clo _ _ _, h => by simp [wkP] at h
theorem wkL_up {L : Mem} {ρ : Rho} : ∀ (x y : List AV), wkL [] ρ x y → wkL L ρ x y
 | [], [], h => h
 | c :: cs, d :: ds, h => by simp only [wkL] at h ⊢; exact ⟨wkP_up c d h.1, wkL_up cs ds h.2⟩
 | [], _ :: _, h => by simp [wkL] at h
 | _ :: _, [], h => by simp [wkL] at h
end
theorem wkT_up {L : Mem} {ρ : Rho} {s : St} : ∀ {l : List (Nat × AV)}, wkT ρ s l → wkTL L ρ s l
 | [], _ => trivial
 | (_, _) :: _, h => ⟨wkP_up _ _ h.1, wkT_up h.2⟩
theorem wkM_up {L : Mem} {ρ : Rho} {m : Mem} : ∀ {l : Mem}, wkM ρ m l → wkML L ρ m l
 | [], _ => trivial
 | (_, none) :: _, h => by simp [wkM] at h
 | (b, some k) :: l, h => by
  simp only [wkM] at h
  simp only [wkML]
  refine ⟨?_, wkM_up h.2⟩
  have h1 := h.1
  cases hq : lk b ρ with
  | none => simp [hq] at h1
  | some o =>
   cases o with
   | none => simp only [hq] at h1 ⊢; exact h1
   | some q =>
    simp only [hq] at h1 ⊢
    obtain ⟨k0, e1, e2, e3, e4⟩ := h1
    refine ⟨k0, e1, e2, e3, ?_⟩
    rcases e4 with e4 | ⟨e4, e5⟩
    ·exact .inl e4
    ·exact .inr ⟨wkL_up _ _ e4, e5⟩
end
end Go.Ab
