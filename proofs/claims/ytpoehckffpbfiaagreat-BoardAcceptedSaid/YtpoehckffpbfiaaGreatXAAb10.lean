/- The abstract layer, part 10: what is forgotten at a loop's head, a call and a return. -/
import Derived.Test.YtpoehckffpbfiaaGreatXAAb9
namespace Go.Ab
open Go.RowKit
abbrev Mem := List (Nat × Option Blk)
abbrev Rho := List (Nat × Option Nat)
def scEq : Value → Value → Prop
 | .int k a, .int k' b => k = k' ∧ a = b
 | .bool a, .bool b => a = b
 | v, u => v = u
theorem scEq_eq {v u : Value} (h : scEq v u) : v = u := by
 unfold scEq at h
 split at h
 ·obtain ⟨rfl, rfl⟩ := h; rfl
 ·rw [h]
 ·exact h
mutual
def noref : AV → Bool
 | .ref _ _ _ | .arr _ _ _ | .mpv _ _ _ => false
 | .clo _ a b => norefL a && norefL b
 | .agg cs => norefL cs
 | .tup cs => norefL cs
 | _ => true
def norefL : List AV → Bool
 | [] => true
 | c :: cs => noref c && norefL cs
end
mutual
def noSl : AV → Bool
 | .sl xs => xs.isEmpty
 | .vp _ => false
 | .mpv _ _ _ => false
 | .slx _ => false
 | .agg cs => noSlL cs
 | .tup cs => noSlL cs
 | .clo _ a b => noSlL a && noSlL b
 | _ => true
def noSlL : List AV → Bool
 | [] => true
 | c :: cs => noSl c && noSlL cs
end
theorem norefL_get {cs : List AV} (h : norefL cs = true) : ∀ (i : Nat) (c : AV), cs[i]? = some c → noref c = true := by
 induction cs with
 | nil => intro i c hc; simp at hc
 | cons d ds ih =>
  simp only [norefL, Bool.and_eq_true] at h
  intro i c hc
  cases i with
  | zero => simp at hc; subst hc; exact h.1
  | succ i => exact ih h.2 i c (by simpa using hc)
theorem noSlL_get {cs : List AV} (h : noSlL cs = true) : ∀ (i : Nat) (c : AV), cs[i]? = some c → noSl c = true := by
 induction cs with
 | nil => intro i c hc; simp at hc
 | cons d ds ih =>
  simp only [noSlL, Bool.and_eq_true] at h
  intro i c hc
  cases i with
  | zero => simp at hc; subst hc; exact h.1
  | succ i => exact ih h.2 i c (by simpa using hc)
theorem Rel.noref {w : World} {R : Nat → Prop} {φ φ' : Ph} {a : AV} {v : Value} (h : Rel w R φ a v) (hn : noref a = true) : Rel w R φ' a v := by
 induction h generalizing φ' with
 | bot => exact .bot
 | sc h => exact .sc h
 | nilS => exact .nilS
 | agg hl _ ih => exact .agg hl fun i c v h1 h2 => ih i c v h1 h2 (norefL_get (by simpa [Ab.noref] using hn) i c h1)
 | tup hl _ ih => exact .tup hl fun i c v h1 h2 => ih i c v h1 h2 (norefL_get (by simpa [Ab.noref] using hn) i c h1)
 | sl0 => exact .sl0
 | sl f he hR hcap hl hc hr _ => exact .sl f he hR hcap hl hc hr
 | vp f hR hc hr _ => exact .vp f hR hc hr
 | ref hb => simp [Ab.noref] at hn
 | arr hb hl hc => simp [Ab.noref] at hn
 | arr0 hb => simp [Ab.noref] at hn
 | clo hf hc _ _ ih1 ih2 =>
  simp only [Ab.noref, Bool.and_eq_true] at hn
  exact .clo hf hc (fun i c v h1 h2 => ih1 i c v h1 h2 (norefL_get hn.1 i c h1)) (fun i c v h1 h2 => ih2 i c v h1 h2 (norefL_get hn.2 i c h1))
 | mpv hd hR hc he => simp [Ab.noref] at hn
 | slx _ ih => exact .slx (ih (by simp [Ab.noref]))
theorem Rel.noSl {w : World} {R R' : Nat → Prop} {φ : Ph} {a : AV} {v : Value} (h : Rel w R φ a v) (hn : noSl a = true) : Rel w R' φ a v := by
 induction h with
 | bot => exact .bot
 | sc h => exact .sc h
 | nilS => exact .nilS
 | agg hl _ ih => exact .agg hl fun i c v h1 h2 => ih i c v h1 h2 (noSlL_get (by simpa [Ab.noSl] using hn) i c h1)
 | tup hl _ ih => exact .tup hl fun i c v h1 h2 => ih i c v h1 h2 (noSlL_get (by simpa [Ab.noSl] using hn) i c h1)
 | sl0 => exact .sl0
 | @sl _ xs b o cap e f he hR hcap hl hc hr _ =>
  simp [Ab.noSl] at hn
  subst hn
  exact .sl0
 | vp f hR hc hr _ => simp [Ab.noSl] at hn
 | ref hb => exact .ref hb
 | arr hb hl hc => exact .arr hb hl hc
 | arr0 hb => exact .arr0 hb
 | clo hf hc _ _ ih1 ih2 =>
  simp only [Ab.noSl, Bool.and_eq_true] at hn
  exact .clo hf hc (fun i c v h1 h2 => ih1 i c v h1 h2 (noSlL_get hn.1 i c h1)) (fun i c v h1 h2 => ih2 i c v h1 h2 (noSlL_get hn.2 i c h1))
 | mpv hd hR hc he => simp [Ab.noSl] at hn
 | slx _ _ => simp [Ab.noSl] at hn
def lendOK (m : Mem) (b off len : Nat) (ys : List AV) : Prop :=
 match lk b m with
 | some (some k) => off + len ≤ k.xs.length ∧ ys = (k.xs.drop off).take len ∧ ∀ y ∈ ys, noref y = true
 | _ => False
mutual
def wkP (m : Mem) (ρ : Rho) : AV → AV → Prop
 | _, .bot => True
 | .sc v, .sc u => scEq v u
 | .nilS, .nilS => True
 | .nilS, .sl ys => ys = []
 | .nilS, .arr b off len => lk b ρ = some none ∧ off = 0 ∧ len = 0
 | .sl xs, .sl ys => xs = ys
 | .vp xs, .vp ys => xs = ys
 | .slx xs, .slx ys => xs = ys
 | .mpv d r xs, .mpv d' r' ys => lk d' ρ = some (some d) ∧ r = r' ∧ xs = ys
 | .ref b i off, .ref b' i' off' => lk b' ρ = some (some b) ∧ i = i' ∧ off = off'
 | .arr b off len, .arr b' off' len' => lk b' ρ = some (some b) ∧ off = off' ∧ len = len'
 | .arr b off len, .sl ys => lendOK m b off len ys
 | .agg cs, .agg ds => wkL m ρ cs ds
 | .tup cs, .tup ds => wkL m ρ cs ds
 | .clo f a b, .clo f' a' b' => f = f' ∧ wkL m ρ a a' ∧ wkL m ρ b b'
 | _, _ => False
def wkL (m : Mem) (ρ : Rho) : List AV → List AV → Prop
 | [], [] => True
 | c :: cs, d :: ds => wkP m ρ c d ∧ wkL m ρ cs ds
 | _, _ => False
end
theorem wkL_get {m : Mem} {ρ : Rho} : ∀ {cs ds : List AV}, wkL m ρ cs ds → cs.length = ds.length ∧ ∀ (i : Nat) (c d : AV), cs[i]? = some c → ds[i]? = some d → wkP m ρ c d
 | [], [], _ => ⟨rfl, fun i c d h => by simp at h⟩
 | c :: cs, d :: ds, h => by
  simp only [wkL] at h
  obtain ⟨h1, h2⟩ := wkL_get h.2
  refine ⟨by simp [h1], fun i c' d' hc hd => ?_⟩
  cases i with
  | zero => simp at hc hd; subst hc; subst hd; exact h.1
  | succ i => exact h2 i c' d' (by simpa using hc) (by simpa using hd)
 | [], _ :: _, h => by simp [wkL] at h
 | _ :: _, [], h => by simp [wkL] at h
def Ph.via (φ : Ph) (ρ : Rho) : Ph := fun b' => match lk b' ρ with
 | some (some b) => φ b
 | some none => some none
 | none => none
theorem wkP_rel {φ : Ph} {R : Nat → Prop} {mm : Mem} {w : World} (hs : MemOK w R φ mm) {m : Mem} {ρ : Rho} {R' : Nat → Prop} (hR : ∀ n, R n → R' n) (hm : ∀ b k h, lk b m = some (some k) → φ b = some (some h) → lk b mm = some (some k) ∧ R' h.blk) {x y : AV} {v : Value} (h : Rel w R φ x v) (hw : wkP m ρ x y) : Rel w R' (φ.via ρ) y v := by
 induction h generalizing y with
 | bot => cases y <;> simp [wkP] at hw; exact .bot
 | sc hf =>
  cases y <;> simp only [wkP] at hw
  ·exact .bot
  ·have := scEq_eq hw; subst this; exact .sc hf
 | nilS =>
  cases y <;> simp only [wkP] at hw
  ·exact .bot
  ·exact .nilS
  ·subst hw; exact .sl0
  ·obtain ⟨h1, rfl, rfl⟩ := hw
   exact .arr0 (by simp [Ph.via, h1])
 | agg hl _ ih =>
  cases y <;> simp only [wkP] at hw
  ·exact .bot
  ·obtain ⟨g1, g2⟩ := wkL_get hw
   refine .agg (g1 ▸ hl) fun i d v hd hv => ?_
   have hlt := (List.getElem?_eq_some_iff.1 hd).1
   exact ih i _ v (List.getElem?_eq_getElem (by omega)) hv hs hm (g2 i _ d (List.getElem?_eq_getElem (by omega)) hd)
 | tup hl _ ih =>
  cases y <;> simp only [wkP] at hw
  ·exact .bot
  ·obtain ⟨g1, g2⟩ := wkL_get hw
   refine .tup (g1 ▸ hl) fun i d v hd hv => ?_
   have hlt := (List.getElem?_eq_some_iff.1 hd).1
   exact ih i _ v (List.getElem?_eq_getElem (by omega)) hv hs hm (g2 i _ d (List.getElem?_eq_getElem (by omega)) hd)
 | sl0 =>
  cases y <;> simp only [wkP] at hw
  ·exact .bot
  ·subst hw; exact .sl0
 | sl f he hRb hcap hl hc hr _ =>
  cases y <;> simp only [wkP] at hw
  ·exact .bot
  ·subst hw
   exact (Rel.sl f he hRb hcap hl hc hr).mono (φ := Ph.no) (fun _ _ => rfl) hR (fun b x hb => by simp [Ph.no] at hb)
 | vp f hRb hc hr _ =>
  cases y <;> simp only [wkP] at hw
  ·exact .bot
  ·subst hw
   exact (Rel.vp f hRb hc hr).mono (φ := Ph.no) (fun _ _ => rfl) hR (fun b x hb => by simp [Ph.no] at hb)
 | ref hb =>
  cases y <;> simp only [wkP] at hw
  ·exact .bot
  ·obtain ⟨h1, rfl, rfl⟩ := hw
   exact .ref (by simp [Ph.via, h1, hb])
 | @arr φ b off len cap h hb hl hc =>
  cases y <;> simp only [wkP] at hw
  ·exact .bot
  ·
   rename_i ys
   unfold lendOK at hw
   cases hq : lk b m with
   | none => simp [hq] at hw
   | some ok =>
    cases ok with
    | none => simp [hq] at hw
    | some k =>
     simp only [hq] at hw
     obtain ⟨h1, h2, h3⟩ := hw
     obtain ⟨g1, g2⟩ := hm b k h hq hb
     obtain ⟨oh, ho, hr⟩ := hs.rel b k g1
     rw [hb] at ho
     cases ho
     obtain ⟨r1, r2, r3, r4, C, r5, r6, r7⟩ := hr
     have hlen : ys.length = len := by rw [h2]; simp; omega
     rw [← hlen]
     rw [← hlen] at hl
     refine .sl (e := h.esz) (fun q => C[off * h.esz + q]?.getD undef) r2 g2 hl (fun i x hx => ?_) (fun q hq' => ?_) (fun i x j c' hx hj => ?_)
     ·rw [h2, List.getElem?_take] at hx
      split at hx
      ·rw [List.getElem?_drop] at hx
       exact (r7 _ x hx).1
      ·cases hx
     ·have hlt : off * h.esz + q < C.size := by
       rw [r6]
       have := Nat.mul_le_mul_right h.esz (show off + ys.length ≤ h.cap by omega)
       rw [Nat.add_mul] at this
       omega
      rw [cell_of_row w _ _ C _ _ r5]
      simp [hlt]
     ·have hmem := List.mem_of_getElem? hx
      have hx' := hx
      rw [h2, List.getElem?_take] at hx'
      split at hx'
      ·rw [List.getElem?_drop] at hx'
       obtain ⟨u, hu, hru⟩ := (r7 _ x hx').2 j c' hj
       have e : off * h.esz + (i * h.esz + j) = (off + i) * h.esz + j := by rw [Nat.add_mul]; omega
       rw [e, hu]
       have hn := h3 x hmem
       refine (hru.noref (φ' := Ph.no) ?_).mono (fun _ _ => rfl) hR (fun _ _ h => h)
       cases x with
       | agg cs => exact norefL_get (cs := cs) (by simpa [noref] using hn) j c' hj
       | _ =>
        simp only [AV.cells] at hj
        cases j with
        | zero => simp at hj; subst hj; exact hn
        | succ j => simp at hj
      ·cases hx'
  ·obtain ⟨h1, rfl, rfl⟩ := hw
   exact .arr (by simp [Ph.via, h1, hb]) hl hc
 | @arr0 φ b hb =>
  cases y <;> simp only [wkP] at hw
  ·exact .bot
  ·unfold lendOK at hw
   cases hq : lk b m with
   | none => simp [hq] at hw
   | some ok =>
    cases ok with
    | none => simp [hq] at hw
    | some k =>
     simp only [hq] at hw
     obtain ⟨h1, h2, h3⟩ := hw
     simp at h2
     subst h2
     exact .sl0
  ·obtain ⟨h1, rfl, rfl⟩ := hw
   exact .arr0 (by simp [Ph.via, h1, hb])
 | clo hf hc _ _ ih1 ih2 =>
  cases y <;> simp only [wkP] at hw
  ·exact .bot
  ·obtain ⟨rfl, w1, w2⟩ := hw
   obtain ⟨g1, g2⟩ := wkL_get w1
   obtain ⟨g3, g4⟩ := wkL_get w2
   refine .clo (g1 ▸ hf) (g3 ▸ hc) (fun i d v hd hv => ?_) (fun i d v hd hv => ?_)
   ·have hlt := (List.getElem?_eq_some_iff.1 hd).1
    exact ih1 i _ v (List.getElem?_eq_getElem (by omega)) hv hs hm (g2 i _ d (List.getElem?_eq_getElem (by omega)) hd)
   ·have hlt := (List.getElem?_eq_some_iff.1 hd).1
    exact ih2 i _ v (List.getElem?_eq_getElem (by omega)) hv hs hm (g4 i _ d (List.getElem?_eq_getElem (by omega)) hd)
 | mpv hd hRb hc he =>
  cases y <;> simp only [wkP] at hw
  ·exact .bot
  ·obtain ⟨h1, rfl, rfl⟩ := hw
   exact .mpv (by simp [Ph.via, h1, hd]) (hR _ hRb) hc he
 | slx _ ih =>
  cases y <;> simp only [wkP] at hw
  ·exact .bot
  ·subst hw
   exact .slx (ih hs hm (by simp [wkP]))
end Go.Ab
