/- The abstract layer, part 23: terms that functions are turned into; loops and joins over them; lists of data. -/
import Derived.Test.YtpoehckffpbfiaaGreatXAAb22
namespace Go.Ab
open Go.RowKit
variable {lim : Nat}
section
variable {α β X Y : Type}
def letB (x : α) (K : α → β) : β := K x
theorem of_let {x : α} {K : α → β} {r : β} (h : letB x K = r) : ∃ v, x = v ∧ K v = r := ⟨x, rfl, h⟩
theorem of_bif_t {c : Bool} {A B r : α} (h : cond c A B = r) (hc : c = true) : A = r := by subst hc; exact h
theorem of_bif_f {c : Bool} {A B r : α} (h : cond c A B = r) (hc : c = false) : B = r := by subst hc; exact h
theorem of_obind {x : Option α} {K : α → Option β} {r : β} (h : x.bind K = some r) : ∃ v, x = some v ∧ K v = some r := Option.bind_eq_some_iff.1 h
theorem of_some {a b : α} (h : some a = some b) : a = b := Option.some.inj h
theorem of_grd {c : Bool} {K : Option α} {r : α} (h : cond c K none = some r) : c = true ∧ K = some r := by
 cases c with
 | false => cases h
 | true => exact ⟨rfl, h⟩
theorem of_inl {γ : Type} {f : α → γ} {K : β → γ} {t : α} {r : γ} (h : Sum.elim f K (Sum.inl t) = r) : f t = r := h
theorem of_inr {γ : Type} {f : α → γ} {K : β → γ} {t : β} {r : γ} (h : Sum.elim f K (Sum.inr t) = r) : K t = r := h
theorem of_mapl' {x : α} {v : α ⊕ β} (h : some (Sum.inl x) = some v) : ∃ t, some x = some t ∧ Sum.inl t = v := ⟨x, rfl, of_some h⟩
theorem of_mapr' {x : β} {v : α ⊕ β} (h : some (Sum.inr x) = some v) : ∃ t, some x = some t ∧ Sum.inr t = v := ⟨x, rfl, of_some h⟩
def iterO (step : X → Option (X ⊕ Y)) : Nat → X → Option Y
 | 0, _ => none
 | n + 1, x => match step x with
  | none => none
  | some (.inl x') => iterO step n x'
  | some (.inr y) => some y
open Classical in
noncomputable def loopO (step : X → Option (X ⊕ Y)) (x : X) : Option Y := if h : ∃ y, ∃ n, iterO step n x = some y then some h.choose else none
theorem iterO_det {step : X → Option (X ⊕ Y)} : ∀ {n m : Nat} {x : X} {y z : Y}, iterO step n x = some y → iterO step m x = some z → y = z
 | 0, _, _, _, _, h, _ => by cases h
 | _ + 1, 0, _, _, _, _, h => by cases h
 | n + 1, m + 1, x, y, z, h, k => by
  simp only [iterO] at h k
  split at h
  ·cases h
  ·rename_i x' hx
   rw [hx] at k
   exact iterO_det h k
  ·rename_i y' hx
   rw [hx] at k
   cases h
   cases k
   rfl
theorem loopO_fuel {step : X → Option (X ⊕ Y)} {x : X} {y : Y} (h : loopO step x = some y) : ∃ n, iterO step n x = some y := by
 unfold loopO at h
 split at h
 ·rename_i he
  cases h
  exact he.choose_spec
 ·cases h
theorem loopO_of {step : X → Option (X ⊕ Y)} {x : X} {y : Y} {n : Nat} (h : iterO step n x = some y) : loopO step x = some y := by
 have he : ∃ y, ∃ n, iterO step n x = some y := ⟨y, n, h⟩
 unfold loopO
 rw [dif_pos he]
 obtain ⟨m, hm⟩ := he.choose_spec
 rw [iterO_det hm h]
theorem loopO_next {step : X → Option (X ⊕ Y)} {x x' : X} (h : step x = some (.inl x')) : loopO step x = loopO step x' := by
 cases hy : loopO step x' with
 | some y =>
  obtain ⟨n, hn⟩ := loopO_fuel hy
  exact loopO_of (n := n + 1) (by simp only [iterO, h]; exact hn)
 | none =>
  cases hz : loopO step x with
  | none => rfl
  | some y =>
   obtain ⟨n, hn⟩ := loopO_fuel hz
   cases n with
   | zero => cases hn
   | succ n =>
    simp only [iterO, h] at hn
    rw [loopO_of hn] at hy
    cases hy
theorem loopO_done {step : X → Option (X ⊕ Y)} {x : X} {y : Y} (h : step x = some (.inr y)) : loopO step x = some y :=
 loopO_of (n := 1) (by simp only [iterO, h])
theorem loopO_inv {step : X → Option (X ⊕ Y)} (I : X → Prop) (μ : X → Nat) (G : Y → Prop) (hs : ∀ x, I x → (∃ x', step x = some (.inl x') ∧ I x' ∧ μ x' < μ x) ∨ ∃ y, step x = some (.inr y) ∧ G y) : ∀ (x : X), I x → ∃ y, loopO step x = some y ∧ G y := by
 intro x
 induction hn : μ x using Nat.strongRecOn generalizing x with
 | ind n ih =>
  intro hx
  rcases hs x hx with ⟨x', h1, h2, h3⟩ | ⟨y, h1, h2⟩
  ·rw [loopO_next h1]
   exact ih (μ x') (hn ▸ h3) x' rfl h2
  ·exact ⟨y, loopO_done h1, h2⟩
def iterX (N : Nat) (step : X → Option (X ⊕ Y)) (x : X) : Option Y := iterO step N x
def OLe (x y : Option α) : Prop := ∀ r, x = some r → y = some r
theorem ole_rfl {x : Option α} : OLe x x := fun _ h => h
theorem ole_bif {c : Bool} {a b a' b' : Option α} (h1 : OLe a a') (h2 : OLe b b') : OLe (cond c a b) (cond c a' b') := by
 cases c
 ·exact h2
 ·exact h1
theorem ole_bind {x x' : Option α} {K K' : α → Option β} (h1 : OLe x x') (h2 : ∀ v, OLe (K v) (K' v)) : OLe (x.bind K) (x'.bind K') := by
 intro r h
 obtain ⟨v, hv, hk⟩ := of_obind h
 rw [h1 v hv]
 exact h2 v r hk
theorem ole_let {x : α} {K K' : α → Option β} (h2 : ∀ v, OLe (K v) (K' v)) : OLe (letB x K) (letB x K') := h2 x
theorem ole_map {x x' : Option α} {f : α → β} (h1 : OLe x x') : OLe (x.map f) (x'.map f) := by
 intro r h
 rw [Option.map_eq_some_iff] at h
 obtain ⟨v, hv, rfl⟩ := h
 rw [h1 v hv]
 rfl
theorem ole_elim {γ : Type} {f f' : α → Option γ} {g g' : β → Option γ} {v : α ⊕ β} (h1 : ∀ v, OLe (f v) (f' v)) (h2 : ∀ v, OLe (g v) (g' v)) : OLe (Sum.elim f g v) (Sum.elim f' g' v) := by
 cases v with
 | inl v => exact h1 v
 | inr v => exact h2 v
theorem ole_loop {N : Nat} {step step' : X → Option (X ⊕ Y)} {x : X} (h : ∀ x, OLe (step x) (step' x)) : OLe (iterX N step x) (loopO step' x) := by
 intro r hr
 have : iterO step' N x = some r := by
  unfold iterX at hr
  induction N generalizing x with
  | zero => cases hr
  | succ n ih =>
   simp only [iterO] at hr ⊢
   cases hs : step x with
   | none => rw [hs] at hr; cases hr
   | some z =>
    rw [hs] at hr
    rw [h x z hs]
    cases z with
    | inl x' => exact ih hr
    | inr y => exact hr
 exact loopO_of this
open Classical in
def bEq (a b : ByteArray) : Bool := a.data.toList == b.data.toList
theorem bEq_eq (a b : ByteArray) : (a.toList == b.toList) = bEq a b := by
 unfold bEq
 rw [ByteArray.toList_eq, ByteArray.toList_eq]
def stepOK (y : Y) (R : X → Prop) : X ⊕ Y → Prop
 | .inl x' => R x'
 | .inr y' => y' = y
def getI (l : List α) : Int → Option α
 | .ofNat n => l[n]?
 | .negSucc _ => none
@[simp] theorem getI_nat (l : List α) (n : Nat) : getI l (n : Int) = l[n]? := rfl
theorem getI_spec {l : List α} {i : Int} {e : α} (h : getI l i = some e) : 0 ≤ i ∧ l[i.toNat]? = some e := by
 cases i with
 | ofNat n => exact ⟨Int.natCast_nonneg _, h⟩
 | negSucc n => cases h
theorem getI_lt {l : List α} {n : Nat} (h : n < l.length) : getI l (n : Int) = some l[n] := by simp [h]
def setI (l : List α) (i : Int) (e : α) : List α := l.set i.toNat e
def appO (bytes : Nat) (xs ys : List α) : Option (List α) := bif Nat.ble ((xs.length + ys.length) * bytes) 140737488355328 && Nat.ble (xs.length + ys.length) 9223372036854775807 then some (xs ++ ys) else none
theorem appO_spec {bytes : Nat} {xs ys zs : List α} (h : appO bytes xs ys = some zs) : zs = xs ++ ys ∧ (xs.length + ys.length) * bytes ≤ 140737488355328 ∧ xs.length + ys.length ≤ 9223372036854775807 := by
 unfold appO at h
 cases hc : (Nat.ble ((xs.length + ys.length) * bytes) 140737488355328 && Nat.ble (xs.length + ys.length) 9223372036854775807) with
 | false => rw [hc] at h; cases h
 | true =>
  rw [hc] at h
  cases h
  simp only [Bool.and_eq_true] at hc
  exact ⟨rfl, Nat.le_of_ble_eq_true hc.1, Nat.le_of_ble_eq_true hc.2⟩
theorem appO_eq {bytes : Nat} {xs ys : List α} (h1 : (xs.length + ys.length) * bytes ≤ 140737488355328) (h2 : xs.length + ys.length ≤ 9223372036854775807) : appO bytes xs ys = some (xs ++ ys) := by
 unfold appO
 rw [Nat.ble_eq_true_of_le h1, Nat.ble_eq_true_of_le h2]
 rfl
def mkO (bytes : Nat) (z : α) (n : Int) : Option (List α) := bif decide (0 ≤ n) && (decide (n ≤ 9223372036854775807) && decide (n * bytes ≤ 281474976710656)) then some (List.replicate n.toNat z) else none
theorem mkO_spec {bytes : Nat} {z : α} {n : Int} {zs : List α} (h : mkO bytes z n = some zs) : zs = List.replicate n.toNat z ∧ 0 ≤ n ∧ n ≤ 9223372036854775807 ∧ n * bytes ≤ 281474976710656 := by
 unfold mkO at h
 cases hc : (decide (0 ≤ n) && (decide (n ≤ 9223372036854775807) && decide (n * bytes ≤ 281474976710656))) with
 | false => rw [hc] at h; cases h
 | true =>
  rw [hc] at h
  cases h
  simp only [Bool.and_eq_true, decide_eq_true_eq] at hc
  exact ⟨rfl, hc.1, hc.2.1, hc.2.2⟩
def catO (a b : ByteArray) : Option ByteArray := bif Nat.ble (a.size + b.size) 9223372036854775807 then some (a ++ b) else none
theorem catO_spec {a b c : ByteArray} (h : catO a b = some c) : c = a ++ b ∧ a.size + b.size ≤ 9223372036854775807 := by
 unfold catO at h
 cases hc : Nat.ble (a.size + b.size) 9223372036854775807 with
 | false => rw [hc] at h; cases h
 | true => rw [hc] at h; cases h; exact ⟨rfl, Nat.le_of_ble_eq_true hc⟩
def bytO (s : ByteArray) : Int → Option Int
 | .ofNat n => bif Nat.blt n s.size then some (byteAt s n) else none
 | .negSucc _ => none
theorem bytO_spec {s : ByteArray} {i v : Int} (h : bytO s i = some v) : ∃ n : Nat, i = n ∧ n < s.size ∧ v = byteAt s n := by
 cases i with
 | ofNat n =>
  refine ⟨n, rfl, ?_⟩
  have h : (bif Nat.blt n s.size then some (byteAt s n) else none) = some v := h
  cases hc : Nat.blt n s.size with
  | false => rw [hc] at h; cases h
  | true => rw [hc] at h; cases h; exact ⟨by simpa [Nat.blt_eq] using hc, rfl⟩
 | negSucc n => cases h
theorem bytO_eq {s : ByteArray} {n : Nat} (h : n < s.size) : bytO s (n : Int) = some (byteAt s n) := by
 show cond _ _ _ = _
 rw [show Nat.blt n s.size = true by simpa [Nat.blt_eq] using h]
 rfl
end
theorem nr_map {α : Type} {enc : α → AV} (h : ∀ x, noref (enc x) = true) (xs : List α) : ∀ y ∈ xs.map enc, noref y = true := by
 intro y hy
 obtain ⟨x, _, rfl⟩ := List.mem_map.1 hy
 exact h x
theorem nr_one {v : AV} (h : noref v = true) : ∀ y ∈ [v], noref y = true := by
 intro y hy
 rw [List.mem_singleton] at hy
 subst hy
 exact h
theorem lend_map {α : Type} {m : Mem} {b e z len : Nat} {enc : α → AV} {xs : List α} (hb : lk b m = some (some ⟨e, z, xs.map enc⟩)) (hlen : len = xs.length) (h : ∀ x, noref (enc x) = true) : lendOK m b 0 len (xs.map enc) := by
 subst hlen
 unfold lendOK
 rw [hb]
 refine ⟨by simp, ?_, nr_map h xs⟩
 have e : xs.length = (xs.map enc).length := by simp
 rw [List.drop_zero, e, List.take_length]
theorem wkP_lend {α : Type} {m : Mem} {ρ : Rho} {b e z len : Nat} {enc : α → AV} {xs : List α} (hb : lk b m = some (some ⟨e, z, xs.map enc⟩)) (hlen : len = xs.length) (h : ∀ x, noref (enc x) = true) : wkP m ρ (.arr b 0 len) (.sl (xs.map enc)) := by
 rw [wkP]
 exact lend_map hb hlen h
theorem wkP_nilm {α : Type} {m : Mem} {ρ : Rho} {enc : α → AV} : wkP m ρ .nilS (.sl (([] : List α).map enc)) := by
 rw [wkP]
 rfl
theorem take_map_len {α : Type} {enc : α → AV} (xs : List α) : xs.map enc = ((xs.map enc).drop 0).take xs.length := by
 have e : xs.length = (xs.map enc).length := by simp
 rw [List.drop_zero, e, List.take_length]
theorem take_map_len' {α : Type} {enc : α → AV} (xs : List α) : (xs.map enc).take xs.length = xs.map enc := by
 have := take_map_len (enc := enc) xs
 rw [List.drop_zero] at this
 exact this.symm
theorem wkX_map {α : Type} {ρ : Rho} {enc : α → AV} (xs : List α) (h : ∀ x, noref (enc x) = true) : wkX ρ (xs.map enc) (xs.map enc) := .inl ⟨rfl, nr_map h xs⟩
section
variable {P : Program} {tt : TT} {Q : Exit → St → Prop} {n : Nat} {t : List (Nat × AV)} {m : Mem}
theorem awp_weakF {body : Code} {K KB : List Nat} {mt : List (Nat × AV)} {mm : Mem} {kt : List (Nat × AV)} {km : Mem} {ρ : Rho} {s' : St} (hn : s'.n = n) (hf : Fits K KB kt km ρ s' mt mm) (h : AWP P lim body Q ⟨n, mt ++ kt, mm ++ km⟩) : AWP P lim body Q s' := by
 obtain ⟨n', t', m'⟩ := s'
 subst hn
 refine awp_weaken (h := ⟨n', mt ++ kt, mm ++ km⟩) ⟨ρ, rfl, hf.rho, ?_, ?_⟩ h
 ·exact wkT_append hf.t (keepF_wk hf.k hf.idt)
 ·exact wkM_append hf.m (keepM_wk hf.kb hf.idm)
theorem awp_seqJ {X : Type} {x y : Code} (K KB : List Nat) (mt : X → List (Nat × AV)) (mm : X → Mem) (G : X → Prop) {kt : List (Nat × AV)} {km : Mem} (hk : keepF t K = some kt) (hb : keepM m KB = some km)
  (hx : AWP P lim x (thenQ (fun s' => s'.n = n ∧ ∃ v ρ, Fits K KB kt km ρ s' (mt v) (mm v) ∧ G v) Q) ⟨n, t, m⟩) (hy : ∀ v, G v → AWP P lim y Q ⟨n, mt v ++ kt, mm v ++ km⟩) : AWP P lim (.seq x y) Q ⟨n, t, m⟩ := by
 have _ := hk
 have _ := hb
 refine awp_seq ?_
 intro c hc0 a w hs
 have := hx c hc0 a w hs
 refine Code.wp_mono ?_ this
 rintro e a' w' ⟨s', hs', hq⟩
 cases e with
 | normal =>
  obtain ⟨hn, v, ρ, hf, hg⟩ := hq
  exact ⟨s', hs', awp_weakF hn hf (hy v hg)⟩
 | _ => exact ⟨s', hs', hq⟩
theorem awp_loopD {X Y : Type} {body : Code} (K KB : List Nat) (mt : X → List (Nat × AV)) (mm : X → Mem) (step : X → Option (X ⊕ Y)) (x0 : X) (ρ0 : Rho) {kt : List (Nat × AV)} {km : Mem} {y : Y} (hy : loopO step x0 = some y)
  (h0 : Fits K KB kt km ρ0 ⟨n, t, m⟩ (mt x0) (mm x0))
  (hb : ∀ (x : X) (R : X → Prop) (z : X ⊕ Y), step x = some z → stepOK y R z → AWP P lim body (thenQ (fun s' => s'.n = n ∧ ∃ x' ρ, Fits K KB kt km ρ s' (mt x') (mm x') ∧ R x') Q) ⟨n, mt x ++ kt, mm x ++ km⟩) : AWP P lim (.loop body) Q ⟨n, t, m⟩ := by
 obtain ⟨N, hN⟩ := loopO_fuel hy
 refine awp_loopK (X := {p : Nat × X // iterO step p.1 p.2 = some y}) K KB (fun p => mt p.1.2) (fun p => mm p.1.2) (fun p => p.1.1) ⟨(N, x0), hN⟩ ρ0 h0 ?_
 rintro ⟨⟨k, x⟩, hp⟩
 cases k with
 | zero => cases hp
 | succ k =>
  have : ∃ z, step x = some z ∧ stepOK y (fun x' => iterO step k x' = some y) z := by
   simp only [iterO] at hp
   cases hs : step x with
   | none => rw [hs] at hp; cases hp
   | some z =>
    rw [hs] at hp
    cases z with
    | inl x' => exact ⟨_, rfl, hp⟩
    | inr y' => cases hp; exact ⟨_, rfl, rfl⟩
  obtain ⟨z, hz, hc⟩ := this
  have := hb x (fun x' => iterO step k x' = some y) z hz hc
  intro c hc0 a w hs
  refine Code.wp_mono ?_ (this c hc0 a w hs)
  rintro e a' w' ⟨s', hs', hq⟩
  refine ⟨s', hs', ?_⟩
  cases e with
  | normal =>
   obtain ⟨hn, x', ρ, hf, hr⟩ := hq
   exact ⟨hn, ⟨(k, x'), hr⟩, ρ, hf, Nat.lt_succ_self _⟩
  | _ => exact hq
variable {ops : Array Oper} {draw : Bool} {Q : St → Prop} {acc : List (Option Eff)} {l : List Oper}
theorem go_indexT {α : Type} {o : Oper} {ty el : Nat} {t' : List (Nat × AV)} {x y : Operand} {D E : TyD} {k : IntKind} (enc : α → AV) (xs : List α) (i : Int) (e : α) (he : getI xs i = some e) (ht : TTok P tt) (hg : gchk ops ⟨n, t, m⟩ o = some true) (ho : o.op = .indexAddr ty x y) (hD : lk ty tt = some D) (hk : D.k = .slice el) (hE : lk el tt = some E)
  (hx : (⟨n, t, m⟩ : St).ev x = .sl (xs.map enc)) (hy : (⟨n, t, m⟩ : St).ev y = .sc (.int k i)) (hl : Nat.beq (enc e).cells.length E.size = true) (hp : putF n t o.dst (.vp (enc e).cells) = some t')
  (h : Go P ops draw Q l ⟨n, t', m⟩ (some ⟨.vp (enc e).cells, [], [], []⟩ :: acc)) : Go P ops draw Q (o :: l) ⟨n, t, m⟩ acc := by
 obtain ⟨h0, h1⟩ := getI_spec he
 exact go_index ht h0 (ev := enc e) (by rw [List.getElem?_map, h1]; rfl) hg ho hD hk hE hx hy hl hp h
theorem go_indexAT {α : Type} {o : Oper} {ty el b bt bz len : Nat} {t' : List (Nat × AV)} {x y : Operand} {D E : TyD} {k : IntKind} (enc : α → AV) (xs : List α) (i : Int) (e : α) (he : getI xs i = some e) (hlen : len = xs.length) (ht : TTok P tt) (hg : gchk ops ⟨n, t, m⟩ o = some true) (ho : o.op = .indexAddr ty x y) (hD : lk ty tt = some D) (hk : D.k = .slice el) (hE : lk el tt = some E)
  (hx : (⟨n, t, m⟩ : St).ev x = .arr b 0 len) (hy : (⟨n, t, m⟩ : St).ev y = .sc (.int k i)) (hb : lk b m = some (some ⟨bt, bz, xs.map enc⟩)) (hz : Nat.beq bz E.size = true) (hp : putF n t o.dst (.ref b i.toNat 0) = some t')
  (h : Go P ops draw Q l ⟨n, t', m⟩ (some ⟨.ref b i.toNat 0, [], [b], []⟩ :: acc)) : Go P ops draw Q (o :: l) ⟨n, t, m⟩ acc := by
 obtain ⟨h0, h1⟩ := getI_spec he
 have hi : i.toNat < xs.length := (List.getElem?_eq_some_iff.1 h1).1
 exact go_indexA (i := i.toNat) ht (by omega) hg ho hD hk hE hx (by rw [hy, Int.toNat_of_nonneg h0]) hb hz hp h
theorem go_storeT {α : Type} {o : Oper} {T b bt bz off : Nat} {t' : List (Nat × AV)} {m' : Mem} {x y : Operand} {D : TyD} {v : AV} (enc : α → AV) (xs : List α) (i : Int) (e e' : α) (he : getI xs i = some e) (ht : TTok P tt) (hg : gchk ops ⟨n, t, m⟩ o = some true) (ho : o.op = .store T x y) (hD : lk T tt = some D)
  (hx : (⟨n, t, m⟩ : St).ev x = .ref b i.toNat off) (hb : lk b m = some (some ⟨bt, bz, xs.map enc⟩)) (hy : force ((⟨n, t, m⟩ : St).ev y) = some v) (hv : v.cells.all AV.cellish = true) (hv2 : (match v with | .bot => false | _ => true) = true) (hl : Nat.beq v.cells.length D.size = true) (hu : upd (enc e) off v.cells = some (enc e'))
  (hp : putF n t o.dst (.tup []) = some t') (hm : appF [(b, some ⟨bt, bz, (setI xs i e').map enc⟩)] m = some m')
  (h : Go P ops draw Q l ⟨n, t', m'⟩ (some ⟨.tup [], [(b, some ⟨bt, bz, (setI xs i e').map enc⟩)], [b], []⟩ :: acc)) : Go P ops draw Q (o :: l) ⟨n, t, m⟩ acc := by
 obtain ⟨h0, h1⟩ := getI_spec he
 have hA : AStep P o ⟨n, t, m⟩ ⟨.tup [], [(b, some ⟨bt, bz, (setI xs i e').map enc⟩)], [b], []⟩ := by
  have := as_store (P := P) (o := o) (s := ⟨n, t, m⟩) (e := enc e) ho (ht _ _ hD) hx hb (force_eq hy) (by intro h; subst h; simp at hv2) hl hv (by show (xs.map enc)[i.toNat]? = _; rw [List.getElem?_map, h1]; rfl) hu
  simpa [setI, List.map_set] using this
 exact go_step hg hA rfl hp hm h
theorem go_appT {α : Type} {o : Oper} {ty e d b b2 e' z' e2 z2 len len2 : Nat} {t' : List (Nat × AV)} {m' : Mem} {x y : Operand} {D E : TyD} (enc : α → AV) (xs ys zs : List α) (hz0 : appO E.bytes xs ys = some zs) (hcell : ∀ x, (enc x).cells.all AV.cellish = true) (hl1 : len = xs.length) (hl2 : len2 = ys.length) (ht : TTok P tt)
  (hg : gchk ops ⟨n, t, m⟩ o = some true) (ho : o.op = bcall .append #[x, y] #[ty, ty]) (hD : lk ty tt = some D) (hk : D.k = .slice e) (hE : lk e tt = some E) (hz : Nat.blt 0 E.size = true)
  (hx : (⟨n, t, m⟩ : St).ev x = .arr b 0 len) (hb : lk b m = some (some ⟨e', z', xs.map enc⟩)) (hty : Nat.beq e' e = true) (hez : Nat.beq z' E.size = true)
  (hy : (⟨n, t, m⟩ : St).ev y = .arr b2 0 len2) (hb2 : lk b2 m = some (some ⟨e2, z2, ys.map enc⟩)) (hz2 : Nat.beq z2 E.size = true)
  (hd : o.dst = some d) (hn : nwOK ⟨n, t, m⟩ [d] = true) (hp : putF n t (some d) (.arr d 0 zs.length) = some t') (hm : appF [(d, some ⟨e, E.size, zs.map enc⟩), (b, none)] m = some m')
  (h : Go P ops draw Q l ⟨n, t', m'⟩ (some ⟨.arr d 0 zs.length, [(d, some ⟨e, E.size, zs.map enc⟩), (b, none)], [b, b2], [d]⟩ :: acc)) : Go P ops draw Q (o :: l) ⟨n, t, m⟩ acc := by
 subst hl1 hl2
 obtain ⟨rfl, h1, h2⟩ := appO_spec hz0
 have hA : AStep P o ⟨n, t, m⟩ ⟨.arr d 0 (xs ++ ys).length, [(d, some ⟨e, E.size, (xs ++ ys).map enc⟩), (b, none)], [b, b2], [d]⟩ := by
  have := as_append (P := P) (o := o) (s := ⟨n, t, m⟩) (d := d) (ys := ys.map enc) (acc := [b2]) ho (ht _ _ hD) hk (ht _ _ hE) hz hx hb hty hez (by simp)
   (.inr (.inr ⟨b2, 0, ys.length, _, hy, hb2, Nat.eq_of_beq_eq_true hz2, by simp, take_map_len ys, by simp⟩)) (by simpa using fun x _ c hc => (List.all_eq_true.1 (hcell x)) c hc) (by simpa using h1) (by simpa using h2)
  simpa [take_map_len'] using this
 exact go_step hg hA hn (by rw [hd]; exact hp) hm h
theorem go_appTS {α : Type} {o : Oper} {ty e d b e' z' len : Nat} {t' : List (Nat × AV)} {m' : Mem} {x y : Operand} {D E : TyD} (enc : α → AV) (xs ys zs : List α) (hz0 : appO E.bytes xs ys = some zs) (hcell : ∀ x, (enc x).cells.all AV.cellish = true) (hcl : ∀ x, (enc x).cells.length = E.size) (hl1 : len = xs.length) (ht : TTok P tt)
  (hg : gchk ops ⟨n, t, m⟩ o = some true) (ho : o.op = bcall .append #[x, y] #[ty, ty]) (hD : lk ty tt = some D) (hk : D.k = .slice e) (hE : lk e tt = some E) (hz : Nat.blt 0 E.size = true)
  (hx : (⟨n, t, m⟩ : St).ev x = .arr b 0 len) (hb : lk b m = some (some ⟨e', z', xs.map enc⟩)) (hty : Nat.beq e' e = true) (hez : Nat.beq z' E.size = true)
  (hy : (⟨n, t, m⟩ : St).ev y = .sl (ys.map enc))
  (hd : o.dst = some d) (hn : nwOK ⟨n, t, m⟩ [d] = true) (hp : putF n t (some d) (.arr d 0 zs.length) = some t') (hm : appF [(d, some ⟨e, E.size, zs.map enc⟩), (b, none)] m = some m')
  (h : Go P ops draw Q l ⟨n, t', m'⟩ (some ⟨.arr d 0 zs.length, [(d, some ⟨e, E.size, zs.map enc⟩), (b, none)], [b], [d]⟩ :: acc)) : Go P ops draw Q (o :: l) ⟨n, t, m⟩ acc := by
 subst hl1
 obtain ⟨rfl, h1, h2⟩ := appO_spec hz0
 have hA : AStep P o ⟨n, t, m⟩ ⟨.arr d 0 (xs ++ ys).length, [(d, some ⟨e, E.size, (xs ++ ys).map enc⟩), (b, none)], [b], [d]⟩ := by
  have := as_append (P := P) (o := o) (s := ⟨n, t, m⟩) (d := d) (ys := ys.map enc) (acc := []) ho (ht _ _ hD) hk (ht _ _ hE) hz hx hb hty hez (by simp)
   (.inl ⟨hy, by simpa using fun x _ => hcl x⟩) (by simpa using fun x _ c hc => (List.all_eq_true.1 (hcell x)) c hc) (by simpa using h1) (by simpa using h2)
  simpa [take_map_len'] using this
 exact go_step hg hA hn (by rw [hd]; exact hp) hm h
theorem go_makeT {α : Type} {o : Oper} {ty e d : Nat} {t' : List (Nat × AV)} {m' : Mem} {x y : Operand} {D E : TyD} {k : IntKind} (enc : α → AV) (z : α) (i : Int) (zs : List α) (hz0 : mkO E.bytes z i = some zs) (ht : TTok P tt) (hg : gchk ops ⟨n, t, m⟩ o = some true) (ho : o.op = .makeSlice ty x y) (hD : lk ty tt = some D) (hk : D.k = .slice e) (hE : lk e tt = some E)
  (hx : (⟨n, t, m⟩ : St).ev x = .sc (.int k i)) (hy : (⟨n, t, m⟩ : St).ev y = .sc (.int k i)) (hz : Nat.blt 0 E.size = true) (hzz : E.zero = enc z) (hd : o.dst = some d) (hn : nwOK ⟨n, t, m⟩ [d] = true)
  (hp : putF n t (some d) (.arr d 0 zs.length) = some t') (hm : appF [(d, some ⟨e, E.size, zs.map enc⟩)] m = some m')
  (h : Go P ops draw Q l ⟨n, t', m'⟩ (some ⟨.arr d 0 zs.length, [(d, some ⟨e, E.size, zs.map enc⟩)], [], [d]⟩ :: acc)) : Go P ops draw Q (o :: l) ⟨n, t, m⟩ acc := by
 obtain ⟨rfl, h0, h1, h2⟩ := mkO_spec hz0
 have hA : AStep P o ⟨n, t, m⟩ ⟨.arr d 0 (List.replicate i.toNat z).length, [(d, some ⟨e, E.size, (List.replicate i.toNat z).map enc⟩)], [], [d]⟩ := by
  have := as_makeSlice (P := P) (o := o) (s := ⟨n, t, m⟩) (d := d) ho (ht _ _ hD) hk (ht _ _ hE) hx hy hz h0 h1 h2
  simpa [hzz] using this
 exact go_step hg hA hn (by rw [hd]; exact hp) hm h
theorem go_indexB {o : Oper} {ty : Nat} {t' : List (Nat × AV)} {x y : Operand} {D : TyD} {kd : IntKind} (s : ByteArray) (i v : Int) (hv : bytO s i = some v) (ht : TTok P tt) (hg : gchk ops ⟨n, t, m⟩ o = some true) (ho : o.op = .index ty x y) (hD : lk ty tt = some D) (hk : D.k = .str)
  (hx : (⟨n, t, m⟩ : St).ev x = .sc (.string s)) (hy : (⟨n, t, m⟩ : St).ev y = .sc (.int kd i)) (hp : putF n t o.dst (.sc (.int .u8 v)) = some t')
  (h : Go P ops draw Q l ⟨n, t', m⟩ (some ⟨.sc (.int .u8 v), [], [], []⟩ :: acc)) : Go P ops draw Q (o :: l) ⟨n, t, m⟩ acc := by
 obtain ⟨j, rfl, h1, rfl⟩ := bytO_spec hv
 exact go_indexS ht h1 hg ho hD hk hx hy hp h
theorem go_indexVT {α : Type} {o : Oper} {ty k e : Nat} {t' : List (Nat × AV)} {x y : Operand} {D E : TyD} {kd : IntKind} {cs : List AV} (enc : α → AV) (xs : List α) (i : Int) (el : α) (he : getI xs i = some el) (hxs : xs.length = k) (hrd : ∀ j : Nat, ∀ el : α, xs[j]? = some el → rd E cs (j * E.size) = some (enc el)) (ht : TTok P tt) (hg : gchk ops ⟨n, t, m⟩ o = some true) (ho : o.op = .index ty x y) (hD : lk ty tt = some D) (hk : D.k = .array k e) (hE : lk e tt = some E)
  (hx : (⟨n, t, m⟩ : St).ev x = .agg cs) (hy : (⟨n, t, m⟩ : St).ev y = .sc (.int kd i)) (hp : putF n t o.dst (enc el) = some t')
  (h : Go P ops draw Q l ⟨n, t', m⟩ (some ⟨enc el, [], [], []⟩ :: acc)) : Go P ops draw Q (o :: l) ⟨n, t, m⟩ acc := by
 obtain ⟨h0, h1⟩ := getI_spec he
 have hi : i.toNat < xs.length := (List.getElem?_eq_some_iff.1 h1).1
 exact go_indexV (i := i.toNat) ht (by omega) (hrd _ _ h1) hg ho hD hk hE hx (by rw [hy, Int.toNat_of_nonneg h0]) hp h
theorem go_catT {o : Oper} {ty ty2 : Nat} {t' : List (Nat × AV)} {x y : Operand} (a b c : ByteArray) (hc : catO a b = some c) (hg : gchk ops ⟨n, t, m⟩ o = some true) (ho : o.op = .binOp .add ty x y ty2)
  (hx : (⟨n, t, m⟩ : St).ev x = .sc (.string a)) (hy : (⟨n, t, m⟩ : St).ev y = .sc (.string b)) (hp : putF n t o.dst (.sc (.string c)) = some t')
  (h : Go P ops draw Q l ⟨n, t', m⟩ (some ⟨.sc (.string c), [], [], []⟩ :: acc)) : Go P ops draw Q (o :: l) ⟨n, t, m⟩ acc := by
 obtain ⟨rfl, h1⟩ := catO_spec hc
 exact go_step hg (as_concat ho hx hy h1) rfl hp rfl h
theorem go_lenT {α : Type} {o : Oper} {ty e : Nat} {t' : List (Nat × AV)} {x : Operand} {D : TyD} (enc : α → AV) (xs : List α) (ht : TTok P tt) (hg : gchk ops ⟨n, t, m⟩ o = some true) (ho : o.op = bcall .len #[x] #[ty]) (hD : lk ty tt = some D) (hk : D.k = .slice e)
  (hx : (⟨n, t, m⟩ : St).ev x = .sl (xs.map enc)) (hp : putF n t o.dst (.sc (.int .i64 ((xs.length : Nat) : Int))) = some t')
  (h : Go P ops draw Q l ⟨n, t', m⟩ (some ⟨.sc (.int .i64 ((xs.length : Nat) : Int)), [], [], []⟩ :: acc)) : Go P ops draw Q (o :: l) ⟨n, t, m⟩ acc := by
 have hA : AStep P o ⟨n, t, m⟩ ⟨.sc (.int .i64 ((xs.length : Nat) : Int)), [], [], []⟩ := by
  refine abuiltin_sound (tt := tt) (l := [.sl (xs.map enc)]) ht ho (by simp [hx]) ?_
  simp [abuiltin, hD, hk, lenAV, val]
 exact go_step hg hA rfl hp rfl h
theorem go_eqlS {o : Oper} {ty ty2 : Nat} {t' : List (Nat × AV)} {x y : Operand} (a b : ByteArray) (hg : gchk ops ⟨n, t, m⟩ o = some true) (ho : o.op = .binOp .eql ty x y ty2)
  (hx : (⟨n, t, m⟩ : St).ev x = .sc (.string a)) (hy : (⟨n, t, m⟩ : St).ev y = .sc (.string b)) (hp : putF n t o.dst (.sc (.bool (bEq a b))) = some t')
  (h : Go P ops draw Q l ⟨n, t', m⟩ (some ⟨.sc (.bool (bEq a b)), [], [], []⟩ :: acc)) : Go P ops draw Q (o :: l) ⟨n, t, m⟩ acc :=
 go_step hg (as_str ho hx hy (by simp only [strBin, bEq_eq])) rfl hp rfl h
theorem go_shlT {o : Oper} {ty ty2 : Nat} {t' : List (Nat × AV)} {x y : Operand} {k k' : IntKind} (a b : Int) (hb : decide (0 ≤ b) = true) (hg : gchk ops ⟨n, t, m⟩ o = some true) (ho : o.op = .binOp .shl ty x y ty2)
  (hx : (⟨n, t, m⟩ : St).ev x = .sc (.int k a)) (hy : (⟨n, t, m⟩ : St).ev y = .sc (.int k' b)) (hp : putF n t o.dst (.sc (.int k (k.wrap (a * 2 ^ (min b.toNat k.bits))))) = some t')
  (h : Go P ops draw Q l ⟨n, t', m⟩ (some ⟨.sc (.int k (k.wrap (a * 2 ^ (min b.toNat k.bits)))), [], [], []⟩ :: acc)) : Go P ops draw Q (o :: l) ⟨n, t, m⟩ acc :=
 go_step hg (as_shl ho hx hy (by simpa using hb)) rfl hp rfl h
theorem go_quoT {o : Oper} {ty ty2 : Nat} {t' : List (Nat × AV)} {x y : Operand} {k : IntKind} (a b : Int) (hb : (b != 0) = true) (hg : gchk ops ⟨n, t, m⟩ o = some true) (ho : o.op = .binOp .quo ty x y ty2)
  (hx : (⟨n, t, m⟩ : St).ev x = .sc (.int k a)) (hy : (⟨n, t, m⟩ : St).ev y = .sc (.int k b)) (hp : putF n t o.dst (.sc (.int k (k.wrap (a.tdiv b)))) = some t')
  (h : Go P ops draw Q l ⟨n, t', m⟩ (some ⟨.sc (.int k (k.wrap (a.tdiv b))), [], [], []⟩ :: acc)) : Go P ops draw Q (o :: l) ⟨n, t, m⟩ acc :=
 go_step hg (as_quo ho hx hy (by simpa using hb)) rfl hp rfl h
end
end Go.Ab
