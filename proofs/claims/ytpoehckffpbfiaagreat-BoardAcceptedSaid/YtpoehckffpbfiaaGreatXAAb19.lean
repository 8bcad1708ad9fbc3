/- The abstract layer, part 19: '==' and '!=' of structs. -/
import Derived.Test.YtpoehckffpbfiaaGreatXAAb18
import Derived.Laws.StructEq
import Derived.ChangeKeysEq
namespace Go.Ab
open Go.RowKit
mutual
def TyV : Sh → List Value → Prop
 | .int k, cs => ∃ n, cs = [.int k n]
 | .bool, cs => ∃ b, cs = [.bool b]
 | .str, cs => ∃ s, cs = [.string s]
 | .slice _, _ => False
 | .struct fs, cs => TyVs fs cs
def TyVs : List Sh → List Value → Prop
 | [], cs => cs = []
 | f :: fs, cs => ∃ a b, cs = a ++ b ∧ TyV f a ∧ TyVs fs b
end
def veq : Value → Value → Bool
 | .int _ a, .int _ b => a == b
 | .bool a, .bool b => a == b
 | .string a, .string b => a.toList == b.toList
 | _, _ => false
def veqL : List Value → List Value → Bool
 | [], [] => true
 | a :: l, b :: m => veq a b && veqL l m
 | _, _ => false
theorem veqL_append : ∀ {a b c d : List Value}, a.length = b.length → veqL (a ++ c) (b ++ d) = (veqL a b && veqL c d)
 | [], [], _, _, _ => by simp [veqL]
 | x :: a, y :: b, c, d, h => by simp [veqL, veqL_append (a := a) (b := b) (c := c) (d := d) (by simpa using h), Bool.and_assoc]
 | [], _ :: _, _, _, h => by simp at h
 | _ :: _, [], _, _, h => by simp at h
mutual
def eqB (P : Program) : Sh → TypeId → Bool
 | .struct fs, t => match P.underlying t with
  | some (.struct gs) => !P.stoodInHeld t && (eqAllB P fs gs.toList 0 && decide (P.cellsOf t = Sh.sizes fs))
  | _ => false
 | .slice _, _ => false
 | .int k, t => match P.underlying t with
  | some (.int k') => decide (k' = k)
  | _ => false
 | .bool, t => match P.underlying t with
  | some .bool => true
  | _ => false
 | .str, t => match P.underlying t with
  | some .string => true
  | _ => false
def eqAllB (P : Program) : List Sh → List Field → Nat → Bool
 | [], [], _ => true
 | f :: fs, g :: gs, o => decide (g.name ≠ "_") && (decide (g.offset = o) && (eqB P f g.type && (decide (P.cellsOf g.type = f.size) && eqAllB P fs gs (o + f.size))))
 | _, _, _ => false
end
mutual
def Sh.depth : Sh → Nat
 | .struct fs => Sh.depths fs + 1
 | _ => 1
def Sh.depths : List Sh → Nat
 | [] => 0
 | f :: fs => max f.depth (Sh.depths fs)
end
mutual
theorem TyV.length : ∀ (s : Sh) (cs : List Value), TyV s cs → cs.length = s.size
 | .int _, _, h => by obtain ⟨n, rfl⟩ := h; rfl
 | .bool, _, h => by obtain ⟨b, rfl⟩ := h; rfl
 | .str, _, h => by obtain ⟨b, rfl⟩ := h; rfl
 | .slice _, _, h => by cases h
 | .struct fs, cs, h => by rw [TyV] at h; rw [Sh.size]; exact TyVs.length fs cs h
theorem TyVs.length : ∀ (fs : List Sh) (cs : List Value), TyVs fs cs → cs.length = Sh.sizes fs
 | [], cs, h => by rw [TyVs] at h; subst h; rfl
 | f :: fs, cs, h => by
  rw [TyVs] at h
  obtain ⟨a, b, rfl, h1, h2⟩ := h
  rw [List.length_append, TyV.length f a h1, TyVs.length fs b h2, Sh.sizes]
end
def Sh.packV : Sh → List Value → Value
 | .struct _, cs => .agg cs.toArray
 | _, c :: _ => c
 | _, [] => .agg #[]
section
variable {P : Program} {w : World}
theorem part_run {f : Sh} {t o : Nat} {xs : Array Value} {a b : List Value} (he : eqB P f t = true) (hs : P.cellsOf t = f.size) (hd : xs.toList.drop o = a ++ b) (hT : TyV f a) : (part t xs o).run P w = .ok (f.packV a) w := by
 have hl := TyV.length f a hT
 have h0 : ∀ c, a = [c] → xs[o]? = some c := by
  intro c hc
  have : (xs.toList.drop o)[0]? = some c := by rw [hd, hc]; rfl
  simpa using this
 cases f with
 | slice _ => cases hT
 | int k =>
  rw [eqB] at he
  split at he
  ·rename_i ht
   obtain ⟨n, rfl⟩ := hT
   simp [part, isAgg, run_underlying ht, h0 _ rfl, Sh.packV]
  ·cases he
 | bool =>
  rw [eqB] at he
  split at he
  ·rename_i ht
   obtain ⟨n, rfl⟩ := hT
   simp [part, isAgg, run_underlying ht, h0 _ rfl, Sh.packV]
  ·cases he
 | str =>
  rw [eqB] at he
  split at he
  ·rename_i ht
   obtain ⟨n, rfl⟩ := hT
   simp [part, isAgg, run_underlying ht, h0 _ rfl, Sh.packV]
  ·cases he
 | struct fs =>
  rw [eqB] at he
  split at he
  ·rename_i gs ht
   obtain ⟨i, hi⟩ := info_of_underlying ht
   have hx : xs.extract o (o + P.cellsOf t) = a.toArray := by
    apply Array.toList_inj.1
    rw [Array.toList_extract]
    simp only [List.extract, Nat.add_sub_cancel_left]
    rw [hd, hs, ← hl]
    simp
   have hz : (sizeOf t).run P w = .ok (P.cellsOf t) w := Go.run_sizeOf w hi
   simp [part, isAgg, run_underlying ht, hz, hx, Sh.packV]
  ·cases he
mutual
theorem eq_run : ∀ (s : Sh) (t d : Nat) (c1 c2 : List Value), eqB P s t = true → s.depth ≤ d → TyV s c1 → TyV s c2 → (Op.equalIn d t (s.packV c1) (s.packV c2)).run P w = .ok (veqL c1 c2) w
 | .int k, t, d + 1, c1, c2, he, _, h1, h2 => by
  rw [eqB] at he
  split at he
  ·rename_i ht
   obtain ⟨a, rfl⟩ := h1
   obtain ⟨b, rfl⟩ := h2
   simp [Sh.packV, veqL, veq, run_equalIn_int w d t k _ a b ht]
  ·cases he
 | .bool, t, d + 1, c1, c2, he, _, h1, h2 => by
  rw [eqB] at he
  split at he
  ·rename_i ht
   obtain ⟨a, rfl⟩ := h1
   obtain ⟨b, rfl⟩ := h2
   simp [Sh.packV, veqL, veq, run_equalIn_bool w d t a b ht]
  ·cases he
 | .str, t, d + 1, c1, c2, he, _, h1, h2 => by
  rw [eqB] at he
  split at he
  ·rename_i ht
   obtain ⟨a, rfl⟩ := h1
   obtain ⟨b, rfl⟩ := h2
   simp [Sh.packV, veqL, veq, run_equalIn_string w d t a b ht]
  ·cases he
 | .slice _, _, _, _, _, _, _, h1, _ => by cases h1
 | .struct fs, t, d + 1, c1, c2, he, hd, h1, h2 => by
  rw [eqB] at he
  split at he
  ·rename_i gs ht
   simp only [Bool.and_eq_true, Bool.not_eq_true', decide_eq_true_eq] at he
   obtain ⟨hp, he, hs⟩ := he
   have hfo : P.fieldsOf t = gs := by simp [Program.fieldsOf, ht]
   rw [TyV] at h1 h2
   have := eqs_run fs gs.toList 0 d c1.toArray c2.toArray he (by rw [Sh.depth] at hd; omega) (by simpa using h1) (by simpa using h2)
   simp only [Sh.packV]
   rw [run_equalIn_struct w d t _ _ (by rw [hfo]; exact ht) hp, hfo, this]
   simp
  ·cases he
 | .int _, _, 0, _, _, _, hd, _, _ => by simp [Sh.depth] at hd
 | .bool, _, 0, _, _, _, hd, _, _ => by simp [Sh.depth] at hd
 | .str, _, 0, _, _, _, hd, _, _ => by simp [Sh.depth] at hd
 | .struct _, _, 0, _, _, _, hd, _, _ => by simp [Sh.depth] at hd
theorem eqs_run : ∀ (fs : List Sh) (gs : List Field) (o d : Nat) (xs ys : Array Value), eqAllB P fs gs o = true → Sh.depths fs ≤ d → TyVs fs (xs.toList.drop o) → TyVs fs (ys.toList.drop o) →
  (Op.eqFields d xs ys gs).run P w = .ok (veqL (xs.toList.drop o) (ys.toList.drop o)) w
 | [], [], o, d, xs, ys, _, _, h1, h2 => by
  rw [TyVs] at h1 h2
  rw [h1, h2]
  simp [Op.eqFields, veqL]
 | f :: fs, g :: gs, o, d, xs, ys, he, hd, h1, h2 => by
  rw [eqAllB] at he
  simp only [Bool.and_eq_true, decide_eq_true_eq] at he
  obtain ⟨hn, ho, he, hs, her⟩ := he
  rw [TyVs] at h1 h2
  obtain ⟨a1, b1, e1, t1, r1⟩ := h1
  obtain ⟨a2, b2, e2, t2, r2⟩ := h2
  rw [Sh.depths] at hd
  have p1 := part_run (w := w) he hs e1 t1
  have p2 := part_run (w := w) he hs e2 t2
  have l1 := TyV.length f a1 t1
  have l2 := TyV.length f a2 t2
  have d1 : xs.toList.drop (o + f.size) = b1 := by rw [← List.drop_drop, e1, ← l1]; simp
  have d2 : ys.toList.drop (o + f.size) = b2 := by rw [← List.drop_drop, e2, ← l2]; simp
  have q := eq_run f g.type d a1 a2 he (by omega) t1 t2
  have rest := eqs_run fs gs (o + f.size) d xs ys her (by omega) (by rw [d1]; exact r1) (by rw [d2]; exact r2)
  rw [d1, d2] at rest
  simp only [Op.eqFields, hn, ne_eq, not_false_eq_true, if_true, Sem.run_bind, ho, p1, p2, q, Result.andThen_ok]
  rw [e1, e2, veqL_append (by rw [l1, l2])]
  cases hq : veqL a1 a2
  ·simp
  ·simpa using rest
 | [], _ :: _, _, _, _, _, he, _, _, _ => by simp [eqAllB] at he
 | _ :: _, [], _, _, _, _, he, _, _, _ => by simp [eqAllB] at he
end
mutual
def tyA : Sh → List AV → Option (List AV)
 | .int k, .sc (.int k' _) :: r => match decide (k' = k) with
  | true => some r
  | false => none
 | .bool, .sc (.bool _) :: r => some r
 | .str, .sc (.string _) :: r => some r
 | .struct fs, l => tyAs fs l
 | _, _ => none
def tyAs : List Sh → List AV → Option (List AV)
 | [], l => some l
 | f :: fs, l => match tyA f l with
  | some r => tyAs fs r
  | none => none
end
mutual
theorem tyA_sound : ∀ (s : Sh) (l r : List AV), tyA s l = some r → ∃ c, l = c.map .sc ++ r ∧ TyV s c
 | .int k, l, r, h => by
  cases l with
  | nil => simp [tyA] at h
  | cons a l =>
   cases a <;> try (simp [tyA] at h; done)
   rename_i v
   cases v <;> try (simp [tyA] at h; done)
   rename_i k' n
   rw [tyA] at h
   split at h
   ·rename_i hd
    obtain rfl := of_decide_eq_true hd
    cases h
    exact ⟨[.int k' n], rfl, by rw [TyV]; exact ⟨n, rfl⟩⟩
   ·cases h
 | .bool, l, r, h => by
  cases l with
  | nil => simp [tyA] at h
  | cons a l =>
   cases a <;> try (simp [tyA] at h; done)
   rename_i v
   cases v <;> try (simp [tyA] at h; done)
   rename_i b
   rw [tyA] at h
   cases h
   exact ⟨[.bool b], rfl, by rw [TyV]; exact ⟨b, rfl⟩⟩
 | .str, l, r, h => by
  cases l with
  | nil => simp [tyA] at h
  | cons a l =>
   cases a <;> try (simp [tyA] at h; done)
   rename_i v
   cases v <;> try (simp [tyA] at h; done)
   rename_i b
   rw [tyA] at h
   cases h
   exact ⟨[.string b], rfl, by rw [TyV]; exact ⟨b, rfl⟩⟩
 | .slice e, l, r, h => by simp [tyA] at h
 | .struct fs, l, r, h => by
  rw [tyA] at h
  obtain ⟨c, h1, h2⟩ := tyAs_sound fs l r h
  exact ⟨c, h1, by rw [TyV]; exact h2⟩
theorem tyAs_sound : ∀ (fs : List Sh) (l r : List AV), tyAs fs l = some r → ∃ c, l = c.map .sc ++ r ∧ TyVs fs c
 | [], l, r, h => by
  rw [tyAs] at h
  cases h
  exact ⟨[], rfl, by rw [TyVs]⟩
 | f :: fs, l, r, h => by
  rw [tyAs] at h
  split at h
  ·rename_i q hq
   obtain ⟨c, rfl, h1⟩ := tyA_sound f l q hq
   obtain ⟨c', rfl, h2⟩ := tyAs_sound fs q r h
   exact ⟨c ++ c', by simp, by rw [TyVs]; exact ⟨c, c', rfl, h1, h2⟩⟩
  ·cases h
end
def eqA : List AV → List AV → Bool
 | [], [] => true
 | .sc a :: l, .sc b :: m => veq a b && eqA l m
 | _, _ => false
theorem eqA_map : ∀ (l m : List Value), eqA (l.map .sc) (m.map .sc) = veqL l m
 | [], [] => rfl
 | a :: l, b :: m => by simp [eqA, veqL, eqA_map l m]
 | [], _ :: _ => rfl
 | _ :: _, [] => rfl
theorem Rel.agg_sc {R : Nat → Prop} {φ : Ph} {c : List Value} {v : Value} (h : Rel w R φ (.agg (c.map .sc)) v) : v = .agg c.toArray := by
 cases h with
 | agg hl hr =>
  rename_i vs
  congr 1
  apply Array.ext_getElem?
  intro i
  by_cases hi : i < c.length
  ·have hv : i < vs.size := by rw [← hl]; simpa using hi
   have := hr i (.sc c[i]) vs[i] (by simp [hi]) (by simp [hv])
   have := this.sc_inv
   simp [hi, hv, this]
  ·have hv : ¬ i < vs.size := by rw [← hl]; simpa using hi
   rw [Array.getElem?_eq_none (by omega), Array.getElem?_eq_none (by simp; omega)]
variable {s : St} {o : Oper}
theorem as_eqAgg {t ty : Nat} {x y : Operand} {cs ds : List AV} (sh : Sh) (hk : (match sh with | .struct _ => true | _ => false) = true) (he : eqB P sh t = true) (hm : P.eqGuardType P.depth t = false) (hdp : sh.depth ≤ 10000) (ho : o.op = .binOp .eql t x y ty)
  (hx : s.ev x = .agg cs) (hy : s.ev y = .agg ds) (h1 : tyA sh cs = some []) (h2 : tyA sh ds = some []) : AStep P o s ⟨.sc (.bool (eqA cs ds)), [], [], []⟩ := by
 intro s' _ hop _ _
 refine opok_val fun c φ R a w hs => ?_
 obtain ⟨c1, rfl, t1⟩ := tyA_sound sh cs [] h1
 obtain ⟨c2, rfl, t2⟩ := tyA_sound sh ds [] h2
 simp only [List.append_nil] at *
 have g1 := hs.ev x
 rw [hop x (by simp [ho, Op.operands]), hx] at g1
 have g1 := g1.agg_sc
 have g2 := hs.ev y
 rw [hop y (by simp [ho, Op.operands]), hy] at g2
 have g2 := g2.agg_sc
 cases sh with
 | struct fs =>
  have hrun := eq_run (w := w) (.struct fs) t 10000 c1 c2 he hdp t1 t2
  simp only [Sh.packV] at hrun
  refine ⟨.bool (veqL c1 c2), ?_, ?_⟩
  ·simp [execOp, ho, g1, g2, run_eqGuard_agg w .eql t x y _ _ hm, run_eql_struct w t, hrun]
  ·rw [eqA_map]; exact .sc rfl
 | _ => cases hk
theorem as_neAgg {t ty : Nat} {x y : Operand} {cs ds : List AV} (sh : Sh) (hk : (match sh with | .struct _ => true | _ => false) = true) (he : eqB P sh t = true) (hm : P.eqGuardType P.depth t = false) (hdp : sh.depth ≤ 10000) (ho : o.op = .binOp .neq t x y ty)
  (hx : s.ev x = .agg cs) (hy : s.ev y = .agg ds) (h1 : tyA sh cs = some []) (h2 : tyA sh ds = some []) : AStep P o s ⟨.sc (.bool (!eqA cs ds)), [], [], []⟩ := by
 intro s' _ hop _ _
 refine opok_val fun c φ R a w hs => ?_
 obtain ⟨c1, rfl, t1⟩ := tyA_sound sh cs [] h1
 obtain ⟨c2, rfl, t2⟩ := tyA_sound sh ds [] h2
 simp only [List.append_nil] at *
 have g1 := hs.ev x
 rw [hop x (by simp [ho, Op.operands]), hx] at g1
 have g1 := g1.agg_sc
 have g2 := hs.ev y
 rw [hop y (by simp [ho, Op.operands]), hy] at g2
 have g2 := g2.agg_sc
 cases sh with
 | struct fs =>
  have hrun := eq_run (w := w) (.struct fs) t 10000 c1 c2 he hdp t1 t2
  simp only [Sh.packV] at hrun
  refine ⟨.bool (!veqL c1 c2), ?_, ?_⟩
  ·simp [execOp, ho, g1, g2, run_eqGuard_agg w .neq t x y _ _ hm, run_neq_struct w t, hrun]
  ·rw [eqA_map]; exact .sc rfl
 | _ => cases hk
end
end Go.Ab
