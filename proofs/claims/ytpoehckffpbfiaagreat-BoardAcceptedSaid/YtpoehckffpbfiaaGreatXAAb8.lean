/- The abstract layer, part 8: append. -/
import Derived.Test.YtpoehckffpbfiaaGreatXAAb7
namespace Go.Ab
open Go.RowKit
section
variable {P : Program} {o : Oper} {s : St}
structure SrcOK (w : World) (R : Nat → Prop) (φ : Ph) (sz : Nat) (ys : List AV) (v : Value) : Prop where
 some : ys ≠ [] → ∃ (ad : Addr) (cap : Nat) (news : List Value), v = .slice (some ad) ys.length cap ∧ news.length = ys.length * sz ∧ (∀ (j : Nat) (u : Value), news[j]? = some u → w.cell? (ad.add j) = some u) ∧
  ∀ (i : Nat) (x : AV), ys[i]? = some x → x.cells.length = sz ∧ ∀ (j : Nat) (c : AV), x.cells[j]? = some c → ∃ u, news[i * sz + j]? = some u ∧ Rel w R φ c u
 none : ys = [] → ∃ (ad : Option Addr) (cap : Nat), v = .slice ad 0 cap
theorem src_sl {w : World} {R : Nat → Prop} {φ : Ph} {sz : Nat} {ys : List AV} {v : Value} (h : Rel w R φ (.sl ys) v) (hz : ∀ x ∈ ys, x.cells.length = sz) : SrcOK w R φ sz ys v := by
 cases h with
 | sl0 => exact ⟨fun h => absurd rfl h, fun _ => ⟨_, _, rfl⟩⟩
 | @sl _ _ b off cap e f he hR hcap hl hc hr =>
  refine ⟨fun hne => ?_, fun h => ⟨_, _, by rw [h]; rfl⟩⟩
  have hee : e = sz := by
   obtain ⟨y, hy⟩ := List.exists_mem_of_ne_nil _ hne
   obtain ⟨i, hi, rfl⟩ := List.mem_iff_getElem.1 hy
   rw [← hl i ys[i] (by simp [hi])]
   exact hz _ hy
  subst hee
  refine ⟨⟨b, off, none⟩, cap, (List.range (ys.length * e)).map f, rfl, by simp, fun j u hj => ?_, fun i x hx => ⟨hl i x hx, fun j c hj => ?_⟩⟩
  ·rw [List.getElem?_map] at hj
   cases hq : (List.range (ys.length * e))[j]? with
   | none => simp [hq] at hj
   | some q =>
    have hlt : j < ys.length * e := by
     have := (List.getElem?_eq_some_iff.1 hq).1
     simpa using this
    simp [hlt] at hq
    subst hq
    simp [hlt] at hj
    subst hj
    rw [addr_add]
    exact hc j hlt
  ·have hlt : i * e + j < ys.length * e := row_in (List.getElem?_eq_some_iff.1 hx).1 (by rw [← hl i x hx]; exact (List.getElem?_eq_some_iff.1 hj).1)
   exact ⟨f (i * e + j), by simp [hlt], (hr i x j c hx hj).mono (fun _ _ => rfl) (fun _ h => h) (fun b x hb => by simp [Ph.no] at hb)⟩
theorem src_arr {c : Ctx} {φ : Ph} {R : Nat → Prop} {a : Act} {w : World} (hs : SRelX c φ R s a w) {b off len sz : Nat} {k : Blk} {v : Value} (h : Rel w R φ (.arr b off len) v) (hb : lk b s.m = some (some k)) (hz : k.esz = sz) (hl : off + len ≤ k.xs.length) : SrcOK w R φ sz ((k.xs.drop off).take len) v := by
 have hlen : ((k.xs.drop off).take len).length = len := by simp; omega
 cases h with
 | arr0 => exact ⟨fun h => absurd (by simp) h, fun _ => ⟨_, _, rfl⟩⟩
 | @arr _ _ _ _ cap hm hbh hlc hc =>
  refine ⟨fun hne => ?_, fun h => ⟨some ⟨hm.blk, off * hm.esz, none⟩, cap, by rw [h] at hlen; simp at hlen; subst hlen; rfl⟩⟩
  obtain ⟨oh, ho', hr⟩ := hs.m.rel b k hb
  rw [hbh] at ho'
  cases ho'
  obtain ⟨h1, h2, h3, _, C, hC, hCs, hel⟩ := hr
  have e1 : hm.esz = sz := by rw [← h1, hz]
  rw [e1] at hCs hel h2
  have hfit : (off + len) * sz ≤ C.size := by
   rw [hCs]
   exact Nat.mul_le_mul_right _ (by omega)
  refine ⟨⟨hm.blk, off * hm.esz, none⟩, cap, (C.toList.drop (off * sz)).take (len * sz), by rw [hlen], ?_, fun j u hj => ?_, fun i x hx => ?_⟩
  ·rw [hlen]
   simp
   rw [Nat.add_mul] at hfit
   omega
  ·rw [addr_add, cell_of_row w _ _ C _ _ hC, e1]
   rw [List.getElem?_take] at hj
   split at hj
   ·rw [List.getElem?_drop, Array.getElem?_toList] at hj
    exact hj
   ·cases hj
  ·rw [List.getElem?_take] at hx
   split at hx
   ·rename_i hi
    rw [List.getElem?_drop] at hx
    obtain ⟨q1, q2⟩ := hel (off + i) x hx
    refine ⟨q1, fun j c hj => ?_⟩
    obtain ⟨u, hu, hru⟩ := q2 j c hj
    refine ⟨u, ?_, hru⟩
    rw [List.getElem?_take, if_pos (row_in hi (by rw [← q1]; exact (List.getElem?_eq_some_iff.1 hj).1)), List.getElem?_drop, Array.getElem?_toList, ← hu]
    congr 1
    rw [Nat.add_mul]
    omega
   ·cases hx
theorem src_nil {w : World} {R : Nat → Prop} {φ : Ph} {sz : Nat} {v : Value} (h : Rel w R φ .nilS v) : SrcOK w R φ sz [] v := by
 cases h
 exact ⟨fun h => absurd rfl h, fun _ => ⟨_, _, rfl⟩⟩
theorem run_append_zero {t ty e : Nat} {E D : TyD} (h : tyOf P t = some D) (hk : D.k = .slice e) (hE : tyOf P e = some E) (base : Option Addr) (n cap : Nat) (hn : n ≤ cap) (ad : Option Addr) (c : Nat) (w : World) :
  (Builtin.append_ #[t, t] ty #[.slice base n cap, .slice ad 0 c]).run P w = .ok (.slice base n cap) w := by
 cases base <;> cases ad <;> simp [Builtin.append_, run_underlying (slice_und h hk), run_sizeOf hE, Builtin.lenOf, hn, Builtin.firstCells, loadCells, loadCellsFrom, storeCells]
theorem SRelX.rename {c : Ctx} {φ : Ph} {R : Nat → Prop} {a : Act} {w : World} (h : SRelX c φ R s a w) {b d : Nat} {k : Blk} {oh : Option Home} (hb : lk b s.m = some (some k)) (hx : φ b = some oh) (hfr : Fr s d) :
  SRelX c (φ.up d oh) R { s with m := (d, some k) :: (b, none) :: s.m } a w := by
 obtain ⟨hd, hd1⟩ := hfr
 have hdb : d ≠ b := by rintro rfl; rw [hb] at hd; cases hd
 have hφd : φ d = none := by
  cases hq : φ d with
  | none => rfl
  | some y => obtain ⟨z, hz⟩ := h.dom d y hq; rw [hd] at hz; cases hz
 have hup := Ph.up_mono (φ := φ) (d := d) oh hφd
 have hself : φ.up d oh d = some oh := by simp [Ph.up]
 have hother : ∀ q, q ≠ d → φ.up d oh q = φ q := fun q hq => by simp [Ph.up, hq]
 have f : ∀ q kk, lk q ((d, some k) :: (b, none) :: s.m) = some (some kk) → (q = d ∧ kk = k) ∨ (q ≠ d ∧ q ≠ b ∧ lk q s.m = some (some kk)) := by
  intro q kk hq
  rw [lk_cons] at hq
  by_cases e : q = d
  ·rw [if_pos e] at hq; cases hq; exact .inl ⟨e, rfl⟩
  ·rw [if_neg e, lk_cons] at hq
   by_cases e' : q = b
   ·rw [if_pos e'] at hq; cases hq
   ·rw [if_neg e'] at hq; exact .inr ⟨e, e', hq⟩
 refine ⟨h.n, fun t av ht => (h.t t av ht).mono (fun _ _ => rfl) (fun _ h => h) hup, ⟨?_, ?_, ?_⟩, ?_, ?_, h.R0, h.Rn, h.Rb, h.ext, h.d, fun q hq => by rw [hother q (by omega)]; exact h.keep q hq⟩
 ·intro q kk hq
  rcases f q kk hq with ⟨rfl, rfl⟩ | ⟨e1, e2, e3⟩
  ·obtain ⟨oh', ho', hr⟩ := h.m.rel b kk hb
   rw [hx] at ho'; cases ho'
   exact ⟨oh, hself, hr.mono (fun _ _ => rfl) (fun _ _ => rfl) hup⟩
  ·obtain ⟨oh', ho', hr⟩ := h.m.rel q kk e3
   exact ⟨oh', by rw [hother q e1]; exact ho', hr.mono (fun _ _ => rfl) (fun _ _ => rfl) hup⟩
 ·intro q q' k1 k2 y y' hq hq' hy hy' heq
  rcases f q k1 hq with ⟨rfl, rfl⟩ | ⟨e1, e2, e3⟩ <;> rcases f q' k2 hq' with ⟨rfl, rfl⟩ | ⟨e1', e2', e3'⟩
  ·rfl
  ·exfalso
   rw [hself] at hy; cases hy
   rw [hother _ e1'] at hy'
   exact e2' (h.m.inj q' b k2 k1 y' y e3' hb hy' hx heq.symm)
  ·exfalso
   rw [hself] at hy'; cases hy'
   rw [hother _ e1] at hy
   exact e2 (h.m.inj q b k1 k2 y y' e3 hb hy hx heq)
  ·rw [hother _ e1] at hy
   rw [hother _ e1'] at hy'
   exact h.m.inj q q' k1 k2 y y' e3 e3' hy hy' heq
 ·intro q k1 y hq hy
  rcases f q k1 hq with ⟨rfl, rfl⟩ | ⟨e1, e2, e3⟩
  ·rw [hself] at hy; cases hy
   exact h.m.notR b k1 y hb hx
  ·rw [hother _ e1] at hy
   exact h.m.notR q k1 y e3 hy
 ·intro q y hy
  rw [lk_cons]
  by_cases e : q = d
  ·rw [if_pos e]; exact ⟨_, rfl⟩
  ·rw [if_neg e, lk_cons]
   by_cases e' : q = b
   ·rw [if_pos e']; exact ⟨_, rfl⟩
   ·rw [if_neg e']
    rw [hother _ e] at hy
    exact h.dom q y hy
 ·intro q k1 y hq hy
  rcases f q k1 hq with ⟨rfl, rfl⟩ | ⟨e1, e2, e3⟩
  ·rw [hself] at hy; cases hy
   exact h.fresh b k1 y hb hx
  ·rw [hother _ e1] at hy
   exact h.fresh q k1 y e3 hy
theorem app_content {w : World} {R : Nat → Prop} {φ : Ph} {sz n : Nat} {xs ys : List AV} {C C' : Array Value} {news : List Value} (hn : n ≤ xs.length)
  (hold : ∀ (i : Nat) (x : AV), xs[i]? = some x → x.cells.length = sz ∧ ∀ (j : Nat) (c : AV), x.cells[j]? = some c → ∃ u, C[i * sz + j]? = some u ∧ Rel w R φ c u)
  (hnew : ∀ (i : Nat) (x : AV), ys[i]? = some x → x.cells.length = sz ∧ ∀ (j : Nat) (c : AV), x.cells[j]? = some c → ∃ u, news[i * sz + j]? = some u ∧ Rel w R φ c u)
  (h1 : ∀ q, q < n * sz → C'[q]? = C[q]?) (h2 : ∀ q, q < news.length → C'[n * sz + q]? = news[q]?) :
  ∀ (i : Nat) (x : AV), (xs.take n ++ ys)[i]? = some x → x.cells.length = sz ∧ ∀ (j : Nat) (c : AV), x.cells[j]? = some c → ∃ u, C'[i * sz + j]? = some u ∧ Rel w R φ c u := by
 intro i x hx
 have hl : (xs.take n).length = n := by simp; omega
 by_cases hi : i < n
 ·rw [List.getElem?_append_left (by omega), List.getElem?_take, if_pos hi] at hx
  obtain ⟨q1, q2⟩ := hold i x hx
  refine ⟨q1, fun j c hj => ?_⟩
  obtain ⟨u, hu, hr⟩ := q2 j c hj
  refine ⟨u, ?_, hr⟩
  rw [h1 _ (row_in hi (by rw [← q1]; exact (List.getElem?_eq_some_iff.1 hj).1))]
  exact hu
 ·rw [List.getElem?_append_right (by omega), hl] at hx
  obtain ⟨q1, q2⟩ := hnew (i - n) x hx
  refine ⟨q1, fun j c hj => ?_⟩
  obtain ⟨u, hu, hr⟩ := q2 j c hj
  refine ⟨u, ?_, hr⟩
  have e : i * sz + j = n * sz + ((i - n) * sz + j) := by
   have : i * sz = n * sz + (i - n) * sz := by rw [← Nat.add_mul]; congr 1; omega
   omega
  rw [e, h2 _ (List.getElem?_eq_some_iff.1 hu).1]
  exact hu
theorem news_oneCell {w : World} {R : Nat → Prop} {φ : Ph} {sz : Nat} {ys : List AV} {news : List Value} (hsz : 0 < sz) (hl : news.length = ys.length * sz) (hc : ys.all (fun x => x.cells.all AV.cellish) = true)
  (hnew : ∀ (i : Nat) (x : AV), ys[i]? = some x → x.cells.length = sz ∧ ∀ (j : Nat) (c : AV), x.cells[j]? = some c → ∃ u, news[i * sz + j]? = some u ∧ Rel w R φ c u) : ∀ u ∈ news, u.oneCell' = true := by
 intro u hu
 obtain ⟨q, hq, rfl⟩ := List.mem_iff_getElem.1 hu
 have e1 : q = (q / sz) * sz + q % sz := by rw [Nat.mul_comm]; exact (Nat.div_add_mod q sz).symm
 have e2 : q / sz < ys.length := Nat.div_lt_of_lt_mul (by rw [hl] at hq; rwa [Nat.mul_comm] at hq)
 have e3 : q % sz < sz := Nat.mod_lt _ hsz
 obtain ⟨q1, q2⟩ := hnew (q / sz) (ys[q / sz]) (by simp [e2])
 obtain ⟨u', hu', hr⟩ := q2 (q % sz) ((ys[q / sz]).cells[q % sz]'(by omega)) (by simp [q1, e3])
 rw [← e1] at hu'
 have : u' = news[q] := by rw [List.getElem?_eq_getElem hq] at hu'; cases hu'; rfl
 subst this
 refine hr.oneCell ?_
 rw [List.all_eq_true] at hc
 have := hc _ (List.getElem_mem e2)
 rw [List.all_eq_true] at this
 exact this _ (List.getElem_mem _)
theorem size_zeroCells' (z : Array Value) (n : Nat) : (Builtin.zeroCells z n).size = n * z.size := by simp [Builtin.zeroCells]
theorem grow_row (olds news : List Value) (zs : Array Value) : (∀ q, q < olds.length → (olds.toArray ++ news.toArray ++ zs)[q]? = olds[q]?) ∧ ∀ q, q < news.length → (olds.toArray ++ news.toArray ++ zs)[olds.length + q]? = news[q]? := by
 refine ⟨fun q hq => ?_, fun q hq => ?_⟩
 ·rw [Array.getElem?_append_left (by simp; omega), Array.getElem?_append_left (by simpa using hq)]
  simp
 ·rw [Array.getElem?_append_left (by simp; omega), Array.getElem?_append_right (by simp)]
  simp
theorem append_core {c : Ctx} {φ : Ph} {R : Nat → Prop} {a : Act} {w : World} {t ty e d b n : Nat} {D E : TyD} {k : Blk} {ys : List AV} {v1 v2 : Value} (hs : SRelX c φ R s a w) (h : tyOf P t = some D) (hk : D.k = .slice e) (hE : tyOf P e = some E) (hz : 0 < E.size)
  (h1 : Rel w R φ (.arr b 0 n) v1) (hb : lk b s.m = some (some k)) (hty : k.ty = e) (hez : k.esz = E.size) (hn : n ≤ k.xs.length) (h2 : SrcOK w R φ E.size ys v2) (hc : ys.all (fun x => x.cells.all AV.cellish) = true)
  (hfr : Fr s d) (hbig : (n + ys.length) * E.bytes ≤ 140737488355328) (hlen : n + ys.length ≤ maxLen) :
  ∃ v w' φ', (Builtin.append_ #[t, t] ty #[v1, v2]).run P w = .ok v w' ∧ SRelX c φ' R { s with m := (d, some ⟨e, E.size, k.xs.take n ++ ys⟩) :: (b, none) :: s.m } a w' ∧ Rel w' R φ' (.arr d 0 (n + ys.length)) v := by
 obtain ⟨i, z, u, hi, hzz, _, hsz, hby, hzero, hzs, _⟩ := tyOf_facts hE
 obtain ⟨oh, hoh, hrel⟩ := hs.m.rel b k hb
 obtain ⟨hd, hd1⟩ := hfr
 have htr : ∃ φ1, SRelX c φ1 R { s with m := (d, some ⟨e, E.size, k.xs.take n⟩) :: (b, none) :: s.m } a w ∧ φ1 = φ.up d oh := by
  have hw : SRelX c φ R { s with m := (b, some ⟨e, E.size, k.xs.take n⟩) :: s.m } a w := by
   have f : ∀ b1 k1, lk b1 ((b, some (⟨e, E.size, k.xs.take n⟩ : Blk)) :: s.m) = some (some k1) → ∃ k0, lk b1 s.m = some (some k0) := by
    intro b1 k1 h1
    rw [lk_cons] at h1
    split at h1
    ·subst_vars; exact ⟨k, hb⟩
    ·exact ⟨k1, h1⟩
   refine ⟨hs.n, hs.t, ⟨?_, ?_, ?_⟩, ?_, ?_, hs.R0, hs.Rn, hs.Rb, hs.ext, hs.d, hs.keep⟩
   ·intro b1 k1 g1
    rw [lk_cons] at g1
    split at g1
    ·subst_vars
     cases g1
     refine ⟨oh, hoh, ?_⟩
     cases oh with
     | none => simp only [BlkRel] at hrel ⊢; simp [hrel]
     | some x =>
      obtain ⟨r1, r2, r3, r4, C, r5, r6, r7⟩ := hrel
      refine ⟨by rw [← r1, hez], r2, by simp; omega, r4, C, r5, r6, fun i x hx => ?_⟩
      dsimp only at hx
      rw [List.getElem?_take] at hx
      split at hx
      ·exact r7 i x hx
      ·cases hx
    ·exact hs.m.rel b1 k1 g1
   ·intro b1 b2 k1 k2 y1 y2 g1 g2 e1 e2 heq
    obtain ⟨q1, f1⟩ := f b1 k1 g1
    obtain ⟨q2, f2⟩ := f b2 k2 g2
    exact hs.m.inj b1 b2 q1 q2 y1 y2 f1 f2 e1 e2 heq
   ·intro b1 k1 y g1 e1
    obtain ⟨q1, f1⟩ := f b1 k1 g1
    exact hs.m.notR b1 q1 y f1 e1
   ·intro b1 y hy
    obtain ⟨q, hq⟩ := hs.dom b1 y hy
    rw [lk_cons]
    split
    ·exact ⟨_, rfl⟩
    ·exact ⟨q, hq⟩
   ·intro b1 k1 y g1 e1
    obtain ⟨q1, f1⟩ := f b1 k1 g1
    exact hs.fresh b1 q1 y f1 e1
  have hdb : d ≠ b := by rintro rfl; rw [hb] at hd; cases hd
  have := hw.rename (b := b) (d := d) (k := ⟨e, E.size, k.xs.take n⟩) (oh := oh) (by simp [lk_cons_self]) hoh ⟨by simp [lk_cons_ne _ _ hdb, hd], hd1⟩
  refine ⟨_, ⟨this.n, this.t, ?_, ?_, ?_, this.R0, this.Rn, this.Rb, this.ext, this.d, this.keep⟩, rfl⟩
  ·have hm := this.m
   have eqv : ∀ q, lk q ((d, some (⟨e, E.size, k.xs.take n⟩ : Blk)) :: (b, none) :: s.m) = lk q ((d, some (⟨e, E.size, k.xs.take n⟩ : Blk)) :: (b, none) :: (b, some (⟨e, E.size, k.xs.take n⟩ : Blk)) :: s.m) := by
    intro q
    simp only [lk_cons]
    repeat' split
    all_goals rfl
   exact ⟨fun b1 k1 g1 => hm.rel b1 k1 (by rw [← eqv]; exact g1), fun b1 b2 k1 k2 y1 y2 g1 g2 => hm.inj b1 b2 k1 k2 y1 y2 (by rw [← eqv]; exact g1) (by rw [← eqv]; exact g2), fun b1 k1 y g1 => hm.notR b1 k1 y (by rw [← eqv]; exact g1)⟩
  ·intro q y hy
   obtain ⟨r, hr⟩ := this.dom q y hy
   refine ⟨r, ?_⟩
   rw [← hr]
   simp only [lk_cons]
   repeat' split
   all_goals rfl
  ·intro q k1 y g1 e1
   refine this.fresh q k1 y ?_ e1
   rw [← g1]
   simp only [lk_cons]
   repeat' split
   all_goals rfl
 obtain ⟨φ1, hst, rfl⟩ := htr
 by_cases hys : ys = []
 ·
  subst hys
  obtain ⟨ad, cap2, rfl⟩ := h2.none rfl
  simp only [List.append_nil, List.length_nil, Nat.add_zero] at *
  cases h1 with
  | arr0 hb0 =>
   rw [hb0] at hoh
   cases hoh
   exact ⟨_, w, _, run_append_zero h hk hE none 0 0 (Nat.le_refl _) ad cap2 w, hst, .arr0 (by simp [Ph.up])⟩
  | @arr _ _ _ _ cap hm hbh hlc hcc =>
   rw [hbh] at hoh
   cases hoh
   have hr := Rel.arr (w := w) (R := R) (φ := φ.up d (some hm)) (b := d) (off := 0) (len := n) (cap := cap) (h := hm) (by simp [Ph.up]) hlc hcc
   exact ⟨_, w, _, run_append_zero h hk hE _ n cap hlc ad cap2 w, hst, hr⟩
 ·obtain ⟨ad, cap2, news, rfl, hnl, hnews, hnew⟩ := h2.some hys
  have hm0 : 0 < ys.length := List.length_pos_iff.2 hys
  have hone := news_oneCell hz hnl hc hnew
  have hkill : SRelX c φ R { s with m := (b, none) :: s.m } a w := hs.kill b
  have hdb : d ≠ b := by rintro rfl; rw [hb] at hd; cases hd
  have hd' : lk d ((b, none) :: s.m) = none := by rw [lk_cons_ne _ _ hdb]; exact hd
  have hfits : (n + ys.length) * i.bytes ≤ 140737488355328 := by rw [hby]; exact hbig
  have h63 : ((n + ys.length : Nat) : Int) ≤ 9223372036854775807 := by simp only [maxLen] at hlen; omega
  cases h1 with
  | arr0 hb0 =>
   rw [hb0] at hoh
   cases hoh
   simp only [BlkRel] at hrel
   have hrun := run_append_nil (P := P) w t ty e i z (slice_und h hk) hi hzz ad ys.length cap2 news (by rw [hsz]; exact hnl) hnews hm0 (by simpa using h63) (by simp at hfits; omega)
   have hge := grownCap_ge w ys.length 0 e
   have hle := grownCap_le_maxLen w ys.length 0 e (by simpa using hlen)
   obtain ⟨n1, n2⟩ := hkill.newArr d ⟨hd', hd1⟩ (w' := w.drew.alloc (.cells (news.toArray ++ Builtin.zeroCells z.cells (grownCap w ys.length 0 e - ys.length)) e)) (T := e) (n := E.size) (cap := grownCap w ys.length 0 e) (C := news.toArray ++ Builtin.zeroCells z.cells (grownCap w ys.length 0 e - ys.length)) (xs := k.xs.take 0 ++ ys) ⟨w.drawn + 1, rfl⟩ hz (by
     rw [Array.size_append, size_zeroCells', hzs, List.size_toArray, hnl, ← Nat.add_mul]
     congr 1
     omega) (by simpa using hge) hle (fun i x hx => by
     simp only [List.take_zero, List.nil_append] at hx
     obtain ⟨q1, q2⟩ := hnew i x hx
     refine ⟨q1, fun j c' hj => ?_⟩
     obtain ⟨u, hu, hr⟩ := q2 j c' hj
     refine ⟨u, ?_, hr⟩
     rw [Array.getElem?_append_left (by simpa using (List.getElem?_eq_some_iff.1 hu).1)]
     simpa using hu)
   exact ⟨_, _, _, hrun, n1, by simpa using n2 ys.length hge⟩
  | @arr _ _ _ _ cap hm hbh hlc hcc =>
   rw [hbh] at hoh
   cases hoh
   simp only [Nat.zero_add, Nat.zero_mul] at hcc ⊢
   obtain ⟨r1, r2, r3, r4, C, r5, r6, r7⟩ := hrel
   have hez' : hm.esz = E.size := by rw [← r1, hez]
   rw [hez'] at r6 r7
   rw [hty] at r5
   subst hcc
   have hnC : n * E.size ≤ C.size := by rw [r6]; exact Nat.mul_le_mul_right _ hlc
   by_cases hroom : n + ys.length ≤ hm.cap
   ·have hfit : n * i.size + news.length ≤ C.size := by rw [hsz, hnl, r6, ← Nat.add_mul]; exact Nat.mul_le_mul_right _ hroom
    have hrun := run_append_room (P := P) w t ty e i (slice_und h hk) hi hm.blk n hm.cap C r5 ad ys.length cap2 news (by rw [hsz]; exact hnl) hnews hone hroom hfit
    rw [hsz] at hrun hfit
    have hfit' : n * E.size + news.length ≤ C.toList.length := by simpa using hfit
    have hnR := hs.m.notR b k hm hb hbh
    have hw0 : ∀ q, R q → (w.setRow hm.blk (C.toList.take (n * E.size) ++ news ++ C.toList.drop (n * E.size + news.length)).toArray).heap[q]? = w.heap[q]? := fun q hq => setRow_other w hm.blk q _ (fun e => hnR (e ▸ hq))
    have hcont := app_content hn r7 hnew (C' := (C.toList.take (n * E.size) ++ news ++ C.toList.drop (n * E.size + news.length)).toArray) (fun q hq => by
      rw [seg_get _ _ _ hfit', if_neg (by omega), Array.getElem?_toList]) (fun q hq => by
      rw [seg_get _ _ _ hfit', if_pos (by omega), show n * E.size + q - n * E.size = q by omega])
    have hwr := hst.write (b := d) (k := ⟨e, E.size, k.xs.take n⟩) (k' := ⟨e, E.size, k.xs.take n ++ ys⟩) (x := hm) (by simp [lk_cons_self]) (by simp [Ph.up]) (C.toList.take (n * E.size) ++ news ++ C.toList.drop (n * E.size + news.length)).toArray
     ⟨hez'.symm, r2, by simp; omega, r4, _, setRow_heap w hm.blk C _ e _ r5, by rw [seg_size _ _ _ hfit', hez', ← r6]; simp, fun i x hx => by
      rw [hez']
      obtain ⟨q1, q2⟩ := hcont i x hx
      refine ⟨q1, fun j c' hj => ?_⟩
      obtain ⟨u, hu, hr⟩ := q2 j c' hj
      exact ⟨u, hu, hr.mono hw0 (fun _ h => h) (Ph.up_mono _ (by
       cases hq : φ d with
       | none => rfl
       | some y => obtain ⟨z, hz⟩ := hs.dom d y hq; rw [hd] at hz; cases hz))⟩⟩
    refine ⟨_, _, φ.up d (some hm), hrun, ⟨hwr.n, hwr.t, ?_, ?_, ?_, hwr.R0, hwr.Rn, hwr.Rb, hwr.ext, hwr.d, hwr.keep⟩, ?_⟩
    ·have hm' := hwr.m
     have eqv : ∀ q, lk q ((d, some (⟨e, E.size, k.xs.take n ++ ys⟩ : Blk)) :: (b, none) :: s.m) = lk q ((d, some (⟨e, E.size, k.xs.take n ++ ys⟩ : Blk)) :: (d, some (⟨e, E.size, k.xs.take n⟩ : Blk)) :: (b, none) :: s.m) := by
      intro q
      simp only [lk_cons]
      repeat' split
      all_goals rfl
     exact ⟨fun b1 k1 g1 => hm'.rel b1 k1 (by rw [← eqv]; exact g1), fun b1 b2 k1 k2 y1 y2 g1 g2 => hm'.inj b1 b2 k1 k2 y1 y2 (by rw [← eqv]; exact g1) (by rw [← eqv]; exact g2), fun b1 k1 y g1 => hm'.notR b1 k1 y (by rw [← eqv]; exact g1)⟩
    ·intro q y hy
     obtain ⟨r, hr⟩ := hwr.dom q y hy
     refine ⟨r, ?_⟩
     rw [← hr]
     simp only [lk_cons]
     repeat' split
     all_goals rfl
    ·intro q k1 y g1 e1
     refine hwr.fresh q k1 y ?_ e1
     rw [← g1]
     simp only [lk_cons]
     repeat' split
     all_goals rfl
    ·have := Rel.arr (w := w.setRow hm.blk (C.toList.take (n * E.size) ++ news ++ C.toList.drop (n * E.size + news.length)).toArray) (R := R) (φ := φ.up d (some hm)) (b := d) (off := 0) (len := n + ys.length) (cap := hm.cap) (h := hm) (by simp [Ph.up]) hroom (by simp)
     simpa using this
   ·have hol : (C.toList.take (n * E.size)).length = n * E.size := by simp; omega
    have hrun := run_append_grow (P := P) w t ty e i z (slice_und h hk) hi hzz ⟨hm.blk, 0, none⟩ n hm.cap (C.toList.take (n * E.size)) (by rw [hol, hsz]) (fun j v hj => by
      rw [addr_add, Nat.zero_add, cell_of_row w _ _ C _ _ r5]
      rw [List.getElem?_take] at hj
      split at hj
      ·rw [Array.getElem?_toList] at hj; exact hj
      ·cases hj) ad ys.length cap2 news (by rw [hsz]; exact hnl) hnews (by omega) h63 (growslice_fits (by omega) hfits)
    have hge := grownCap_ge w (n + ys.length) hm.cap e
    have hle := grownCap_le_maxLen w (n + ys.length) hm.cap e hlen
    obtain ⟨g1, g2⟩ := grow_row (C.toList.take (n * E.size)) news (Builtin.zeroCells z.cells (grownCap w (n + ys.length) hm.cap e - (n + ys.length)))
    rw [hol] at g1 g2
    have hcont := app_content hn r7 hnew (fun q hq => by
      rw [g1 q hq, List.getElem?_take, if_pos hq, Array.getElem?_toList]) g2
    obtain ⟨n1, n2⟩ := hkill.newArr d ⟨hd', hd1⟩ (w' := w.drew.alloc (.cells ((C.toList.take (n * E.size)).toArray ++ news.toArray ++ Builtin.zeroCells z.cells (grownCap w (n + ys.length) hm.cap e - (n + ys.length))) e)) (T := e) (n := E.size) (cap := grownCap w (n + ys.length) hm.cap e) (C := (C.toList.take (n * E.size)).toArray ++ news.toArray ++ Builtin.zeroCells z.cells (grownCap w (n + ys.length) hm.cap e - (n + ys.length))) (xs := k.xs.take n ++ ys) ⟨w.drawn + 1, rfl⟩ hz (by
      rw [Array.size_append, Array.size_append, size_zeroCells', hzs, List.size_toArray, List.size_toArray, hol, hnl, ← Nat.add_mul, ← Nat.add_mul]
      congr 1
      omega) (by simp; omega) hle hcont
    exact ⟨_, _, _, by simpa using hrun, n1, n2 _ hge⟩
theorem as_append {t e d b n : Nat} {x y : Operand} {D E : TyD} {k : Blk} {ys : List AV} {acc : List Nat} (ho : o.op = bcall .append #[x, y] #[t, t]) (h : tyOf P t = some D) (hk : D.k = .slice e) (hE : tyOf P e = some E) (hz : Nat.blt 0 E.size = true)
  (hx : s.ev x = .arr b 0 n) (hb : lk b s.m = some (some k)) (hty : Nat.beq k.ty e = true) (hez : Nat.beq k.esz E.size = true) (hn : n ≤ k.xs.length)
  (hsrc : (s.ev y = .sl ys ∧ ∀ x ∈ ys, x.cells.length = E.size) ∨ (s.ev y = .nilS ∧ ys = []) ∨ ∃ b' off len k', s.ev y = .arr b' off len ∧ lk b' s.m = some (some k') ∧ k'.esz = E.size ∧ off + len ≤ k'.xs.length ∧ ys = (k'.xs.drop off).take len ∧ b' ∈ acc)
  (hc : ys.all (fun x => x.cells.all AV.cellish) = true) (hbig : (n + ys.length) * E.bytes ≤ 140737488355328) (hlen : n + ys.length ≤ 9223372036854775807) :
  AStep P o s ⟨.arr d 0 (n + ys.length), [(d, some ⟨e, E.size, k.xs.take n ++ ys⟩), (b, none)], b :: acc, [d]⟩ := by
 intro s' _ hop hacc hnw
 refine opok_run fun c φ R a w hs => ?_
 have h1 := hs.ev x
 rw [hop x (mem_bcall ho x (by simp)), hx] at h1
 have h2 := hs.ev y
 rw [hop y (mem_bcall ho y (by simp))] at h2
 have hb' : lk b s'.m = some (some k) := by rw [hacc b (by simp)]; exact hb
 have hS : SrcOK w R φ E.size ys (a.eval y) := by
  rcases hsrc with ⟨hy, hz⟩ | ⟨hy, rfl⟩ | ⟨b', off, len, k', hy, hbb, hkz, hl, rfl, hin⟩
  ·rw [hy] at h2; exact src_sl h2 hz
  ·rw [hy] at h2; exact src_nil h2
  ·rw [hy] at h2
   exact src_arr hs h2 (by rw [hacc b' (by simp [hin])]; exact hbb) hkz hl
 obtain ⟨v, w', φ', hrun, hst, hv⟩ := append_core (ty := o.type) hs h hk hE (by simpa using hz) h1 hb' (Nat.eq_of_beq_eq_true hty) (Nat.eq_of_beq_eq_true hez) hn hS hc (hnw d (by simp)) hbig (by simp only [maxLen]; exact hlen)
 exact ⟨v, w', φ', R, by simp [run_bcall ho, builtin, hrun], SRelX.app hst o.dst hv⟩
end
end Go.Ab
