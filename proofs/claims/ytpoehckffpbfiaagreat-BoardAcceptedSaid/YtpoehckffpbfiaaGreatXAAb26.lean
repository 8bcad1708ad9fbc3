/- The abstract layer, part 26: strings appended to bytes; the strings.Builder's operations. -/
import Derived.Test.YtpoehckffpbfiaaGreatXAAb25
import Derived.Lib.AppendStr
import Derived.Lib.UnsafeStr
import Derived.Lib.Builder
namespace Go.Ab
open Go.RowKit
section
variable {P : Program} {o : Oper} {s : St}
theorem run_append_zeroS {t u2 ty e : Nat} {E D : TyD} {str : ByteArray} (h : tyOf P t = some D) (hk : D.k = .slice e) (hE : tyOf P e = some E) (hu2 : P.underlying u2 = some .string) (base : Option Addr) (n cap : Nat) (hn : n ≤ cap) (h0 : str.size = 0) (w : World) :
  (Builtin.append_ #[t, u2] ty #[.slice base n cap, .string str]).run P w = .ok (.slice base n cap) w := by
 have hf := Lib.run_firstCells_string (P := P) w E.size str
 have hc : Lib.strCells str = [] := List.eq_nil_of_length_eq_zero (by rw [Lib.strCells_length]; exact h0)
 rw [h0, hc] at hf
 cases base <;> simp [Builtin.append_, run_underlying (slice_und h hk), run_underlying hu2, run_sizeOf hE, Builtin.lenOf, h0, hn, hf, storeCells]
theorem append_coreS {c : Ctx} {φ : Ph} {R : Nat → Prop} {a : Act} {w : World} {t u2 ty e d b n : Nat} {D E : TyD} {k : Blk} {ys : List AV} {v1 : Value} {str : ByteArray} (hs : SRelX c φ R s a w) (h : tyOf P t = some D) (hk : D.k = .slice e) (hE : tyOf P e = some E) (hz : 0 < E.size) (hu2 : P.underlying u2 = some .string) (hE1 : E.size = 1) (hysE : ys = (Lib.strCells str).map .sc)
  (h1 : Rel w R φ (.arr b 0 n) v1) (hb : lk b s.m = some (some k)) (hty : k.ty = e) (hez : k.esz = E.size) (hn : n ≤ k.xs.length) (hc : ys.all (fun x => x.cells.all AV.cellish) = true)
  (hfr : Fr s d) (hbig : (n + ys.length) * E.bytes ≤ 140737488355328) (hlen : n + ys.length ≤ maxLen) :
  ∃ v w' φ', (Builtin.append_ #[t, u2] ty #[v1, .string str]).run P w = .ok v w' ∧ SRelX c φ' R { s with m := (d, some ⟨e, E.size, k.xs.take n ++ ys⟩) :: (b, none) :: s.m } a w' ∧ Rel w' R φ' (.arr d 0 (n + ys.length)) v := by
 obtain ⟨i, z, u, hi, hzz, _, hsz, hby, hzero, hzs, _⟩ := tyOf_facts hE
 obtain ⟨oh, hoh, hrel⟩ := hs.m.rel b k hb
 obtain ⟨hd, hd1⟩ := hfr
 have htr : ∃ φ1, SRelX c φ1 R { s with m := (d, some ⟨e, E.size, k.xs.take n⟩) :: (b, none) :: s.m } a w ∧ φ1 = φ.up d oh := by
  have hw : SRelX c φ R { s with m := (b, some ⟨e, E.size, k.xs.take n⟩) :: s.m } a w := by
   have f : ∀ b1 k1, lk b1 ((b, some (⟨e, E.size, k.xs.take n⟩ : Blk)) :: s.m) = some (some k1) → ∃ k0, lk b1 s.m = some (some k0) := by
    intro b1 k1 h1
    rw [lk_cons] at h1
    split at h1
    ·subst_vars; exact ⟨k, hb⟩
    ·exact ⟨k1, h1⟩
   refine ⟨hs.n, hs.t, ⟨?_, ?_, ?_⟩, ?_, ?_, hs.R0, hs.Rn, hs.Rb, hs.ext, hs.d, hs.keep⟩
   ·intro b1 k1 g1
    rw [lk_cons] at g1
    split at g1
    ·subst_vars
     cases g1
     refine ⟨oh, hoh, ?_⟩
     cases oh with
     | none => simp only [BlkRel] at hrel ⊢; simp [hrel]
     | some x =>
      obtain ⟨r1, r2, r3, r4, C, r5, r6, r7⟩ := hrel
      refine ⟨by rw [← r1, hez], r2, by simp; omega, r4, C, r5, r6, fun i x hx => ?_⟩
      dsimp only at hx
      rw [List.getElem?_take] at hx
      split at hx
      ·exact r7 i x hx
      ·cases hx
    ·exact hs.m.rel b1 k1 g1
   ·intro b1 b2 k1 k2 y1 y2 g1 g2 e1 e2 heq
    obtain ⟨q1, f1⟩ := f b1 k1 g1
    obtain ⟨q2, f2⟩ := f b2 k2 g2
    exact hs.m.inj b1 b2 q1 q2 y1 y2 f1 f2 e1 e2 heq
   ·intro b1 k1 y g1 e1
    obtain ⟨q1, f1⟩ := f b1 k1 g1
    exact hs.m.notR b1 q1 y f1 e1
   ·intro b1 y hy
    obtain ⟨q, hq⟩ := hs.dom b1 y hy
    rw [lk_cons]
    split
    ·exact ⟨_, rfl⟩
    ·exact ⟨q, hq⟩
   ·intro b1 k1 y g1 e1
    obtain ⟨q1, f1⟩ := f b1 k1 g1
    exact hs.fresh b1 q1 y f1 e1
  have hdb : d ≠ b := by rintro rfl; rw [hb] at hd; cases hd
  have := hw.rename (b := b) (d := d) (k := ⟨e, E.size, k.xs.take n⟩) (oh := oh) (by simp [lk_cons_self]) hoh ⟨by simp [lk_cons_ne _ _ hdb, hd], hd1⟩
  refine ⟨_, ⟨this.n, this.t, ?_, ?_, ?_, this.R0, this.Rn, this.Rb, this.ext, this.d, this.keep⟩, rfl⟩
  ·have hm := this.m
   have eqv : ∀ q, lk q ((d, some (⟨e, E.size, k.xs.take n⟩ : Blk)) :: (b, none) :: s.m) = lk q ((d, some (⟨e, E.size, k.xs.take n⟩ : Blk)) :: (b, none) :: (b, some (⟨e, E.size, k.xs.take n⟩ : Blk)) :: s.m) := by
    intro q
    simp only [lk_cons]
    repeat' split
    all_goals rfl
   exact ⟨fun b1 k1 g1 => hm.rel b1 k1 (by rw [← eqv]; exact g1), fun b1 b2 k1 k2 y1 y2 g1 g2 => hm.inj b1 b2 k1 k2 y1 y2 (by rw [← eqv]; exact g1) (by rw [← eqv]; exact g2), fun b1 k1 y g1 => hm.notR b1 k1 y (by rw [← eqv]; exact g1)⟩
  ·intro q y hy
   obtain ⟨r, hr⟩ := this.dom q y hy
   refine ⟨r, ?_⟩
   rw [← hr]
   simp only [lk_cons]
   repeat' split
   all_goals rfl
  ·intro q k1 y g1 e1
   refine this.fresh q k1 y ?_ e1
   rw [← g1]
   simp only [lk_cons]
   repeat' split
   all_goals rfl
 obtain ⟨φ1, hst, rfl⟩ := htr
 by_cases hys : ys = []
 ·
  subst hys
  have hs0 : str.size = 0 := by
   have := congrArg List.length hysE
   simpa [Lib.strCells_length] using this.symm
  simp only [List.append_nil, List.length_nil, Nat.add_zero] at *
  cases h1 with
  | arr0 hb0 =>
   rw [hb0] at hoh
   cases hoh
   exact ⟨_, w, _, run_append_zeroS h hk hE hu2 none 0 0 (Nat.le_refl _) hs0 w, hst, .arr0 (by simp [Ph.up])⟩
  | @arr _ _ _ _ cap hm hbh hlc hcc =>
   rw [hbh] at hoh
   cases hoh
   have hr := Rel.arr (w := w) (R := R) (φ := φ.up d (some hm)) (b := d) (off := 0) (len := n) (cap := cap) (h := hm) (by simp [Ph.up]) hlc hcc
   exact ⟨_, w, _, run_append_zeroS h hk hE hu2 _ n cap hlc hs0 w, hst, hr⟩
 ·have hlenS : ys.length = str.size := by rw [hysE]; simp [Lib.strCells_length]
  obtain ⟨news, hnewsE⟩ : ∃ news, news = Lib.strCells str := ⟨_, rfl⟩
  have hnl : news.length = ys.length * E.size := by rw [hnewsE, hE1, hysE]; simp
  have hnew : ∀ (i : Nat) (x : AV), ys[i]? = some x → x.cells.length = E.size ∧ ∀ (j : Nat) (c : AV), x.cells[j]? = some c → ∃ u, news[i * E.size + j]? = some u ∧ Rel w R φ c u := by
   intro i x hx
   rw [hysE, List.getElem?_map] at hx
   cases hq : (Lib.strCells str)[i]? with
   | none => rw [hq] at hx; cases hx
   | some q =>
    rw [hq] at hx
    cases hx
    refine ⟨by rw [hE1]; rfl, fun j c hj => ?_⟩
    cases j with
    | succ j => cases hj
    | zero =>
     cases hj
     refine ⟨q, by rw [hnewsE, hE1]; simpa using hq, .sc ?_⟩
     have := List.mem_of_getElem? hq
     simp only [Lib.strCells, List.mem_map] at this
     obtain ⟨bb, _, rfl⟩ := this
     rfl
  have hstrA : (str.data.map fun b => Value.int .u8 b.toNat) = news.toArray := by
   rw [hnewsE]
   apply Array.ext'
   simp [Lib.strCells]
  have hm0 : 0 < ys.length := List.length_pos_iff.2 hys
  have hone := news_oneCell hz hnl hc hnew
  have hkill : SRelX c φ R { s with m := (b, none) :: s.m } a w := hs.kill b
  have hdb : d ≠ b := by rintro rfl; rw [hb] at hd; cases hd
  have hd' : lk d ((b, none) :: s.m) = none := by rw [lk_cons_ne _ _ hdb]; exact hd
  have hfits : (n + ys.length) * i.bytes ≤ 140737488355328 := by rw [hby]; exact hbig
  have h63 : ((n + ys.length : Nat) : Int) ≤ 9223372036854775807 := by simp only [maxLen] at hlen; omega
  cases h1 with
  | arr0 hb0 =>
   rw [hb0] at hoh
   cases hoh
   simp only [BlkRel] at hrel
   have hrun := run_append_nil_string (P := P) w t u2 ty e i z (slice_und h hk) hu2 hi hzz str (by omega) (by have := h63; omega) (by simp at hfits; rw [hlenS] at hfits; omega)
   rw [← hlenS, hstrA] at hrun
   have hge := grownCap_ge w ys.length 0 e
   have hle := grownCap_le_maxLen w ys.length 0 e (by simpa using hlen)
   obtain ⟨n1, n2⟩ := hkill.newArr d ⟨hd', hd1⟩ (w' := w.drew.alloc (.cells (news.toArray ++ Builtin.zeroCells z.cells (grownCap w ys.length 0 e - ys.length)) e)) (T := e) (n := E.size) (cap := grownCap w ys.length 0 e) (C := news.toArray ++ Builtin.zeroCells z.cells (grownCap w ys.length 0 e - ys.length)) (xs := k.xs.take 0 ++ ys) ⟨w.drawn + 1, rfl⟩ hz (by
     rw [Array.size_append, size_zeroCells', hzs, List.size_toArray, hnl, ← Nat.add_mul]
     congr 1
     omega) (by simpa using hge) hle (fun i x hx => by
     simp only [List.take_zero, List.nil_append] at hx
     obtain ⟨q1, q2⟩ := hnew i x hx
     refine ⟨q1, fun j c' hj => ?_⟩
     obtain ⟨u, hu, hr⟩ := q2 j c' hj
     refine ⟨u, ?_, hr⟩
     rw [Array.getElem?_append_left (by simpa using (List.getElem?_eq_some_iff.1 hu).1)]
     simpa using hu)
   exact ⟨_, _, _, hrun, n1, by simpa using n2 ys.length hge⟩
  | @arr _ _ _ _ cap hm hbh hlc hcc =>
   rw [hbh] at hoh
   cases hoh
   simp only [Nat.zero_add, Nat.zero_mul] at hcc ⊢
   obtain ⟨r1, r2, r3, r4, C, r5, r6, r7⟩ := hrel
   have hez' : hm.esz = E.size := by rw [← r1, hez]
   rw [hez'] at r6 r7
   rw [hty] at r5
   subst hcc
   have hnC : n * E.size ≤ C.size := by rw [r6]; exact Nat.mul_le_mul_right _ hlc
   by_cases hroom : n + ys.length ≤ hm.cap
   ·have hfit : n * i.size + news.length ≤ C.size := by rw [hsz, hnl, r6, ← Nat.add_mul]; exact Nat.mul_le_mul_right _ hroom
    have hrun := Lib.run_append_room_string (P := P) w t u2 ty e i (slice_und h hk) hu2 hi (by rw [hsz]; exact hE1) hm.blk n hm.cap C r5 str (by omega) (by rw [hsz, hnl, hE1] at hfit; omega)
    have e3 : news.length = str.size := by rw [hnl, hE1]; omega
    rw [← hnewsE, ← hlenS] at hrun
    have e4 : n + ys.length = n * E.size + news.length := by rw [hE1, e3]; omega
    have e5 : n = n * E.size := by rw [hE1]; omega
    rw [show C.toList.take n = C.toList.take (n * E.size) by rw [← e5], show C.toList.drop (n + ys.length) = C.toList.drop (n * E.size + news.length) by rw [← e4]] at hrun
    rw [hsz] at hfit
    have hfit' : n * E.size + news.length ≤ C.toList.length := by simpa using hfit
    have hnR := hs.m.notR b k hm hb hbh
    have hw0 : ∀ q, R q → (w.setRow hm.blk (C.toList.take (n * E.size) ++ news ++ C.toList.drop (n * E.size + news.length)).toArray).heap[q]? = w.heap[q]? := fun q hq => setRow_other w hm.blk q _ (fun e => hnR (e ▸ hq))
    have hcont := app_content hn r7 hnew (C' := (C.toList.take (n * E.size) ++ news ++ C.toList.drop (n * E.size + news.length)).toArray) (fun q hq => by
      rw [seg_get _ _ _ hfit', if_neg (by omega), Array.getElem?_toList]) (fun q hq => by
      rw [seg_get _ _ _ hfit', if_pos (by omega), show n * E.size + q - n * E.size = q by omega])
    have hwr := hst.write (b := d) (k := ⟨e, E.size, k.xs.take n⟩) (k' := ⟨e, E.size, k.xs.take n ++ ys⟩) (x := hm) (by simp [lk_cons_self]) (by simp [Ph.up]) (C.toList.take (n * E.size) ++ news ++ C.toList.drop (n * E.size + news.length)).toArray
     ⟨hez'.symm, r2, by simp; omega, r4, _, setRow_heap w hm.blk C _ e _ r5, by rw [seg_size _ _ _ hfit', hez', ← r6]; simp, fun i x hx => by
      rw [hez']
      obtain ⟨q1, q2⟩ := hcont i x hx
      refine ⟨q1, fun j c' hj => ?_⟩
      obtain ⟨u, hu, hr⟩ := q2 j c' hj
      exact ⟨u, hu, hr.mono hw0 (fun _ h => h) (Ph.up_mono _ (by
       cases hq : φ d with
       | none => rfl
       | some y => obtain ⟨z, hz⟩ := hs.dom d y hq; rw [hd] at hz; cases hz))⟩⟩
    refine ⟨_, _, φ.up d (some hm), hrun, ⟨hwr.n, hwr.t, ?_, ?_, ?_, hwr.R0, hwr.Rn, hwr.Rb, hwr.ext, hwr.d, hwr.keep⟩, ?_⟩
    ·have hm' := hwr.m
     have eqv : ∀ q, lk q ((d, some (⟨e, E.size, k.xs.take n ++ ys⟩ : Blk)) :: (b, none) :: s.m) = lk q ((d, some (⟨e, E.size, k.xs.take n ++ ys⟩ : Blk)) :: (d, some (⟨e, E.size, k.xs.take n⟩ : Blk)) :: (b, none) :: s.m) := by
      intro q
      simp only [lk_cons]
      repeat' split
      all_goals rfl
     exact ⟨fun b1 k1 g1 => hm'.rel b1 k1 (by rw [← eqv]; exact g1), fun b1 b2 k1 k2 y1 y2 g1 g2 => hm'.inj b1 b2 k1 k2 y1 y2 (by rw [← eqv]; exact g1) (by rw [← eqv]; exact g2), fun b1 k1 y g1 => hm'.notR b1 k1 y (by rw [← eqv]; exact g1)⟩
    ·intro q y hy
     obtain ⟨r, hr⟩ := hwr.dom q y hy
     refine ⟨r, ?_⟩
     rw [← hr]
     simp only [lk_cons]
     repeat' split
     all_goals rfl
    ·intro q k1 y g1 e1
     refine hwr.fresh q k1 y ?_ e1
     rw [← g1]
     simp only [lk_cons]
     repeat' split
     all_goals rfl
    ·have := Rel.arr (w := w.setRow hm.blk (C.toList.take (n * E.size) ++ news ++ C.toList.drop (n * E.size + news.length)).toArray) (R := R) (φ := φ.up d (some hm)) (b := d) (off := 0) (len := n + ys.length) (cap := hm.cap) (h := hm) (by simp [Ph.up]) hroom (by simp)
     simpa using this
   ·have hol : (C.toList.take (n * E.size)).length = n * E.size := by simp; omega
    have hrun := Lib.run_append_grow_string (P := P) w t u2 ty e i z (slice_und h hk) hu2 hi hzz ⟨hm.blk, 0, none⟩ n hm.cap (C.toList.take (n * E.size)) (by rw [hol, hsz]) (fun j v hj => by
      rw [addr_add, Nat.zero_add, cell_of_row w _ _ C _ _ r5]
      rw [List.getElem?_take] at hj
      split at hj
      ·rw [Array.getElem?_toList] at hj; exact hj
      ·cases hj) str (by omega) (by rw [← hlenS]; exact h63) (by rw [← hlenS]; exact growslice_fits (by omega) hfits)
    rw [← hlenS, ← hnewsE] at hrun
    have hge := grownCap_ge w (n + ys.length) hm.cap e
    have hle := grownCap_le_maxLen w (n + ys.length) hm.cap e hlen
    obtain ⟨g1, g2⟩ := grow_row (C.toList.take (n * E.size)) news (Builtin.zeroCells z.cells (grownCap w (n + ys.length) hm.cap e - (n + ys.length)))
    rw [hol] at g1 g2
    have hcont := app_content hn r7 hnew (fun q hq => by
      rw [g1 q hq, List.getElem?_take, if_pos hq, Array.getElem?_toList]) g2
    obtain ⟨n1, n2⟩ := hkill.newArr d ⟨hd', hd1⟩ (w' := w.drew.alloc (.cells ((C.toList.take (n * E.size)).toArray ++ news.toArray ++ Builtin.zeroCells z.cells (grownCap w (n + ys.length) hm.cap e - (n + ys.length))) e)) (T := e) (n := E.size) (cap := grownCap w (n + ys.length) hm.cap e) (C := (C.toList.take (n * E.size)).toArray ++ news.toArray ++ Builtin.zeroCells z.cells (grownCap w (n + ys.length) hm.cap e - (n + ys.length))) (xs := k.xs.take n ++ ys) ⟨w.drawn + 1, rfl⟩ hz (by
      rw [Array.size_append, Array.size_append, size_zeroCells', hzs, List.size_toArray, List.size_toArray, hol, hnl, ← Nat.add_mul, ← Nat.add_mul]
      congr 1
      omega) (by simp; omega) hle hcont
    exact ⟨_, _, _, by simpa using hrun, n1, n2 _ hge⟩
theorem as_appendStr {t u2 e d b n : Nat} {x y : Operand} {D E D2 : TyD} {k : Blk} {str : ByteArray} (ho : o.op = bcall .append #[x, y] #[t, u2]) (h : tyOf P t = some D) (hk : D.k = .slice e) (hE : tyOf P e = some E) (hE1 : E.size = 1) (hD2 : tyOf P u2 = some D2) (hk2 : D2.k = .str)
  (hx : s.ev x = .arr b 0 n) (hb : lk b s.m = some (some k)) (hty : Nat.beq k.ty e = true) (hez : Nat.beq k.esz E.size = true) (hn : n ≤ k.xs.length) (hy : s.ev y = .sc (.string str)) (hbig : (n + str.size) * E.bytes ≤ 140737488355328) (hlen : n + str.size ≤ 9223372036854775807) :
  AStep P o s ⟨.arr d 0 (n + str.size), [(d, some ⟨e, E.size, k.xs.take n ++ (Lib.strCells str).map .sc⟩), (b, none)], [b], [d]⟩ := by
 obtain ⟨_, _, ud, _, _, hud, _, _, _, _, hk'⟩ := tyOf_facts hD2
 rw [hk2] at hk'
 have : ud = .string := by cases ud <;> simp [kindOf] at hk' <;> rfl
 subst this
 intro s' _ hop hacc hnw
 refine opok_run fun c φ R a w hs => ?_
 have h1 := hs.ev x
 rw [hop x (mem_bcall ho x (by simp)), hx] at h1
 have h2 := hs.ev y
 rw [hop y (mem_bcall ho y (by simp)), hy] at h2
 have h2 := h2.sc_inv
 have hb' : lk b s'.m = some (some k) := by rw [hacc b (by simp)]; exact hb
 have hl : ((Lib.strCells str).map AV.sc).length = str.size := by simp [Lib.strCells_length]
 obtain ⟨v, w', φ', hrun, hst, hv⟩ := append_coreS (ty := o.type) (ys := (Lib.strCells str).map .sc) hs h hk hE (by omega) hud hE1 rfl h1 hb' (Nat.eq_of_beq_eq_true hty) (Nat.eq_of_beq_eq_true hez) hn (by
  simp only [List.all_map, List.all_eq_true]
  intro q _
  rfl) (hnw d (by simp)) (by rw [hl]; exact hbig) (by rw [hl]; simp only [maxLen]; exact hlen)
 rw [hl] at hv
 exact ⟨v, w', φ', R, by simp [run_bcall ho, builtin, h2, hrun], SRelX.app hst o.dst hv⟩
theorem SRelX.hit {c : Ctx} {φ : Ph} {R : Nat → Prop} {s : St} {a : Act} {w w' : World} (h : SRelX c φ R s a w) {b : Nat} {k : Blk} {x : Home} (hb : lk b s.m = some (some k)) (hx : φ b = some (some x))
  (hos : w'.os = w.os) (htape : w'.tape = w.tape) (hout : w'.output = w.output) (hsz : w'.heap.size = w.heap.size) (hother : ∀ n, n ≠ x.blk → w'.heap[n]? = w.heap[n]?) : SRelX c φ R { s with m := (b, none) :: s.m } a w' := by
 have hnR := h.m.notR b k x hb hx
 have hw : ∀ n, R n → w'.heap[n]? = w.heap[n]? := fun n hn => hother n (fun e => hnR (e ▸ hn))
 have f : ∀ b1 k1, lk b1 ((b, none) :: s.m) = some (some k1) → b1 ≠ b ∧ lk b1 s.m = some (some k1) := by
  intro b1 k1 h1
  rw [lk_cons] at h1
  split at h1
  ·cases h1
  ·rename_i hne; exact ⟨hne, h1⟩
 refine ⟨h.n, fun t av ht => (h.t t av ht).mono hw (fun _ h => h) (fun _ _ h => h), ⟨?_, fun b1 b2 k1 k2 y1 y2 h1 h2 => h.m.inj b1 b2 k1 k2 y1 y2 (f _ _ h1).2 (f _ _ h2).2, fun b1 k1 y h1 => h.m.notR b1 k1 y (f _ _ h1).2⟩, ?_, fun b1 k1 y h1 => h.fresh b1 k1 y (f _ _ h1).2, h.R0, h.Rn, fun n hn => by rw [hsz]; exact h.Rb n hn, ?_, h.d, h.keep⟩
 ·intro b1 k1 h1
  obtain ⟨hne, h1⟩ := f b1 k1 h1
  obtain ⟨oh, ho, hr⟩ := h.m.rel b1 k1 h1
  refine ⟨oh, ho, hr.mono hw (fun y hy => hother _ (fun e => hne ?_)) (fun _ _ h => h)⟩
  subst hy
  exact h.m.inj b1 b k1 k y x h1 hb ho hx e
 ·intro b1 y hy
  obtain ⟨z, hz⟩ := h.dom b1 y hy
  rw [lk_cons]
  split
  ·exact ⟨_, rfl⟩
  ·exact ⟨z, hz⟩
 ·refine h.ext.trans (G' := fun i => i = x.blk) ⟨hos, htape, hout, by omega, fun i _ hi => hother i hi⟩ (fun i hi e => ?_)
  rcases h.fresh b k x hb hx with hf | hf
  ·omega
  ·rw [e]; exact hf
theorem as_refSame {op : BinOp} {t ty e b i off : Nat} {x y : Operand} {v : Bool} {E : TyD} (hop : (op = .eql ∧ v = true) ∨ (op = .neq ∧ v = false)) (ho : o.op = .binOp op t x y ty) (ht : P.underlying t = some (.pointer e)) (hE : tyOf P e = some E) (hx : s.ev x = .ref b i off) (hy : s.ev y = .ref b i off) : AStep P o s ⟨.sc (.bool v), [], [], []⟩ := by
 obtain ⟨j, _, _, hi, _⟩ := tyOf_facts hE
 intro s' _ hop' _ _
 refine opok_val fun c φ R a w hs => ?_
 have h1 := hs.ev x
 rw [hop' x (by simp [ho, Op.operands]), hx] at h1
 have h2 := hs.ev y
 rw [hop' y (by simp [ho, Op.operands]), hy] at h2
 generalize hq : a.eval x = q at h1
 generalize hr : a.eval y = r at h2
 cases h1 with
 | @ref _ _ _ _ hm hb =>
  cases h2 with
  | @ref _ _ _ _ hm2 hb2 =>
   rw [hb] at hb2
   cases hb2
   have heq : ∀ d : Nat, (Op.equalIn (d + 1) t (.pointer (some ⟨hm.blk, i * hm.esz + off, none⟩)) (.pointer (some ⟨hm.blk, i * hm.esz + off, none⟩))).run P w = .ok true w := fun d => by
    simp [Op.equalIn, run_underlying ht, sizeOf, typeInfo, hi, run_sameAddr_same]
   refine ⟨.bool v, ?_, .sc rfl⟩
   rcases hop with ⟨rfl, rfl⟩ | ⟨rfl, rfl⟩
   ·simp [execOp, ho, hq, hr, eqGuard, binOp, Op.equal, Op.maxDepth, heq 9999]
   ·simp [execOp, ho, hq, hr, eqGuard, binOp, Op.equal, Op.maxDepth, heq 9999]
theorem blk_shape {c : Ctx} {φ : Ph} {R : Nat → Prop} {s : St} {a : Act} {w : World} (hs : SRelX c φ R s a w) {b : Nat} {k : Blk} {x : Home} (hb : lk b s.m = some (some k)) (hx : φ b = some (some x)) : w.shape? x.blk = some (k.ty, x.cap * x.esz) ∧ k.esz = x.esz ∧ k.xs.length ≤ x.cap ∧ 0 < x.esz := by
 obtain ⟨oh, ho, hr⟩ := hs.m.rel b k hb
 rw [hx] at ho
 cases ho
 obtain ⟨h1, h2, h3, h4, C, h5, h6, _⟩ := hr
 refine ⟨?_, h1, h3, h2⟩
 simp [World.shape?, h5, h6]
theorem as_toUnsafe {src dst e b : Nat} {x : Operand} {E : TyD} {k : Blk} (ho : o.op = .convert src dst x) (hs1 : P.underlying src = some (.pointer e)) (hd1 : P.underlying dst = some .unsafePointer) (hE : tyOf P e = some E) (hE0 : E.size ≠ 0) (hx : s.ev x = .ref b 0 0) (hb : lk b s.m = some (some k)) (hk : k.xs ≠ []) :
  AStep P o s ⟨.ref b 0 0, [], [b], []⟩ := by
 obtain ⟨j, _, _, hi, _, _, hsz, _⟩ := tyOf_facts hE
 intro s' _ hop hacc _
 refine opok_val fun c φ R a w hs => ?_
 have h1 := hs.ev x
 rw [hop x (by simp [ho, Op.operands]), hx] at h1
 refine ⟨a.eval x, ?_, h1⟩
 generalize hq : a.eval x = q at h1
 cases h1 with
 | @ref _ _ _ _ hm hbh =>
  obtain ⟨g1, g2, g3, g4⟩ := blk_shape hs (by rw [hacc b (by simp)]; exact hb) hbh
  have hpos : 0 < k.xs.length := List.length_pos_iff.2 hk
  have := Lib.run_to_unsafe (P := P) w ⟨hm.blk, 0 * hm.esz + 0, none⟩ hs1 hd1 hi (by omega) g1 (by
   show 0 * hm.esz + 0 < _
   simp
   exact Nat.mul_pos (by omega) g4)
  simp only [Nat.zero_mul, Nat.add_zero] at hq this
  simp [execOp, ho, hq, this]
theorem liesAt_self {e : Nat} (count : Nat) (hc : 0 < count) (hz : 0 < P.cellsOf e) : liesAt P P.depth e count 0 e 1 = true := by
 have hd : P.depth = (2 * (P.types.size + Made.depth) + 1) + 1 := rfl
 rw [hd]
 simp only [liesAt, Bool.or_eq_true]
 left
 rw [hd]
 have h1 : 1 ≤ count := hc
 have h2 : P.cellsOf e ≠ 0 := by omega
 simp [rowAt, h1, h2, sameLayout]
theorem as_fromUnsafe {src dst e b : Nat} {x : Operand} {E : TyD} {k : Blk} (ho : o.op = .convert src dst x) (hs1 : P.underlying src = some .unsafePointer) (hd1 : P.underlying dst = some (.pointer e)) (hE : tyOf P e = some E) (hce : P.cellsOf e = E.size) (hx : s.ev x = .ref b 0 0) (hb : lk b s.m = some (some k)) (hk : k.xs ≠ []) (hty : k.ty = e) (hesz : k.esz = E.size) :
  AStep P o s ⟨.ref b 0 0, [], [b], []⟩ := by
 obtain ⟨j, _, _, hi, _, _, hsz, _⟩ := tyOf_facts hE
 intro s' _ hop hacc _
 refine opok_val fun c φ R a w hs => ?_
 have h1 := hs.ev x
 rw [hop x (by simp [ho, Op.operands]), hx] at h1
 refine ⟨a.eval x, ?_, h1⟩
 generalize hq : a.eval x = q at h1
 cases h1 with
 | @ref _ _ _ _ hm hbh =>
  obtain ⟨g1, g2, g3, g4⟩ := blk_shape hs (by rw [hacc b (by simp)]; exact hb) hbh
  have hpos : 0 < k.xs.length := List.length_pos_iff.2 hk
  rw [hty] at g1
  have := Lib.run_from_unsafe (P := P) w ⟨hm.blk, 0, none⟩ hs1 hd1 hi g1 (by
   show liesAt P P.depth e (hm.cap * hm.esz / P.cellsOf e) 0 e 1 = true
   rw [hce, ← hesz, g2, Nat.mul_div_cancel _ g4]
   exact liesAt_self _ (by omega) (by rw [hce, ← hesz, g2]; exact g4))
  simp only [Nat.zero_mul, Nat.add_zero] at hq
  simp [execOp, ho, hq, this]
theorem as_noEscape {f b i off : Nat} {fn : Func} {x : Operand} {tys : Array TypeId} (ho : o.op = fcall (.func f) #[x] tys) (hfn : P.funcs[f]? = some fn) (hname : (fn.name == "runtime.NumGoroutine") = false) (hbody : fn.body.isNone = true) (hnx : Extern.findNext fn = none) (hfd : Extern.find fn = some Extern.AbiNoEscape.same) (hx : s.ev x = .ref b i off) :
  AStep P o s ⟨.ref b i off, [], [], []⟩ := by
 intro s' _ hop _ _
 refine opok_val fun c φ R a w hs => ?_
 have h1 := hs.ev x
 rw [hop x (by simp [ho, fcall, Op.operands, Call.operands]), hx] at h1
 refine ⟨a.eval x, ?_, h1⟩
 have hname' : ¬ (fn.name = "runtime.NumGoroutine") := by simpa using hname
 have hbody' : fn.body = none := by simpa using hbody
 simp [execOp, ho, fcall, resolve, Act.eval, Deferred.ofValue, invoke, callFunc, hfn, hname', hbody', hnx, hfd, Lib.run_noEscape]
theorem as_sliceData {b n : Nat} {x : Operand} {tys : Array TypeId} {k : Blk} (ho : o.op = bcall .unsafeSliceData #[x] tys) (hx : s.ev x = .arr b 0 n) (hb : lk b s.m = some (some k)) (hn : n ≠ 0) : AStep P o s ⟨.ref b 0 0, [], [], []⟩ := by
 intro s' _ hop _ _
 refine opok_val fun c φ R a w hs => ?_
 have h1 := hs.ev x
 rw [hop x (mem_bcall ho x (by simp)), hx] at h1
 generalize hq : a.eval x = q at h1
 cases h1 with
 | arr0 hb0 => exact absurd rfl hn
 | @arr _ _ _ _ cap hm hbh hlc hcc =>
  refine ⟨.pointer (some ⟨hm.blk, 0 * hm.esz, none⟩), ?_, ?_⟩
  ·have := Lib.run_unsafeSliceData_row (P := P) w tys o.type ⟨hm.blk, 0 * hm.esz, none⟩ n cap (by omega)
   simp only [Nat.zero_mul] at hq this ⊢
   simp [run_bcall ho, builtin, hq, this]
  ·have := Rel.ref (w := w) (R := R) (φ := φ) (b := b) (i := 0) (off := 0) hbh
   simpa using this
def strO (ns : List Int) : Option ByteArray := bif !ns.isEmpty && ns.all (fun n => decide (0 ≤ n) && decide (n < 256)) then some (b2s ns) else none
theorem b2s_data (ns : List Int) : b2s ns = ⟨(ns.map fun n => UInt8.ofNat n.toNat).toArray⟩ := by
 have : ∀ (ns : List Int) (r : ByteArray), ns.foldl (fun r n => r.push (UInt8.ofNat n.toNat)) r = ⟨r.data ++ (ns.map fun n => UInt8.ofNat n.toNat).toArray⟩ := by
  intro ns
  induction ns with
  | nil => intro r; simp
  | cons n ns ih =>
   intro r
   rw [List.foldl_cons, ih]
   congr 1
   simp [ByteArray.push]
 rw [b2s, this]
 congr 1
 exact Array.empty_append
theorem as_unsafeString {b n pt it e : Nat} {x y : Operand} {k : Blk} {E : TyD} {ns : List Int} {u : ByteArray} (ho : o.op = bcall .unsafeString #[x, y] #[pt, it]) (hp : P.underlying pt = some (.pointer e)) (hE : tyOf P e = some E) (hce : P.cellsOf e = 1) (hx : s.ev x = .ref b 0 0) (hy : s.ev y = .sc (.int .i64 (n : Int))) (hb : lk b s.m = some (some k)) (hty : k.ty = e) (hesz : k.esz = 1) (hxs : k.xs = ns.map (fun n => .sc (.int .u8 n))) (hn : n = ns.length) (hu : strO ns = some u) (h63 : n ≤ 9223372036854775807) :
  AStep P o s ⟨.sc (.string u), [(b, none)], [b], []⟩ := by
 unfold strO at hu
 obtain ⟨hc, hu⟩ := of_grd hu
 have hu := of_some hu
 subst hu
 simp only [Bool.and_eq_true, Bool.not_eq_true', List.isEmpty_eq_false_iff, List.all_eq_true, decide_eq_true_eq] at hc
 obtain ⟨hne, hall⟩ := hc
 intro s' _ hop hacc _
 refine opok_run fun c φ R a w hs => ?_
 have h1 := hs.ev x
 rw [hop x (mem_bcall ho x (by simp)), hx] at h1
 have h2 := hs.ev y
 rw [hop y (mem_bcall ho y (by simp)), hy] at h2
 have h2 := h2.sc_inv
 have hb' : lk b s'.m = some (some k) := by rw [hacc b (by simp)]; exact hb
 generalize hq : a.eval x = q at h1
 cases h1 with
 | @ref _ _ _ _ hm hbh =>
  obtain ⟨g1, g2, g3, g4⟩ := blk_shape hs hb' hbh
  rw [hty, ← g2, hesz, Nat.mul_one] at g1
  obtain ⟨oh, ho', hrel⟩ := hs.m.rel b k hb'
  rw [hbh] at ho'
  cases ho'
  obtain ⟨_, _, _, _, C, hC, hCs, hel⟩ := hrel
  have hz1 : hm.esz = 1 := by rw [← g2]; exact hesz
  have hnl : ns.length ≤ hm.cap := by rw [hxs, List.length_map] at g3; exact g3
  have hrun := Lib.run_unsafeString_row (P := P) w pt it o.type e hp hce hm.blk hm.cap g1 (ns.map fun n => UInt8.ofNat n.toNat) (by simpa using hne) (by simpa using hnl) (by simp; omega) (by
   intro j v hj
   rw [List.getElem?_map] at hj
   cases hnj : ns[j]? with
   | none => rw [hnj] at hj; cases hj
   | some nj =>
    rw [hnj] at hj
    cases hj
    have hx' : k.xs[j]? = some (.sc (.int .u8 nj)) := by rw [hxs, List.getElem?_map, hnj]; rfl
    obtain ⟨_, hcell⟩ := hel j _ hx'
    obtain ⟨uu, huu, hru⟩ := hcell 0 (.sc (.int .u8 nj)) rfl
    rw [hz1] at huu
    simp only [Nat.mul_one, Nat.add_zero] at huu
    have hsc := hru.sc_inv
    subst hsc
    have hr := hall nj (List.mem_of_getElem? hnj)
    rw [addr_add, cell_of_row w _ _ C _ _ hC, Nat.zero_add, huu]
    congr 2
    have : (UInt8.ofNat nj.toNat).toNat = nj.toNat := by
     rw [UInt8.toNat_ofNat']
     omega
    rw [this]
    omega)
  simp only [List.length_map] at hrun
  refine ⟨.string (b2s ns), w.freeze ⟨hm.blk, 0, none⟩ ns.length, φ, R, ?_, ?_⟩
  ·simp only [Nat.zero_mul, Nat.add_zero] at hq
   rw [b2s_data]
   simp [run_bcall ho, builtin, hq, h2, hn, hrun]
  ·have hw := SRelX.hit (w' := w.freeze ⟨hm.blk, 0, none⟩ ns.length) hs hb' hbh (by unfold World.freeze; split <;> rfl) (by unfold World.freeze; split <;> rfl) (by unfold World.freeze; split <;> rfl) (by unfold World.freeze; split <;> simp) (by
    intro q hq
    unfold World.freeze
    split
    ·rfl
    ·simp only [Array.getElem?_modify]
     rw [if_neg (fun e => hq e.symm)])
   exact SRelX.app hw o.dst (.sc rfl)
end
section
variable {P : Program} {tt : TT} {n : Nat} {t : List (Nat × AV)} {m : Mem} {ops : Array Oper} {draw : Bool} {Q : St → Prop} {acc : List (Option Eff)} {l : List Oper}
def sbytes (s : ByteArray) : List Int := s.data.toList.map fun b => ((b.toNat : Nat) : Int)
theorem sbytes_length (s : ByteArray) : (sbytes s).length = s.size := by simp [sbytes]
theorem sbytes_cells (s : ByteArray) : (Lib.strCells s).map AV.sc = (sbytes s).map (fun n => AV.sc (.int .u8 n)) := by simp [Lib.strCells, sbytes]
theorem go_appStr {o : Oper} {ty ty2 e d b e' z' len : Nat} {t' : List (Nat × AV)} {m' : Mem} {x y : Operand} {D E D2 : TyD} (xs zs : List Int) (s : ByteArray) (hz0 : appO E.bytes xs (sbytes s) = some zs) (hl1 : len = xs.length) (ht : TTok P tt)
  (hg : gchk ops ⟨n, t, m⟩ o = some true) (ho : o.op = bcall .append #[x, y] #[ty, ty2]) (hD : lk ty tt = some D) (hk : D.k = .slice e) (hE : lk e tt = some E) (hz : Nat.beq E.size 1 = true) (hD2 : lk ty2 tt = some D2) (hk2 : D2.k = .str)
  (hx : (⟨n, t, m⟩ : St).ev x = .arr b 0 len) (hb : lk b m = some (some ⟨e', z', xs.map (fun n => .sc (.int .u8 n))⟩)) (hty : Nat.beq e' e = true) (hez : Nat.beq z' E.size = true)
  (hy : (⟨n, t, m⟩ : St).ev y = .sc (.string s))
  (hd : o.dst = some d) (hn : nwOK ⟨n, t, m⟩ [d] = true) (hp : putF n t (some d) (.arr d 0 zs.length) = some t') (hm : appF [(d, some ⟨e, E.size, zs.map (fun n => .sc (.int .u8 n))⟩), (b, none)] m = some m')
  (h : Go P ops draw Q l ⟨n, t', m'⟩ (some ⟨.arr d 0 zs.length, [(d, some ⟨e, E.size, zs.map (fun n => .sc (.int .u8 n))⟩), (b, none)], [b], [d]⟩ :: acc)) : Go P ops draw Q (o :: l) ⟨n, t, m⟩ acc := by
 subst hl1
 obtain ⟨rfl, h1, h2⟩ := appO_spec hz0
 rw [sbytes_length] at h1 h2
 have hA := as_appendStr (P := P) (o := o) (s := ⟨n, t, m⟩) (d := d) ho (ht _ _ hD) hk (ht _ _ hE) (Nat.eq_of_beq_eq_true hz) (ht _ _ hD2) hk2 hx hb hty hez (by simp) hy h1 h2
 have e1 : (xs ++ sbytes s).length = xs.length + s.size := by rw [List.length_append, sbytes_length]
 have e2 : ((xs ++ sbytes s).map fun n => AV.sc (.int .u8 n)) = (xs.map (fun n => AV.sc (.int .u8 n))).take xs.length ++ (Lib.strCells s).map .sc := by
  rw [List.map_append, sbytes_cells, take_map_len']
 rw [e1] at hp
 rw [e2] at hm
 rw [e1, e2] at h
 exact go_step hg hA hn (by rw [hd]; exact hp) hm h
end
end Go.Ab
