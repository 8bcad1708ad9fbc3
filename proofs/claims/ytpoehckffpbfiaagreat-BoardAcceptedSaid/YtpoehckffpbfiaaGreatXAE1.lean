/- E1: what functions of the program compute (written by mod.py). -/
import Derived.Test.YtpoehckffpbfiaaGreatXAD1
import Derived.KernelRfl
namespace Go.Proofs.YtpoehckffpbfiaaGreat
open Go Go.Ab
set_option linter.unusedSimpArgs false
set_option linter.unusedVariables false
set_option linter.unusedSectionVars false
set_option maxRecDepth 20000
set_option maxHeartbeats 1000000
noncomputable def r20_from_g (n : Int) (low : Int) (high : Int) : Bool :=
 (bif (decide (low ≤ n)) then (decide (n ≤ high)) else false)
theorem from_dec (n low high : Int) : r20_from_g n low high = (decide (low ≤ n) && decide (n ≤ high)) := by
 unfold r20_from_g
 cases decide (low ≤ n) <;> rfl
def ov (a b : Sp) : Prop := max a.a b.a < min a.b b.b
instance (a b : Sp) : Decidable (ov a b) := by unfold ov; infer_instance
theorem meet_nonempty (a b : Sp) : decide ((r03_Meet_g a b).b ≤ (r03_Meet_g a b).a) = !decide (ov a b) := by
 unfold r03_Meet_g ov
 by_cases h : min a.b b.b ≤ max a.a b.a
 ·rw [decide_eq_true h, cond_true, decide_eq_false (p := max a.a b.a < min a.b b.b) (by omega)]
  rfl
 ·rw [decide_eq_false h, cond_false, decide_eq_true (p := max a.a b.a < min a.b b.b) (by omega)]
  exact decide_eq_false h
def wtch (b : Bx) (d : Df) : Bool := decide (ov d.b.x b.x) && (decide (ov d.b.y b.y) && decide (ov d.b.z b.z))
theorem wtch_eq (d : Df) (b : Bx) : r13_Touches_g d b = wtch b d := by
 unfold r13_Touches_g r13_Meet_g r13_Empty_g wtch
 simp only [letB_eq, meet_nonempty]
 cases decide (ov d.b.x b.x) <;> cases decide (ov d.b.y b.y) <;> cases decide (ov d.b.z b.z) <;> rfl
def bad3 (b : Bx) (d : Df) : Bool := d.k == 3 && wtch b d
def vf (b : Bx) (fine : Int) (n : Int) (d : Df) : Int := if wtch b d = true then n - fine else n
theorem price_total {p : TProduct} (hl : p.Lengths.length ≤ 1000) (n : Int) : ∃ pr : Int × Bool, r19_Price_g p n = some pr ∧ (pr.2 = false → pr.1 = 0) ∧ (pr.2 = true → ∃ (j : Nat) (h1 : j < p.Lengths.length) (h2 : j < p.Prices.length), p.Lengths[j] = n ∧ p.Prices[j] = pr.1) := by
 unfold r19_Price_g
 obtain ⟨y, hy, hG⟩ := loopO_inv (step := fun q : Int => r19_Price_s1 p n q) (fun q => ∃ k : Nat, k ≤ p.Lengths.length ∧ q = (k : Int)) (fun q => p.Lengths.length - q.toNat) (fun y => y = .inr () ∨ y = .inl (0, false) ∨ ∃ (j : Nat) (h1 : j < p.Lengths.length) (h2 : j < p.Prices.length), p.Lengths[j] = n ∧ y = .inl (p.Prices[j], true)) (by
  rintro q ⟨k, hk, rfl⟩
  unfold r19_Price_s1
  rcases Nat.lt_or_ge k p.Lengths.length with hlt | hge
  ·rw [lt_nat hlt, cond_true, getI_at hlt, bind_some', W64_succ (by omega)]
   by_cases h1 : p.Lengths[k] = n
   ·rw [show (p.Lengths[k] == n) = true by simp [h1], cond_true]
    by_cases h2 : p.Prices.length ≤ k
    ·rw [decide_eq_true (by omega)]
     exact .inr ⟨_, rfl, .inr (.inl rfl)⟩
    ·rw [decide_eq_false (by omega), cond_false, getI_at (by omega), bind_some']
     exact .inr ⟨_, rfl, .inr (.inr ⟨k, hlt, by omega, h1, rfl⟩)⟩
   ·rw [show (p.Lengths[k] == n) = false by simp [h1]]
    exact .inl ⟨_, rfl, ⟨k + 1, by omega, rfl⟩, by omega⟩
  ·have : k = p.Lengths.length := by omega
   subst this
   rw [nlt_nat]
   exact .inr ⟨_, rfl, .inl rfl⟩) 0 ⟨0, by omega, rfl⟩
 rw [hy, bind_some']
 rcases hG with rfl | rfl | ⟨j, h1, h2, h3, rfl⟩
 ·exact ⟨(0, false), rfl, fun _ => rfl, fun h => by simp at h⟩
 ·exact ⟨(0, false), rfl, fun _ => rfl, fun h => by simp at h⟩
 ·exact ⟨(p.Prices[j], true), rfl, fun h => by simp at h, fun _ => ⟨j, h1, h2, h3, rfl⟩⟩
def vsum (d : List Df) (b : Bx) (fine pr : Int) : Int := d.foldl (vf b fine) pr
noncomputable def prc (p : TProduct) (n : Int) : Int × Bool := (r19_Price_g p n).getD (0, false)
theorem prc_eq {p : TProduct} (hl : p.Lengths.length ≤ 1000) (n : Int) : r19_Price_g p n = some (prc p n) := by
 obtain ⟨pr, h, _⟩ := price_total hl n
 unfold prc
 rw [h]
 rfl
theorem prc_bd {p : TProduct} (hp : ProdOk p) (n : Int) : 0 ≤ (prc p n).1 ∧ (prc p n).1 ≤ 1000000 := by
 obtain ⟨pr, h, h1, h2⟩ := price_total (p := p) (by have := hp.l; omega) n
 unfold prc
 rw [h]
 show 0 ≤ pr.1 ∧ pr.1 ≤ 1000000
 cases hb : pr.2 with
 | false =>
  rw [h1 hb]
  omega
 | true =>
  obtain ⟨j, _, h4, _, h5⟩ := h2 hb
  rw [← h5]
  exact hp.c j h4
noncomputable def gok (p : TProduct) (X Y : Sp) : Bool := ((W64 (X.b - X.a)) == (r19_Green_g p).1 && (W64 (Y.b - Y.a)) == (r19_Green_g p).2) || ((W64 (X.b - X.a)) == (r19_Green_g p).2 && (W64 (Y.b - Y.a)) == (r19_Green_g p).1)
noncomputable def acc (l : List TSlice) (d : List Df) (p : TProduct) (b : Bx) : Bool := r20_across_g b.x && (r20_across_g b.y && (wthin b.z (slen l) && ((prc p (W64 (b.z.b - b.z.a))).2 && (gok p b.x b.y && (!d.any (bad3 b) && decide (wn b.x b.y b.z l 0 0 ≤ p.Wane))))))
noncomputable def val (d : List Df) (p : TProduct) (b : Bx) (fine : Int) : Int := max 0 (vsum d b fine (prc p (W64 (b.z.b - b.z.a))).1)
structure Valid (l : List TSlice) (d : List Df) (p : TProduct) : Prop where
 sol : SolOk l
 lc : r11_Check_g l = some 0
 dl : d.length ≤ 64
 prod : ProdOk p
noncomputable def fl (b : Bx) (acc : List Df) (e : Df) : List Df := if wtch b e = true then acc ++ [e] else acc
theorem fl_fold (b : Bx) : ∀ (d acc : List Df), d.foldl (fl b) acc = acc ++ d.filter (wtch b)
 | [], acc => by simp
 | e :: d, acc => by
  rw [List.foldl_cons, fl_fold b d]
  unfold fl
  cases h : wtch b e with
  | true => simp [h]
  | false => simp [h]
theorem wtch_sub {X Y z : Sp} {n : Int} (h : 0 ≤ z.a ∧ z.a < z.b ∧ z.b ≤ n) {e : Df} (ht : wtch ⟨X, Y, z⟩ e = true) : wtch ⟨X, Y, ⟨0, n⟩⟩ e = true := by
 unfold wtch at ht ⊢
 simp only [Bool.and_eq_true, decide_eq_true_eq] at ht ⊢
 refine ⟨ht.1, ht.2.1, ?_⟩
 have := ht.2.2
 unfold ov at this ⊢
 dsimp only at this ⊢
 omega
theorem any_sub {X Y z : Sp} {n : Int} (h : 0 ≤ z.a ∧ z.a < z.b ∧ z.b ≤ n) : ∀ (d : List Df), (d.filter (wtch ⟨X, Y, ⟨0, n⟩⟩)).any (bad3 ⟨X, Y, z⟩) = d.any (bad3 ⟨X, Y, z⟩)
 | [] => rfl
 | e :: d => by
  rw [List.any_cons]
  cases hB : wtch ⟨X, Y, ⟨0, n⟩⟩ e with
  | true => rw [List.filter_cons_of_pos hB, List.any_cons, any_sub h d]
  | false =>
   rw [List.filter_cons_of_neg (by simp [hB]), any_sub h d]
   have : bad3 ⟨X, Y, z⟩ e = false := by
    unfold bad3
    cases ht : wtch ⟨X, Y, z⟩ e with
    | false => simp
    | true =>
     rw [wtch_sub h ht] at hB
     exact absurd hB (by simp)
   rw [this]
   rfl
theorem vsum_sub {X Y z : Sp} {n : Int} (h : 0 ≤ z.a ∧ z.a < z.b ∧ z.b ≤ n) (fine : Int) : ∀ (d : List Df) (pr : Int), vsum (d.filter (wtch ⟨X, Y, ⟨0, n⟩⟩)) ⟨X, Y, z⟩ fine pr = vsum d ⟨X, Y, z⟩ fine pr
 | [], pr => rfl
 | e :: d, pr => by
  have ih := fun q => vsum_sub h fine d q (X := X) (Y := Y)
  unfold vsum at ih ⊢
  rw [List.foldl_cons]
  cases hB : wtch ⟨X, Y, ⟨0, n⟩⟩ e with
  | true => rw [List.filter_cons_of_pos hB, List.foldl_cons, ih]
  | false =>
   rw [List.filter_cons_of_neg (by simp [hB]), ih]
   have : vf ⟨X, Y, z⟩ fine pr e = pr := by
    unfold vf
    cases ht : wtch ⟨X, Y, z⟩ e with
    | false => simp
    | true =>
     rw [wtch_sub h ht] at hB
     exact absurd hB (by simp)
   rw [this]
noncomputable def view (l : List TSlice) (d : List Df) (p : TProduct) (vr : TRect) : Tworth_view := ⟨p, vr, slen l, zns vr.X vr.Y l 0, d.filter (wtch ⟨vr.X, vr.Y, ⟨0, slen l⟩⟩)⟩
theorem view_worth {l : List TSlice} {d : List Df} {p : TProduct} (hv : Valid l d p) {vr : TRect} (hx : r20_across_g vr.X = true) (hy : r20_across_g vr.Y = true) (hg : gok p vr.X vr.Y = true) (z : Sp) {fine : Int} (hf : 0 ≤ fine ∧ fine ≤ 1000000) : worth_view__worth_g (view l d p vr) z fine = some (bif acc l d p ⟨vr.X, vr.Y, z⟩ then (val d p ⟨vr.X, vr.Y, z⟩ fine, true) else (0, false)) := by
 have hd := hv.dl
 have hpl := hv.prod.l
 unfold worth_view__worth_g acc
 dsimp only
 rw [hx, hy, hg, isWithin_eq, show (view l d p vr).length = slen l from rfl, show (view l d p vr).product = p from rfl, show (view l d p vr).zones = zns vr.X vr.Y l 0 from rfl]
 cases hz : wthin z (slen l) with
 | false => rfl
 | true =>
  have hzz := wthin_t hz
  rw [show (!true) = false from rfl, cond_false, price_eq, prc_eq (by omega), bind_some']
  have e2 := worst_eq (l := zns vr.X vr.Y l 0) (by rw [zns_len]; have := hv.sol.len; omega) z
  rw [wz_fold] at e2
  rw [e2]
  have hpb := prc_bd hv.prod (W64 (z.b - z.a))
  cases hp2 : (prc p (W64 (z.b - z.a))).2 with
  | false => rfl
  | true =>
   rw [show (!true) = false from rfl, cond_false, bind_some', letB_eq, show worth_view__box_g (view l d p vr) z = ⟨vr.X, vr.Y, z⟩ from rfl]
   by_cases hw : p.Wane < wn vr.X vr.Y z l 0 0
   ·rw [decide_eq_true hw, decide_eq_false (p := wn _ _ _ _ _ _ ≤ _) (by omega)]
    simp
   ·rw [decide_eq_false hw, decide_eq_true (p := wn _ _ _ _ _ _ ≤ _) (by omega), cond_false]
    have hfl : (d.filter (wtch ⟨vr.X, vr.Y, ⟨0, slen l⟩⟩)).length ≤ d.length := List.length_filter_le ..
    have hloop := loopO_foldX (step := fun q : Int × Int => worth_view__worth_s1 (view l d p vr) fine ⟨vr.X, vr.Y, z⟩ q.1 q.2) (d.filter (wtch ⟨vr.X, vr.Y, ⟨0, slen l⟩⟩)) (bad3 ⟨vr.X, vr.Y, z⟩) (vf ⟨vr.X, vr.Y, z⟩ fine) (prc p (W64 (z.b - z.a))).1 (fun n j => (n, (j : Int))) (.inl (0, false)) (fun n => .inr n) (fun j n => -1000000 * (j : Int) ≤ n ∧ n ≤ 1000000) (by omega) (fun j n hj _ hn => by
     unfold vf
     split <;> omega) (fun n j hj hn hbad => by
     unfold bad3 at hbad
     unfold worth_view__worth_s1 vf
     rw [show (view l d p vr).defects = d.filter (wtch ⟨vr.X, vr.Y, ⟨0, slen l⟩⟩) from rfl]
     dsimp only
     rw [lt_nat hj, cond_true, getI_at hj, bind_some', touches_eq, wtch_eq, W64_succ (by omega)]
     cases ht : wtch ⟨vr.X, vr.Y, z⟩ (d.filter (wtch ⟨vr.X, vr.Y, ⟨0, slen l⟩⟩))[j] with
     | true =>
      rw [ht, Bool.and_true] at hbad
      rw [hbad, W64_eq (by omega) (by omega), if_pos rfl]
      rfl
     | false =>
      rw [if_neg (by simp)]
      rfl) (fun n j hj hn hbad => by
     unfold bad3 at hbad
     rw [Bool.and_eq_true] at hbad
     unfold worth_view__worth_s1
     rw [show (view l d p vr).defects = d.filter (wtch ⟨vr.X, vr.Y, ⟨0, slen l⟩⟩) from rfl]
     dsimp only
     rw [lt_nat hj, cond_true, getI_at hj, bind_some', touches_eq, wtch_eq, hbad.1, hbad.2]
     rfl) (fun n _ => by
     unfold worth_view__worth_s1
     rw [show (view l d p vr).defects = d.filter (wtch ⟨vr.X, vr.Y, ⟨0, slen l⟩⟩) from rfl]
     dsimp only
     rw [nlt_nat]
     rfl)
    rw [show ((prc p (W64 (z.b - z.a))).1, ((0 : Nat) : Int)) = ((prc p (W64 (z.b - z.a))).1, (0 : Int)) from rfl] at hloop
    rw [hloop, bind_some', any_sub hzz]
    have hvs := vsum_sub hzz fine d (prc p (W64 (z.b - z.a))).1 (X := vr.X) (Y := vr.Y)
    unfold vsum at hvs
    rw [hvs]
    cases d.any (bad3 ⟨vr.X, vr.Y, z⟩) with
    | true => rfl
    | false =>
     show some (max _ 0, true) = some (val d p ⟨vr.X, vr.Y, z⟩ fine, true)
     unfold val vsum
     rw [Int.max_comm]
noncomputable def dgood (e : Df) : Bool := !(bif decide (e.k < 1) then true else decide (6 < e.k)) && (!(r13_Empty_g e.b) && r13_Ranged_g e.b)
theorem defect_total (d : List Df) : ∃ c, r13_Check_g d = some c ∧ (c = 0 ↔ d.length ≤ 64 ∧ ∀ e ∈ d, dgood e = true) := by
 unfold r13_Check_g
 by_cases h1 : 64 < d.length
 ·rw [decide_eq_true (by omega)]
  exact ⟨4, rfl, by omega⟩
 ·rw [decide_eq_false (by omega), cond_false]
  obtain ⟨y, hy, hG⟩ := loopO_inv (step := fun q : Int => r13_Check_s1 d q) (fun q => ∃ k : Nat, k ≤ d.length ∧ q = (k : Int) ∧ ∀ (j : Nat) (hj : j < d.length), j < k → dgood d[j] = true) (fun q => d.length - q.toNat) (fun y => (∃ c, y = .inl c ∧ c ≠ 0 ∧ ∃ e ∈ d, dgood e = false) ∨ (y = .inr () ∧ ∀ e ∈ d, dgood e = true)) (by
   rintro q ⟨k, hk, rfl, ha⟩
   unfold r13_Check_s1
   rcases Nat.lt_or_ge k d.length with hlt | hge
   ·rw [lt_nat hlt, cond_true, getI_at hlt]
    simp only [bind_some']
    have hmem := List.getElem_mem hlt
    have hg : dgood d[k] = (!(bif decide (d[k].k < 1) then true else decide (6 < d[k].k)) && (!(r13_Empty_g d[k].b) && r13_Ranged_g d[k].b)) := rfl
    have hv : (bif decide (d[k].k < 1) then some true else some (decide (6 < d[k].k))) = some (bif decide (d[k].k < 1) then true else decide (6 < d[k].k)) := by
     cases decide (d[k].k < 1) <;> rfl
    rw [hv, bind_some', W64_succ (by omega)]
    cases hA : (bif decide (d[k].k < 1) then true else decide (6 < d[k].k)) with
    | true =>
     rw [hA] at hg
     exact .inr ⟨_, rfl, .inl ⟨_, rfl, by omega, _, hmem, hg⟩⟩
    | false =>
     rw [hA] at hg
     cases hB : r13_Empty_g d[k].b with
     | true =>
      rw [hB] at hg
      exact .inr ⟨_, rfl, .inl ⟨_, rfl, by omega, _, hmem, hg⟩⟩
     | false =>
      rw [hB] at hg
      cases hC : r13_Ranged_g d[k].b with
      | false =>
       rw [hC] at hg
       exact .inr ⟨_, rfl, .inl ⟨_, rfl, by omega, _, hmem, hg⟩⟩
      | true =>
       rw [hC] at hg
       refine .inl ⟨_, rfl, ⟨k + 1, by omega, rfl, fun j hj hjk => ?_⟩, by omega⟩
       rcases Nat.lt_or_ge j k with h5 | h5
       ·exact ha j hj h5
       ·have : j = k := by omega
        subst this
        exact hg
   ·have : k = d.length := by omega
    subst this
    rw [nlt_nat]
    refine .inr ⟨_, rfl, .inr ⟨rfl, fun e he => ?_⟩⟩
    obtain ⟨j, hj, rfl⟩ := List.getElem_of_mem he
    exact ha j hj hj) 0 ⟨0, by omega, rfl, fun j _ h => by omega⟩
  rw [hy, bind_some']
  rcases hG with ⟨c, rfl, hc, e, he, hb⟩ | ⟨rfl, hok⟩
  ·refine ⟨c, rfl, fun h => absurd h hc, fun h => ?_⟩
   rw [h.2 e he] at hb
   exact absurd hb (by simp)
  ·exact ⟨0, rfl, fun _ => ⟨by omega, hok⟩, fun _ => rfl⟩
noncomputable def vld (l : List TSlice) (d : List Df) (p : TProduct) : Bool := (r11_Check_g l == some 0) && ((r13_Check_g d == some 0) && (r19_Check_g [p] == some 0))
theorem vld_t {l : List TSlice} (hl : LowOk l) {d : List Df} {p : TProduct} (h : vld l d p = true) : Valid l d p := by
 unfold vld at h
 simp only [Bool.and_eq_true, beq_iff_eq] at h
 obtain ⟨h1, h2, h3⟩ := h
 obtain ⟨c1, e1, ok1⟩ := solid_total l hl
 obtain ⟨c2, e2, ok2⟩ := defect_total d
 obtain ⟨c3, _, e3, ok3⟩ := prod_both p
 rw [h1] at e1
 rw [h2] at e2
 rw [h3] at e3
 cases e1
 cases e2
 cases e3
 exact ⟨ok1 rfl, h1, (ok2.1 rfl).1, ok3 rfl⟩
def zv : Tworth_view := ⟨⟨⟨#[]⟩, 0, 0, 0, 0, [], []⟩, ⟨⟨0, 0⟩, ⟨0, 0⟩⟩, 0, [], []⟩
theorem look_eq {l : List TSlice} (hl : LowOk l) (d : List Df) (p : TProduct) (vr : TRect) : worth_look_g l d p vr = some (bif vld l d p && (r20_across_g vr.X && (r20_across_g vr.Y && gok p vr.X vr.Y)) then (view l d p vr, true) else (zv, false)) := by
 obtain ⟨c1, e1, ok1⟩ := solid_total l hl
 obtain ⟨c2, e2, ok2⟩ := defect_total d
 obtain ⟨c3, e4, e3, ok3⟩ := prod_both p
 unfold worth_look_g
 have hvd : vld l d p = ((c1 == 0) && ((c2 == 0) && (c3 == 0))) := by
  unfold vld
  rw [e1, e2, e3]
  rfl
 rw [solid_check_eq, e1, bind_some', defect_check_eq, e2, bind_some', e4, bind_some', isRect_eq, bind_some', letB_eq, green_eq, hvd]
 by_cases h1 : c1 = 0
 ·by_cases h2 : c2 = 0
  ·by_cases h3 : c3 = 0
   ·subst h1
    subst h2
    subst h3
    have hv : Valid l d p := ⟨ok1 rfl, e1, (ok2.1 rfl).1, ok3 rfl⟩
    have hdl := hv.dl
    rw [show ((0 : Int) != 0) = false from rfl, cond_false, cond_false, cond_false, show ((0 : Int) == 0) = true from rfl]
    cases hx : r20_across_g vr.X with
    | false => rfl
    | true =>
     cases hy : r20_across_g vr.Y with
     | false => rfl
     | true =>
      have hr : RectOk vr.X vr.Y := ⟨across_t hx, across_t hy⟩
      rw [show (!(true && true)) = false from rfl, cond_false]
      have hm : ((bif (!((W64 (vr.X.b - vr.X.a)) == (r19_Green_g p).1 && ((W64 (vr.Y.b - vr.Y.a)) == (r19_Green_g p).2 && true))) then (bif (!((W64 (vr.X.b - vr.X.a)) == (r19_Green_g p).2 && ((W64 (vr.Y.b - vr.Y.a)) == (r19_Green_g p).1 && true))) then some (Sum.inl ((⟨(⟨(⟨#[]⟩ : ByteArray), 0, 0, 0, 0, [], []⟩ : TProduct), (⟨(⟨0, 0⟩ : Sp), (⟨0, 0⟩ : Sp)⟩ : TRect), 0, [], []⟩ : Tworth_view), false)) else some (Sum.inr ())) else some (Sum.inr ())) : Option ((Tworth_view × Bool) ⊕ Unit)) = some (bif gok p vr.X vr.Y then .inr () else .inl (zv, false)) := by
       unfold gok
       cases (W64 (vr.X.b - vr.X.a)) == (r19_Green_g p).1 <;> cases (W64 (vr.Y.b - vr.Y.a)) == (r19_Green_g p).2 <;> cases (W64 (vr.X.b - vr.X.a)) == (r19_Green_g p).2 <;> cases (W64 (vr.Y.b - vr.Y.a)) == (r19_Green_g p).1 <;> rfl
      rw [hm, bind_some']
      cases hg : gok p vr.X vr.Y with
      | false => rfl
      | true =>
       rw [cond_true, Sum.elim_inr, solid_length_eq, length_eq hv.sol e1, bind_some', lacks_eq hv.sol hr, bind_some', letB_eq, show worth_view__box_g (⟨p, vr, slen l, zns vr.X vr.Y l 0, []⟩ : Tworth_view) (⟨0, slen l⟩ : Sp) = ⟨vr.X, vr.Y, ⟨0, slen l⟩⟩ from rfl]
       have hloop := loopO_foldI (step := fun q : Int × ByteArray × Int × Int × Int × Int × (List Int) × (List Int) × Int × Int × Int × Int × Int × (List Tworth_zone) × (List Df) => worth_look_s1 d ⟨vr.X, vr.Y, ⟨0, slen l⟩⟩ q.1 q.2.1 q.2.2.1 q.2.2.2.1 q.2.2.2.2.1 q.2.2.2.2.2.1 q.2.2.2.2.2.2.1 q.2.2.2.2.2.2.2.1 q.2.2.2.2.2.2.2.2.1 q.2.2.2.2.2.2.2.2.2.1 q.2.2.2.2.2.2.2.2.2.2.1 q.2.2.2.2.2.2.2.2.2.2.2.1 q.2.2.2.2.2.2.2.2.2.2.2.2.1 q.2.2.2.2.2.2.2.2.2.2.2.2.2.1 q.2.2.2.2.2.2.2.2.2.2.2.2.2.2) d (fl ⟨vr.X, vr.Y, ⟨0, slen l⟩⟩) [] (fun a j => ((j : Int), p.Name, p.Thick, p.Width, p.Allow, p.Wane, p.Lengths, p.Prices, vr.X.a, vr.X.b, vr.Y.a, vr.Y.b, slen l, zns vr.X vr.Y l 0, a)) (fun a => (p.Name, p.Thick, p.Width, p.Allow, p.Wane, p.Lengths, p.Prices, vr.X.a, vr.X.b, vr.Y.a, vr.Y.b, slen l, zns vr.X vr.Y l 0, a)) (fun j a => a.length ≤ j) (by simp) (fun j a hj ha => by
        unfold fl
        split
        ·simp; omega
        ·omega) (fun a j hj ha => by
        unfold worth_look_s1 fl
        dsimp only
        rw [lt_nat hj, cond_true, getI_at hj, bind_some', touches_eq, wtch_eq, W64_succ (by omega)]
        cases wtch ⟨vr.X, vr.Y, ⟨0, slen l⟩⟩ d[j] with
        | true =>
         rw [cond_true, appO_eq (by simp; omega) (by simp; omega), bind_some', if_pos rfl]
        | false => rw [cond_false, if_neg (by simp)]) (fun a _ => by
        unfold worth_look_s1
        dsimp only
        rw [nlt_nat]
        rfl)
       rw [fl_fold, List.nil_append] at hloop
       rw [show ((0 : Nat) : Int) = 0 from rfl] at hloop
       rw [hloop, bind_some']
       rfl
   ·rw [ne_t h3, show (c3 == 0) = false by simp [h3], Bool.and_false, Bool.and_false]
    subst h1
    subst h2
    rfl
  ·rw [ne_t h2, show (c2 == 0) = false by simp [h2], Bool.false_and, Bool.and_false]
   subst h1
   rfl
 ·rw [ne_t h1, show (c1 == 0) = false by simp [h1]]
  rfl
theorem isFine_eq (n : Int) : worth_isFine_g n = r20_from_g n 0 1000000 := rfl
theorem from_t {n low high : Int} (h : r20_from_g n low high = true) : low ≤ n ∧ n ≤ high := by
 rw [from_dec, Bool.and_eq_true, decide_eq_true_eq, decide_eq_true_eq] at h
 exact h
noncomputable def wo (l : List TSlice) (d : List Df) (p : TProduct) (b : Bx) (fine : Int) : Int × Bool := bif r20_from_g fine 0 1000000 && (vld l d p && acc l d p b) then (val d p b fine, true) else (0, false)
theorem acc_f {l : List TSlice} {d : List Df} {p : TProduct} {b : Bx} (h : (r20_across_g b.x && (r20_across_g b.y && gok p b.x b.y)) = false) : acc l d p b = false := by
 unfold acc
 cases hx : r20_across_g b.x with
 | false => rfl
 | true =>
  cases hy : r20_across_g b.y with
  | false => rfl
  | true =>
   rw [hx, hy] at h
   have hg : gok p b.x b.y = false := h
   rw [hg]
   cases wthin b.z (slen l) <;> cases (prc p (W64 (b.z.b - b.z.a))).2 <;> rfl
theorem worth_eq {l : List TSlice} (hl : LowOk l) (d : List Df) (p : TProduct) (b : Bx) (fine : Int) : worth_Worth_g l d p b fine = some (wo l d p b fine) := by
 unfold worth_Worth_g wo
 rw [isFine_eq, look_eq hl]
 cases hf : r20_from_g fine 0 1000000 with
 | false => rfl
 | true =>
  rw [show (!true) = false from rfl, cond_false, bind_some']
  cases hv : vld l d p with
  | false => rfl
  | true =>
   cases hs : (r20_across_g b.x && (r20_across_g b.y && gok p b.x b.y)) with
   | false =>
    rw [acc_f hs]
    rfl
   | true =>
    have hs' := hs
    rw [Bool.and_eq_true, Bool.and_eq_true] at hs'
    show Option.bind (worth_view__worth_g (view l d p ⟨b.x, b.y⟩) b.z fine) _ = _
    rw [view_worth (vld_t hl hv) (vr := ⟨b.x, b.y⟩) hs'.1 hs'.2.1 hs'.2.2 b.z (from_t hf)]
    show some (bif acc l d p b then (val d p b fine, true) else (0, false)) = _
    cases acc l d p b <;> rfl
theorem worth_Accept_eq {l : List TSlice} (hl : LowOk l) (d : List Df) (p : TProduct) (b : Bx) : worth_Accept_g l d p b = some (vld l d p && acc l d p b) := by
 unfold worth_Accept_g
 rw [worth_eq hl, bind_some']
 unfold wo
 rw [show r20_from_g 0 0 1000000 = true from rfl]
 cases (vld l d p && acc l d p b) <;> rfl
end Go.Proofs.YtpoehckffpbfiaaGreat
