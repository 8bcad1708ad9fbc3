/- P3: what functions of the program compute (written by mod.py). -/
import Derived.Test.YtbgoflekklfdjaaP1
import Derived.KernelRfl
namespace Go.Proofs.Ytbgoflekklfdjaa
open Go Go.Ab
set_option linter.unusedSimpArgs false
set_option linter.unusedVariables false
set_option maxRecDepth 20000

/-! Clip, Turn and Same -/
theorem d_meet_eq (p q : Bx) : defect_meet_g p q = (mbox p q, touchB p q) := by
  unfold defect_meet_g
  simp only [letB, span_meet_eq, defect_isEmpty_g]
  have e : ∀ s : Sp, decide (s.b ≤ s.a) = emS s := fun _ => rfl
  simp only [e]
  unfold mbox touchB emB bmeet zeroB
  dsimp only
  cases emS (meet p.x q.x) <;> cases emS (meet p.y q.y) <;> cases emS (meet p.z q.z) <;> rfl
theorem d_touches_eq (d : Df) (b : Bx) : defect_Touches_g d b = touchB d.b b := by
  unfold defect_Touches_g
  rw [d_meet_eq]
  rfl
theorem r13_meet_eq (p q : Bx) : r13_Meet_g p q = bmeet p q := by
  unfold r13_Meet_g bmeet
  simp only [letB, r03_meet_eq]
theorem r13_touches_eq (d : Df) (b : Bx) : r13_Touches_g d b = touchB d.b b := by
  unfold r13_Touches_g touchB
  simp only [letB, r13_meet_eq, r13_empty_eq]
theorem d_inside_eq (s : Sp) (lo hi : Int) : defect_inside_g s lo hi = insideB s lo hi := by
  unfold defect_inside_g insideB
  simp only [Bool.cond_false_right]
theorem b3_all (b : Bx) : ((List.range 3).all fun j => insideB (b3 b j) (-1099511627776) 1099511627776) = decide (okB b) := by
  rw [Bool.eq_iff_iff, List.all_eq_true, decide_eq_true_eq]
  unfold okB
  constructor
  · intro h i hi
    exact h i (List.mem_range.2 hi)
  · intro h i hi
    exact h i (List.mem_range.1 hi)
theorem foldl_opt {α β : Type} (g : α → Option β) : ∀ (l : List α) (s : List β), l.foldl (fun s e => s ++ (g e).toList) s = s ++ l.filterMap g
  | [], s => by simp
  | a :: l, s => by
    rw [List.foldl_cons, foldl_opt g l]
    cases h : g a <;> simp [h]
theorem d_clip_eq {l : List Df} (b : Bx) (hl : l.length ≤ 9223372036854775807) : defect_Clip_g l b = some (clipD l b) := by
  unfold defect_Clip_g clipD
  rw [d_checkL_eq hl, bind_some']
  by_cases hc : checkL l = 0
  · have hlen := checkL_len hc
    rw [show (checkL l != 0) = false by simp [hc], cond_false]
    rw [show (0 : Int) = ((0 : Nat) : Int) from rfl, loopO_allN 3 (fun j => ((j : Nat) : Int)) (fun j => insideB (b3 b j) (-1099511627776) 1099511627776) ([] : List Df) (by
      intro j hj
      unfold defect_Clip_s1
      rw [decide_eq_true (show (j : Int) < 3 by omega), cond_true, show getI [b.x, b.y, b.z] (j : Int) = some (b3 b j) by
        match j, hj with
        | 0, _ => rfl
        | 1, _ => rfl
        | 2, _ => rfl, bind_some', d_inside_eq, W64_succ (by omega)]
      cases insideB (b3 b j) (-1099511627776) 1099511627776 <;> rfl) (by rfl), b3_all]
    by_cases hb : okB b
    · rw [if_pos ⟨hc, hb⟩, decide_eq_true hb]
      simp only [cond_true, bind_some', Sum.elim_inr]
      rw [loopO_foldI l (fun s e => s ++ (clipOne b e).toList) [] (fun s j => (s, ((j : Nat) : Int))) id (fun j s => s.length ≤ j) (by simp) (by
        intro j s hj hs
        have : (clipOne b l[j]).toList.length ≤ 1 := by cases clipOne b l[j] <;> simp
        rw [List.length_append]
        omega) (by
        intro s j hj hs
        simp only [defect_Clip_s2]
        rw [lt_nat hj, getI_at hj, cond_true, bind_some', d_meet_eq, W64_succ (by omega)]
        simp only [letB]
        unfold clipOne
        cases ht : touchB l[j].b b with
        | false => simp
        | true =>
          simp only [cond_true]
          rw [appO_eq (by simp; omega) (by simp; omega)]
          rfl) (by
        intro s hs
        simp only [defect_Clip_s2]
        rw [nlt_nat]
        rfl), foldl_opt]
      simp
    · rw [if_neg (fun h => hb h.2), decide_eq_false hb]
      rfl
  · rw [show (checkL l != 0) = true by simpa using hc, cond_true, if_neg (fun h => hc h.1)]
theorem r13_bounded_eq (s : Sp) : r13_bounded_g s = boundedS s := by
  unfold r13_bounded_g boundedS
  simp only [Bool.cond_false_right]
theorem r13_move_eq (b : Bx) (x y z : Int) : r13_Move_g b x y z = moveB b x y z := rfl
theorem r13_clip_eq {l : List Df} (b : Bx) (hl : l.length ≤ 9223372036854775807) : r13_Clip_g l b = some (clipD l b) := by
  unfold r13_Clip_g clipD
  rw [r13_checkL_eq hl, bind_some', r13_bounded_eq, r13_bounded_eq, r13_bounded_eq]
  by_cases hc : checkL l = 0
  · have hlen := checkL_len hc
    rw [show (checkL l != 0) = false by simp [hc], cond_false]
    by_cases hb : okB b
    · obtain ⟨h0, h1, h2⟩ := (okB_iff b).1 hb
      rw [if_pos ⟨hc, hb⟩, h0, h1, h2]
      simp only [Bool.not_true, cond_false]
      rw [show (([] : List Df), (0 : Int)) = (([] : List Df), ((0 : Nat) : Int)) from rfl, loopO_foldI l (fun s e => s ++ (clipOne b e).toList) [] (fun s j => (s, ((j : Nat) : Int))) id (fun j s => s.length ≤ j) (by simp) (by
        intro j s hj hs
        have : (clipOne b l[j]).toList.length ≤ 1 := by cases clipOne b l[j] <;> simp
        rw [List.length_append]
        omega) (by
        intro s j hj hs
        simp only [r13_Clip_s1]
        rw [lt_nat hj, getI_at hj, cond_true, bind_some', r13_touches_eq, W64_succ (by omega)]
        simp only [letB, bind_some', r13_meet_eq, r13_move_eq]
        have mb := move_back (p := bmeet l[j].b b) hb
        simp only [W64]
        rw [mb]
        unfold clipOne mbox
        cases ht : touchB l[j].b b with
        | false => simp
        | true =>
          simp only [cond_true]
          rw [appO_eq (by simp; omega) (by simp; omega)]
          rfl) (by
        intro s hs
        simp only [r13_Clip_s1]
        rw [nlt_nat]
        rfl), foldl_opt]
      simp
    · rw [if_neg (fun h => hb h.2)]
      have : ¬ (boundedS b.x = true ∧ boundedS b.y = true ∧ boundedS b.z = true) := fun h => hb ((okB_iff b).2 h)
      cases hx : boundedS b.x with
      | false => rfl
      | true =>
        cases hy : boundedS b.y with
        | false => rfl
        | true =>
          cases hz : boundedS b.z with
          | false => rfl
          | true => exact absurd ⟨hx, hy, hz⟩ this
  · rw [show (checkL l != 0) = true by simpa using hc, cond_true, if_neg (fun h => hc h.1)]
theorem eqV_df (x y : Df) : eqV encDf x y = decide (x = y) := eqDf_iff x y
theorem r13_same_eq {a b : List Df} (hl : a.length ≤ 9223372036854775807) : r13_Same_g a b = some (decide (a = b)) := by
  unfold r13_Same_g
  by_cases hn : a.length = b.length
  · rw [show (((a.length : Nat) : Int) != ((b.length : Nat) : Int)) = false by simp [hn], cond_false]
    rw [show (0 : Int) = ((0 : Nat) : Int) from rfl, loopO_allN a.length (fun j => ((j : Nat) : Int)) (fun j => decide (a[j]? = b[j]?)) false (by
      intro j hj
      have hj2 : j < b.length := by omega
      unfold r13_Same_s1
      rw [lt_nat hj, getI_at hj, getI_at hj2, cond_true, bind_some', bind_some', eqV_df, W64_succ (by omega)]
      simp only [List.getElem?_eq_getElem hj, List.getElem?_eq_getElem hj2, Option.some.injEq]
      cases decide (a[j] = b[j]) <;> rfl) (by
      unfold r13_Same_s1
      rw [nlt_nat]
      rfl)]
    have e : ((List.range a.length).all fun j => decide (a[j]? = b[j]?)) = decide (a = b) := by
      rw [Bool.eq_iff_iff, List.all_eq_true, decide_eq_true_eq]
      constructor
      · intro h
        apply List.ext_getElem? 
        intro i
        by_cases hi : i < a.length
        · simpa using h i (List.mem_range.2 hi)
        · rw [List.getElem?_eq_none (by omega), List.getElem?_eq_none (by omega)]
      · rintro rfl i _
        simp
    rw [e]
    cases decide (a = b) <;> rfl
  · rw [show (((a.length : Nat) : Int) != ((b.length : Nat) : Int)) = true by simp; omega, cond_true, decide_eq_false (fun h => hn (by rw [h]))]
theorem d_turn_in (q : Int) (e : Df) : loopO (fun x : Int × Df => defect_Turn_s2 q x.1 x.2) (0, e) = some (turnQ q e) := by
  have hq := quartersI_lo q
  unfold turnQ
  refine loopO_upto (fun j => (((j : Nat) : Int), turnN j e)) (quartersI q).toNat (fun j hj => ?_) ?_
  · simp only [defect_Turn_s2]
    rw [show (Int.tmod (W64 (Int.tmod q 4 + 4)) 4) = quartersI q from rfl, decide_eq_true (show (j : Int) < quartersI q by omega), cond_true, W64_succ (by omega)]
    rfl
  · simp only [defect_Turn_s2]
    rw [show (Int.tmod (W64 (Int.tmod q 4 + 4)) 4) = quartersI q from rfl, decide_eq_false (show ¬ ((quartersI q).toNat : Int) < quartersI q by omega)]
    rfl
def turnX (l : List Df) (q : Int) (k : Nat) : List Df := (l.take k).map (turnQ q) ++ List.replicate (l.length - k) zeroD
theorem turnX_len {l : List Df} {q : Int} {k : Nat} (hk : k ≤ l.length) : (turnX l q k).length = l.length := by
  unfold turnX
  simp
  omega
theorem turnX_set {l : List Df} {q : Int} {k : Nat} (hk : k < l.length) : setI (turnX l q k) (k : Int) (turnQ q l[k]) = turnX l q (k + 1) := by
  have hl : ((l.take k).map (turnQ q)).length = k := by simp; omega
  unfold setI turnX
  rw [Int.toNat_natCast, List.set_append_right _ _ (by omega), hl, Nat.sub_self, take_succ_get hk, List.map_append, List.append_assoc]
  congr 1
  rw [show l.length - k = (l.length - (k + 1)) + 1 by omega, List.replicate_succ]
  rfl
theorem d_turn_eq {l : List Df} (q : Int) (hl : l.length ≤ 9223372036854775807) : defect_Turn_g l q = some (turnD l q) := by
  unfold defect_Turn_g turnD
  rw [d_checkL_eq hl, bind_some']
  by_cases hc : checkL l = 0
  · have hlen := checkL_len hc
    rw [show (checkL l != 0) = false by simp [hc], cond_false, if_pos hc, mkO_eq (by omega) (by omega) (by omega), bind_some']
    have h0 : List.replicate ((l.length : Nat) : Int).toNat (⟨0, ⟨⟨0, 0⟩, ⟨0, 0⟩, ⟨0, 0⟩⟩⟩ : Df) = turnX l q 0 := by simp only [turnX, Int.toNat_natCast, List.take_zero, List.map_nil, List.nil_append, Nat.sub_zero]; rfl
    rw [h0, show ((0 : Int), turnX l q 0) = (fun j : Nat => (((j : Nat) : Int), turnX l q j)) 0 from rfl, loopO_upto (fun j => (((j : Nat) : Int), turnX l q j)) l.length (y := turnX l q l.length) ?h1 ?h2, bind_some']
    · simp [turnX]
    case h1 =>
      intro j hj
      have hj2 : j < (turnX l q j).length := by rw [turnX_len (by omega)]; exact hj
      simp only [defect_Turn_s1]
      rw [lt_nat hj, getI_at hj, cond_true, bind_some', d_turn_in, bind_some', getI_at hj2, bind_some', bind_some', W64_succ (by omega), turnX_set hj]
    case h2 =>
      simp only [defect_Turn_s1]
      rw [nlt_nat]
      rfl
  · rw [show (checkL l != 0) = true by simpa using hc, cond_true, if_neg hc]
/-! the laws -/
def sub1 (s : Sp) (n : Int) : Sp := ⟨s.a - n, s.b - n⟩
/-- Two spans have a common part. -/
def tch (s t : Sp) : Prop := max s.a t.a < min s.b t.b
instance (s t : Sp) : Decidable (tch s t) := inferInstanceAs (Decidable (_ < _))
def tchB (p q : Bx) : Prop := tch p.x q.x ∧ tch p.y q.y ∧ tch p.z q.z
instance (p q : Bx) : Decidable (tchB p q) := inferInstanceAs (Decidable (_ ∧ _))
/-- The common part, from the beginning of the second one on. -/
def cut1 (s t : Sp) : Sp := ⟨max s.a t.a - t.a, min s.b t.b - t.a⟩
def cutB (p q : Bx) : Bx := ⟨cut1 p.x q.x, cut1 p.y q.y, cut1 p.z q.z⟩
theorem touchB_iff (p q : Bx) : touchB p q = decide (tchB p q) := by
  unfold touchB emB bmeet
  simp only [Bool.not_or, em_meet]
  unfold tchB tch
  rw [Bool.eq_iff_iff]
  simp only [Bool.and_eq_true, decide_eq_true_eq]
  exact decide_eq_true_iff.symm
theorem back_meet {s t : Sp} (h : tch s t) (ht : insideB t (-1099511627776) 1099511627776 = true) (hs : -20000 ≤ s.a ∧ s.b ≤ 20000) : backS (meet s t) t.a = cut1 s t := by
  unfold tch at h
  unfold insideB at ht
  simp only [Bool.and_eq_true, decide_eq_true_eq] at ht
  unfold meet backS cut1
  rw [if_neg (by omega), w64_id' (by dsimp only; omega) (by dsimp only; omega), w64_id' (by dsimp only; omega) (by dsimp only; omega)]
theorem clipOne_eq {b : Bx} {d : Df} (hb : okB b) (hd : dcheck d = 0) : clipOne b d = if tchB d.b b then some ⟨d.k, cutB d.b b⟩ else none := by
  have hv := dcheck_ok hd
  unfold clipOne mbox
  rw [touchB_iff]
  by_cases h : tchB d.b b
  · rw [decide_eq_true h, cond_true, if_pos h, cond_true]
    unfold backB bmeet cutB
    dsimp only
    rw [back_meet h.1 (hb 0 (by omega)) (by omega), back_meet h.2.1 (hb 1 (by omega)) (by omega), back_meet h.2.2 (hb 2 (by omega)) (by omega)]
  · rw [decide_eq_false h, cond_false, if_neg h]
/-- A box that is in range, not empty, and not too wide. -/
structure FitsB (b : Bx) : Prop where
  x : -600 ≤ b.x.a ∧ b.x.a < b.x.b ∧ b.x.b ≤ 600
  y : -600 ≤ b.y.a ∧ b.y.a < b.y.b ∧ b.y.b ≤ 600
  z : 0 ≤ b.z.a ∧ b.z.a < b.z.b ∧ b.z.b ≤ 20000
  w : b.x.b - b.x.a ≤ 600 ∧ b.y.b - b.y.a ≤ 600
theorem fits_iff (b : Bx) (h : l13_fits_g b = true) : FitsB b := by
  unfold l13_fits_g at h
  rw [r13_ranged_eq, r13_empty_eq] at h
  simp only [Bool.cond_false_right, Bool.and_eq_true, decide_eq_true_eq, Bool.not_eq_true'] at h
  obtain ⟨h1, h2, h3, h4⟩ := h
  unfold rangedB insB at h1
  unfold emB emS at h2
  simp only [Bool.and_eq_true, decide_eq_true_eq, Bool.or_eq_false_iff, decide_eq_false_iff_not] at h1 h2
  rw [W64_eq (by omega) (by omega)] at h3 h4
  exact ⟨by omega, by omega, by omega, by omega⟩
theorem okB_of {b : Bx} (hx : -1099511627776 ≤ min b.x.a b.x.b ∧ max b.x.a b.x.b ≤ 1099511627776) (hy : -1099511627776 ≤ min b.y.a b.y.b ∧ max b.y.a b.y.b ≤ 1099511627776) (hz : -1099511627776 ≤ min b.z.a b.z.b ∧ max b.z.a b.z.b ≤ 1099511627776) : okB b := by
  intro i hi
  match i, hi with
  | 0, _ => simp [b3, insideB, hx]
  | 1, _ => simp [b3, insideB, hy]
  | 2, _ => simp [b3, insideB, hz]
theorem FitsB.ok {b : Bx} (h : FitsB b) : okB b := okB_of (by have := h.x; omega) (by have := h.y; omega) (by have := h.z; omega)
theorem cut_valid {b : Bx} {d : Df} (hb : FitsB b) (hd : dcheck d = 0) (ht : tchB d.b b) : dcheck ⟨d.k, cutB d.b b⟩ = 0 := by
  have hv := dcheck_ok hd
  obtain ⟨h1, h2, h3⟩ := ht
  obtain ⟨x, y, z, w⟩ := hb
  unfold tch at h1 h2 h3
  apply dcheck_of
  unfold cutB cut1
  dsimp only
  omega
theorem filterMap_id {α : Type} {f : α → Option α} : ∀ {l : List α}, (∀ d ∈ l, f d = some d) → l.filterMap f = l
  | [], _ => rfl
  | a :: l, h => by
    rw [List.filterMap_cons_some (h a (by simp)), filterMap_id fun d hd => h d (by simp [hd])]
theorem filterMap_eq {α β : Type} {f g : α → Option β} : ∀ {l : List α}, (∀ d ∈ l, f d = g d) → l.filterMap f = l.filterMap g
  | [], _ => rfl
  | a :: l, h => by
    have e := filterMap_eq (l := l) fun d hd => h d (by simp [hd])
    cases hg : g a with
    | none => rw [List.filterMap_cons_none hg, List.filterMap_cons_none (by rw [h a (by simp)]; exact hg), e]
    | some b => rw [List.filterMap_cons_some hg, List.filterMap_cons_some (by rw [h a (by simp)]; exact hg), e]
theorem clip_mem {l : List Df} {b : Bx} (hc : checkL l = 0) (hb : okB b) {d : Df} (h : d ∈ l.filterMap (clipOne b)) : ∃ e ∈ l, tchB e.b b ∧ d = ⟨e.k, cutB e.b b⟩ := by
  obtain ⟨e, he, hd⟩ := List.mem_filterMap.1 h
  rw [clipOne_eq hb ((checkL_iff.1 hc).2 e he)] at hd
  split at hd
  · rename_i ht
    cases hd
    exact ⟨e, he, ht, rfl⟩
  · cases hd
theorem clip_check {l : List Df} {b : Bx} (hc : checkL l = 0) (hb : FitsB b) : checkL (l.filterMap (clipOne b)) = 0 := by
  refine checkL_iff.2 ⟨Nat.le_trans (List.length_filterMap_le _ _) (checkL_iff.1 hc).1, fun d hd => ?_⟩
  obtain ⟨e, he, ht, rfl⟩ := clip_mem hc hb.ok hd
  exact cut_valid hb ((checkL_iff.1 hc).2 e he) ht
theorem cut_cut {s t p : Sp} (hp : 0 ≤ p.a ∧ p.a < p.b ∧ p.b ≤ t.b - t.a) : (tch s t ∧ tch (cut1 s t) p ↔ tch s ⟨p.a + t.a, p.b + t.a⟩) ∧ (tch s ⟨p.a + t.a, p.b + t.a⟩ → cut1 (cut1 s t) p = cut1 s ⟨p.a + t.a, p.b + t.a⟩) := by
  unfold tch cut1
  dsimp only
  refine ⟨by omega, fun h => ?_⟩
  congr 1 <;> omega
theorem byS_eq {s : Sp} {n : Int} (h : -1000000 ≤ s.a ∧ s.a ≤ 1000000 ∧ -1000000 ≤ s.b ∧ s.b ≤ 1000000 ∧ -1000000 ≤ n ∧ n ≤ 1000000) : byS s n = ⟨s.a + n, s.b + n⟩ := by
  unfold byS
  rw [w64_id' (by omega) (by omega), w64_id' (by omega) (by omega)]
theorem aw13 : l13_awake_g = some true := l13_awake_le 300 true (by kernel_rfl)
theorem defectClip_true (l : List Df) (b c : Bx) (hl : l.length ≤ 9223372036854775807) : l13_DefectClip_g l b c = some true := by
  unfold l13_DefectClip_g
  rw [aw13, r13_checkL_eq hl]
  simp only [bind_some']
  by_cases hc : checkL l = 0
  rotate_left
  · rw [show (checkL l != 0) = true by simpa using hc]; rfl
  rw [show (checkL l != 0) = false by simp [hc], cond_false]
  cases hf : l13_fits_g b with
  | false => rfl
  | true =>
    have hb := fits_iff b hf
    have hx := hb.x
    have hy := hb.y
    have hz := hb.z
    have hw := hb.w
    simp only [Bool.not_true, cond_false, letB, l13_box_g]
    rw [d_clip_eq b hl, bind_some']
    have e0 : clipD l b = l.filterMap (clipOne b) := by unfold clipD; rw [if_pos ⟨hc, hb.ok⟩]
    rw [e0]
    have hcx := clip_check hc hb
    have hlx := (checkL_iff.1 hcx).1
    rw [d_checkL_eq (by omega), bind_some', hcx]
    rw [W64_eq (n := b.x.b - b.x.a) (by omega) (by omega), W64_eq (n := b.y.b - b.y.a) (by omega) (by omega), W64_eq (n := b.z.b - b.z.a) (by omega) (by omega)]
    rw [show ((0 : Int) != 0) = false from rfl, cond_false, d_clip_eq _ (by omega), bind_some', r13_same_eq (by
      unfold clipD
      split
      · exact Nat.le_trans (List.length_filterMap_le _ _) (by omega)
      · simp), bind_some']
    have hwhole : okB ⟨⟨0, b.x.b - b.x.a⟩, ⟨0, b.y.b - b.y.a⟩, ⟨0, b.z.b - b.z.a⟩⟩ := okB_of (by dsimp only; omega) (by dsimp only; omega) (by dsimp only; omega)
    have e1 : clipD (l.filterMap (clipOne b)) ⟨⟨0, b.x.b - b.x.a⟩, ⟨0, b.y.b - b.y.a⟩, ⟨0, b.z.b - b.z.a⟩⟩ = l.filterMap (clipOne b) := by
      unfold clipD
      rw [if_pos ⟨hcx, hwhole⟩]
      refine filterMap_id fun d hd => ?_
      rw [clipOne_eq hwhole ((checkL_iff.1 hcx).2 d hd)]
      obtain ⟨e, he, ht, rfl⟩ := clip_mem hc hb.ok hd
      have hv := dcheck_ok ((checkL_iff.1 hc).2 e he)
      obtain ⟨t1, t2, t3⟩ := ht
      unfold tch at t1 t2 t3
      rw [if_pos]
      · congr 2
        unfold cutB cut1
        dsimp only
        congr 1 <;> congr 1 <;> omega
      · unfold tchB tch cutB cut1
        dsimp only
        omega
    rw [e1, decide_eq_true rfl]
    simp only [Bool.not_true, cond_false]
    rw [r13_meet_eq, r13_empty_eq]
    cases hem : emB (bmeet c ⟨⟨0, b.x.b - b.x.a⟩, ⟨0, b.y.b - b.y.a⟩, ⟨0, b.z.b - b.z.a⟩⟩) with
    | true => rfl
    | false =>
      simp only [cond_false]
      -- the part
      obtain ⟨p, hp⟩ : ∃ p, p = bmeet c ⟨⟨0, b.x.b - b.x.a⟩, ⟨0, b.y.b - b.y.a⟩, ⟨0, b.z.b - b.z.a⟩⟩ := ⟨_, rfl⟩
      rw [← hp] at hem ⊢
      have pr : ∀ (s : Sp) (n : Int), emS (meet s ⟨0, n⟩) = false → 0 ≤ (meet s ⟨0, n⟩).a ∧ (meet s ⟨0, n⟩).a < (meet s ⟨0, n⟩).b ∧ (meet s ⟨0, n⟩).b ≤ n := by
        intro s n h
        unfold emS at h
        have h := of_decide_eq_false h
        unfold meet at h ⊢
        dsimp only at h ⊢
        split at h
        · simp at h
        · rename_i hq
          rw [if_neg hq]
          dsimp only
          omega
      unfold emB at hem
      simp only [Bool.or_eq_false_iff] at hem
      rw [hp] at hem
      have p1 := pr _ _ hem.1
      have p2 := pr _ _ hem.2.1
      have p3 := pr _ _ hem.2.2
      rw [show meet c.x ⟨0, b.x.b - b.x.a⟩ = p.x by rw [hp]; rfl] at p1
      rw [show meet c.y ⟨0, b.y.b - b.y.a⟩ = p.y by rw [hp]; rfl] at p2
      rw [show meet c.z ⟨0, b.z.b - b.z.a⟩ = p.z by rw [hp]; rfl] at p3
      have hpok : okB p := okB_of (by omega) (by omega) (by omega)
      have hmv : r13_Move_g p b.x.a b.y.a b.z.a = ⟨⟨p.x.a + b.x.a, p.x.b + b.x.a⟩, ⟨p.y.a + b.y.a, p.y.b + b.y.a⟩, ⟨p.z.a + b.z.a, p.z.b + b.z.a⟩⟩ := by
        rw [r13_move_eq]
        unfold moveB
        rw [byS_eq (by omega), byS_eq (by omega), byS_eq (by omega)]
      have hmok : okB ⟨⟨p.x.a + b.x.a, p.x.b + b.x.a⟩, ⟨p.y.a + b.y.a, p.y.b + b.y.a⟩, ⟨p.z.a + b.z.a, p.z.b + b.z.a⟩⟩ := okB_of (by dsimp only; omega) (by dsimp only; omega) (by dsimp only; omega)
      rw [hmv, d_clip_eq p (by omega), bind_some', d_clip_eq _ hl, bind_some']
      have e2 : clipD (l.filterMap (clipOne b)) p = clipD l ⟨⟨p.x.a + b.x.a, p.x.b + b.x.a⟩, ⟨p.y.a + b.y.a, p.y.b + b.y.a⟩, ⟨p.z.a + b.z.a, p.z.b + b.z.a⟩⟩ := by
        unfold clipD
        rw [if_pos ⟨hcx, hpok⟩, if_pos ⟨hc, hmok⟩, List.filterMap_filterMap]
        refine filterMap_eq fun d hd => ?_
        have hvd := (checkL_iff.1 hc).2 d hd
        rw [clipOne_eq hb.ok hvd, clipOne_eq hmok hvd]
        obtain ⟨x1, x2⟩ := cut_cut (s := d.b.x) (t := b.x) p1
        obtain ⟨y1, y2⟩ := cut_cut (s := d.b.y) (t := b.y) p2
        obtain ⟨z1, z2⟩ := cut_cut (s := d.b.z) (t := b.z) p3
        by_cases ht : tchB d.b b
        · rw [if_pos ht]
          simp only [bind_some']
          rw [clipOne_eq hpok (cut_valid hb hvd ht)]
          by_cases hm : tchB d.b ⟨⟨p.x.a + b.x.a, p.x.b + b.x.a⟩, ⟨p.y.a + b.y.a, p.y.b + b.y.a⟩, ⟨p.z.a + b.z.a, p.z.b + b.z.a⟩⟩
          · rw [if_pos hm, if_pos ⟨(x1.2 hm.1).2, (y1.2 hm.2.1).2, (z1.2 hm.2.2).2⟩]
            unfold cutB
            dsimp only
            rw [x2 hm.1, y2 hm.2.1, z2 hm.2.2]
          · rw [if_neg hm, if_neg]
            intro h
            exact hm ⟨x1.1 ⟨ht.1, h.1⟩, y1.1 ⟨ht.2.1, h.2.1⟩, z1.1 ⟨ht.2.2, h.2.2⟩⟩
        · rw [if_neg ht]
          rw [if_neg]
          · rfl
          · intro hm
            exact ht ⟨(x1.2 hm.1).1, (y1.2 hm.2.1).1, (z1.2 hm.2.2).1⟩
      rw [e2, r13_same_eq (by
        unfold clipD
        split
        · exact Nat.le_trans (List.length_filterMap_le _ _) hl
        · simp), bind_some', decide_eq_true rfl]
      rfl

/-! DefectTurned and DefectWindows -/
theorem valid_ok {d : Df} (h : dcheck d = 0) : d.ok := by
  have := dcheck_ok h
  refine ⟨?_, ⟨?_, ?_⟩, ⟨?_, ?_⟩, ⟨?_, ?_⟩⟩ <;> unfold I64 <;> omega
theorem valid_oks {l : List Df} (h : checkL l = 0) : Oks l := fun d hd => valid_ok ((checkL_iff.1 h).2 d hd)
theorem quartersI_mod (q : Int) : quartersI q = q % 4 := by
  have h1 := Int.lt_tmod_of_pos q (b := 4) (by omega)
  have h2 := Int.tmod_lt_of_pos q (b := 4) (by omega)
  unfold quartersI
  rw [w64_id' (by omega) (by omega), Int.tmod_eq_emod_of_nonneg (by omega), Int.tmod_def]
  generalize q.tdiv 4 = k
  omega
theorem turn1_eq {d : Df} (h : dcheck d = 0) : turn1 d = ⟨d.k, ⟨⟨-d.b.y.b, -d.b.y.a⟩, d.b.x, d.b.z⟩⟩ := by
  have := dcheck_ok h
  unfold turn1 quarterB
  rw [w64_id' (n := 0 - d.b.y.b) (by omega) (by omega), w64_id' (n := 0 - d.b.y.a) (by omega) (by omega), Int.zero_sub, Int.zero_sub]
theorem turn1_valid {d : Df} (h : dcheck d = 0) : dcheck (turn1 d) = 0 := by
  have := dcheck_ok h
  rw [turn1_eq h]
  apply dcheck_of
  dsimp only
  omega
theorem turnN_valid {d : Df} (h : dcheck d = 0) : ∀ n, dcheck (turnN n d) = 0
  | 0 => h
  | n + 1 => turn1_valid (turnN_valid h n)
theorem turnN_add (d : Df) (b : Nat) : ∀ a, turnN a (turnN b d) = turnN (a + b) d
  | 0 => by rw [Nat.zero_add]; rfl
  | a + 1 => by
    rw [show a + 1 + b = (a + b) + 1 by omega]
    show turn1 (turnN a (turnN b d)) = turn1 (turnN (a + b) d)
    rw [turnN_add d b a]
theorem turnN_four {d : Df} (h : dcheck d = 0) : turnN 4 d = d := by
  have h1 := turn1_valid h
  have h2 := turn1_valid h1
  have h3 := turn1_valid h2
  show turn1 (turn1 (turn1 (turn1 d))) = d
  rw [turn1_eq h3, turn1_eq h2, turn1_eq h1, turn1_eq h]
  obtain ⟨k, ⟨x, y, z⟩⟩ := d
  obtain ⟨a, b⟩ := x
  obtain ⟨a', b'⟩ := y
  simp
theorem turn_back {d : Df} (h : dcheck d = 0) {p q : Int} (hpq : (p + q) % 4 = 0) : turnQ p (turnQ q d) = d := by
  have h1 := quartersI_mod p
  have h2 := quartersI_mod q
  unfold turnQ
  rw [turnN_add]
  have : (quartersI p).toNat + (quartersI q).toNat = 0 ∨ (quartersI p).toNat + (quartersI q).toNat = 4 := by omega
  rcases this with e | e
  · rw [e]; rfl
  · rw [e]; exact turnN_four h
theorem turn1_size {d : Df} (h : dcheck d = 0) : sizeD (turn1 d) = sizeD d := by
  rw [sizeD_valid (turn1_valid h), sizeD_valid h, turn1_eq h]
  dsimp only
  omega
theorem turnN_size {d : Df} (h : dcheck d = 0) : ∀ n, sizeD (turnN n d) = sizeD d ∧ (turnN n d).k = d.k ∧ (turnN n d).b.z = d.b.z
  | 0 => ⟨rfl, rfl, rfl⟩
  | n + 1 => by
    obtain ⟨h1, h2, h3⟩ := turnN_size h n
    have hv := turnN_valid h n
    refine ⟨(turn1_size hv).trans h1, ?_, ?_⟩
    · show (turn1 (turnN n d)).k = _
      rw [turn1_eq hv]
      exact h2
    · show (turn1 (turnN n d)).b.z = _
      rw [turn1_eq hv]
      exact h3
theorem turn_check {l : List Df} (h : checkL l = 0) (q : Int) : checkL (l.map (turnQ q)) = 0 := by
  obtain ⟨h1, h2⟩ := checkL_iff.1 h
  refine checkL_iff.2 ⟨by simpa using h1, fun d hd => ?_⟩
  obtain ⟨e, he, rfl⟩ := List.mem_map.1 hd
  exact turnN_valid (h2 e he) _
theorem winC_turn {d : Df} (h : dcheck d = 0) (q : Int) (z : Sp) : winC z (turnQ q d) = winC z d := by
  obtain ⟨h1, h2, h3⟩ := turnN_size h (quartersI q).toNat
  unfold winC turnQ knotD
  rw [h1, h2, h3]
theorem winP_turn {l : List Df} (h : checkL l = 0) (q : Int) (z : Sp) : winP (l.map (turnQ q)) z = winP l z := by
  unfold winP
  rw [List.map_map]
  congr 1
  exact List.map_congr_left fun d hd => winC_turn ((checkL_iff.1 h).2 d hd) q z
theorem worst_turn {l : List Df} (h : checkL l = 0) (q w : Int) : worstD (l.map (turnQ q)) w = worstD l w := by
  have ht := turn_check h q
  by_cases hw : 1 ≤ w ∧ w ≤ 20000
  · rw [worstD_eq ht hw.1 hw.2, worstD_eq h hw.1 hw.2]
    unfold worstP maxF
    rw [List.foldl_map]
    refine foldl_congr_mem fun n d hd => ?_
    have hz := (turnN_size ((checkL_iff.1 h).2 d hd) (quartersI q).toNat).2.2
    have : zEnd (turnQ q d) w = zEnd d w := by unfold zEnd turnQ; rw [hz]
    dsimp only
    rw [this, winP_turn h]
  · unfold worstD
    rw [h, ht]
    have : (decide (w < 1) || decide (20000 < w)) = true := by
      rw [Bool.or_eq_true, decide_eq_true_eq, decide_eq_true_eq]
      omega
    rw [this]
    rfl
theorem count_turn {l : List Df} (h : checkL l = 0) (q k : Int) : countD (l.map (turnQ q)) k = countD l k := by
  unfold countD
  rw [List.foldl_map]
  refine foldl_congr_mem fun n d hd => ?_
  have := (turnN_size ((checkL_iff.1 h).2 d hd) (quartersI q).toNat).2.1
  unfold cntF turnQ
  rw [this]
theorem largest_turn {l : List Df} (h : checkL l = 0) (q k : Int) : largestD (l.map (turnQ q)) k = largestD l k := by
  unfold largestD
  rw [List.foldl_map]
  refine foldl_congr_mem fun n d hd => ?_
  obtain ⟨h1, h2, _⟩ := turnN_size ((checkL_iff.1 h).2 d hd) (quartersI q).toNat
  unfold lrgF turnQ
  rw [h1, h2]
/-- A clipped defect, turned. -/
def turnIn (h : Int) (d : Df) : Df := ⟨d.k, ⟨⟨h - d.b.y.b, h - d.b.y.a⟩, d.b.x, d.b.z⟩⟩
theorem clip_turned {b : Bx} {d : Df} (hb : FitsB b) (hd : dcheck d = 0) : clipOne ⟨⟨-b.y.b, -b.y.a⟩, ⟨b.x.a, b.x.b⟩, ⟨b.z.a, b.z.b⟩⟩ (turn1 d) = (clipOne b d).map (turnIn (b.y.b - b.y.a)) := by
  obtain ⟨hx, hy, hz, hw⟩ := hb
  have hok : okB b := okB_of (by omega) (by omega) (by omega)
  have hok2 : okB ⟨⟨-b.y.b, -b.y.a⟩, ⟨b.x.a, b.x.b⟩, ⟨b.z.a, b.z.b⟩⟩ := okB_of (by dsimp only; omega) (by dsimp only; omega) (by dsimp only; omega)
  rw [clipOne_eq hok2 (turn1_valid hd), clipOne_eq hok hd, turn1_eq hd]
  dsimp only
  by_cases h : tchB d.b b
  · have h2 : tchB ⟨⟨-d.b.y.b, -d.b.y.a⟩, d.b.x, d.b.z⟩ ⟨⟨-b.y.b, -b.y.a⟩, ⟨b.x.a, b.x.b⟩, ⟨b.z.a, b.z.b⟩⟩ := by
      obtain ⟨t1, t2, t3⟩ := h
      unfold tchB tch at *
      dsimp only
      omega
    rw [if_pos h, if_pos h2]
    unfold turnIn cutB cut1
    simp only [Option.map_some]
    congr 3 <;> congr 1 <;> omega
  · have h2 : ¬ tchB ⟨⟨-d.b.y.b, -d.b.y.a⟩, d.b.x, d.b.z⟩ ⟨⟨-b.y.b, -b.y.a⟩, ⟨b.x.a, b.x.b⟩, ⟨b.z.a, b.z.b⟩⟩ := by
      intro hq
      apply h
      unfold tchB tch at *
      dsimp only at hq
      omega
    rw [if_neg h, if_neg h2]
    rfl
theorem defectTurned_true (l : List Df) (b : Bx) (n : Int × Int) (hl : l.length ≤ 9223372036854775807) : l13_DefectTurned_g l b n = some true := by
  unfold l13_DefectTurned_g
  rw [aw13, r13_checkL_eq hl]
  simp only [bind_some']
  by_cases hc : checkL l = 0
  rotate_left
  · rw [show (checkL l != 0) = true by simpa using hc]; rfl
  rw [show (checkL l != 0) = false by simp [hc], cond_false]
  cases hf : l13_fits_g b with
  | false => rfl
  | true =>
    have hb := fits_iff b hf
    have hx := hb.x
    have hy := hb.y
    have hz := hb.z
    have hw := hb.w
    simp only [Bool.not_true, cond_false, letB, l13_box_g]
    have hq1 := Int.lt_tmod_of_pos n.1 (b := 8) (by omega)
    have hq2 := Int.tmod_lt_of_pos n.1 (b := 8) (by omega)
    generalize n.1.tmod 8 = q at *
    have ht := turn_check hc q
    have hlt := (checkL_iff.1 ht).1
    have hoks := valid_oks hc
    have hokt := valid_oks ht
    have et : turnD l q = l.map (turnQ q) := by unfold turnD; rw [if_pos hc]
    rw [d_turn_eq q hl, bind_some', et, d_checkL_eq (by omega), bind_some', ht]
    rw [show ((0 : Int) != 0) = false from rfl, cond_false, d_worst_eq _ (by omega) hokt, bind_some', d_worst_eq _ hl hoks, bind_some', worst_turn hc, bne_self_eq_false, cond_false]
    rw [W64_eq (n := 0 - q) (by omega) (by omega), W64_eq (n := 4 - q) (by omega) (by omega)]
    have back : ∀ p : Int, (p + q) % 4 = 0 → turnD (l.map (turnQ q)) p = l := by
      intro p hp
      unfold turnD
      rw [if_pos ht, List.map_map]
      have : ∀ d ∈ l, (turnQ p ∘ turnQ q) d = d := fun d hd => turn_back ((checkL_iff.1 hc).2 d hd) hp
      exact (List.map_congr_left this).trans (List.map_id' _)
    rw [d_turn_eq (0 - q) (by omega), bind_some', back (0 - q) (by omega), r13_same_eq hl, bind_some', decide_eq_true rfl]
    simp only [Bool.not_true, cond_false]
    rw [d_turn_eq (4 - q) (by omega), bind_some', back (4 - q) (by omega), r13_same_eq hl, bind_some', decide_eq_true rfl]
    simp only [Bool.not_true, cond_false]
    have hloop : loopO (fun q_1 => l13_DefectTurned_s1 l (l.map (turnQ q)) q_1) 1 = some (Sum.inr ()) := by
      refine loopO_upto (fun j => ((j + 1 : Nat) : Int)) 6 (fun j hj => ?_) ?_
      · unfold l13_DefectTurned_s1
        rw [decide_eq_true (show ((j + 1 : Nat) : Int) ≤ 6 by omega), cond_true, d_count_eq _ (by omega), bind_some', d_count_eq _ hl, bind_some', count_turn hc, bne_self_eq_false, cond_false, d_largest_eq _ (by omega) hokt, bind_some', d_largest_eq _ hl hoks, bind_some', largest_turn hc, bne_self_eq_false, cond_false, W64_succ (by omega)]
      · unfold l13_DefectTurned_s1
        rfl
    rw [hloop, bind_some', Sum.elim_inr]
    have ht1 := turn_check hc 1
    have et1 : turnD l 1 = l.map (turnQ 1) := by unfold turnD; rw [if_pos hc]
    have hlt1 := (checkL_iff.1 ht1).1
    rw [W64_eq (n := 0 - b.y.b) (by omega) (by omega), W64_eq (n := 0 - b.y.a) (by omega) (by omega), Int.zero_sub, Int.zero_sub]
    rw [d_clip_eq b hl, bind_some', d_turn_eq 1 hl, bind_some', et1, d_clip_eq _ (by omega), bind_some']
    have ex : clipD l b = l.filterMap (clipOne b) := by unfold clipD; rw [if_pos ⟨hc, hb.ok⟩]
    have hok2 : okB ⟨⟨-b.y.b, -b.y.a⟩, ⟨b.x.a, b.x.b⟩, ⟨b.z.a, b.z.b⟩⟩ := okB_of (by dsimp only; omega) (by dsimp only; omega) (by dsimp only; omega)
    have ey : clipD (l.map (turnQ 1)) ⟨⟨-b.y.b, -b.y.a⟩, ⟨b.x.a, b.x.b⟩, ⟨b.z.a, b.z.b⟩⟩ = (l.filterMap (clipOne b)).map (turnIn (b.y.b - b.y.a)) := by
      unfold clipD
      rw [if_pos ⟨ht1, hok2⟩, List.filterMap_map, List.map_filterMap]
      refine filterMap_eq fun d hd => ?_
      have : turnQ 1 d = turn1 d := by
        have : (quartersI 1).toNat = 1 := by rw [quartersI_mod]; rfl
        unfold turnQ
        rw [this]
        rfl
      simp only [Function.comp]
      rw [this]
      exact clip_turned hb ((checkL_iff.1 hc).2 d hd)
    rw [ex, ey]
    have hcx := clip_check hc hb
    have hlx := (checkL_iff.1 hcx).1
    generalize hX : l.filterMap (clipOne b) = X at *
    rw [show (((X.length : Nat) : Int) != (((X.map (turnIn (b.y.b - b.y.a))).length : Nat) : Int)) = false by simp, cond_false]
    have hloop2 : loopO (fun q => l13_DefectTurned_s2 b X (X.map (turnIn (b.y.b - b.y.a))) q) 0 = some (Sum.inr ()) := by
      refine loopO_upto (fun j => ((j : Nat) : Int)) X.length (fun j hj => ?_) ?_
      · have hj2 : j < (X.map (turnIn (b.y.b - b.y.a))).length := by simpa using hj
        have hv := dcheck_ok ((checkL_iff.1 hcx).2 X[j] (List.getElem_mem hj))
        unfold l13_DefectTurned_s2
        rw [lt_nat hj, getI_at hj, getI_at hj2, cond_true, bind_some', bind_some', bind_some', eqV_df, List.getElem_map, W64_eq (n := b.y.b - b.y.a) (by omega) (by omega), W64_eq (n := b.y.b - b.y.a - X[j].b.y.b) (by omega) (by omega), W64_eq (n := b.y.b - b.y.a - X[j].b.y.a) (by omega) (by omega), decide_eq_true (by rfl), W64_succ (by omega)]
        rfl
      · unfold l13_DefectTurned_s2
        rw [nlt_nat]
        rfl
    rw [hloop2]
    rfl
theorem sumKnots_eq {l : List Df} (h : checkL l = 0) : loopO (fun q : Int × Int => l13_DefectWindows_s1 l q.1 q.2) (0, 0) = some ((l.map (fun d => bif knotD d then sizeD d else 0)).sum) := by
  obtain ⟨h1, h2⟩ := checkL_iff.1 h
  have ho := valid_oks h
  rw [show ((0 : Int), (0 : Int)) = ((0 : Int), ((0 : Nat) : Int)) from rfl, loopO_foldI l (fun s d => s + (bif knotD d then sizeD d else 0)) 0 (fun s j => (s, ((j : Nat) : Int))) id (fun j s => 0 ≤ s ∧ s ≤ 1200 * j) (by simp) (by
    intro j s hj hs
    have := sizeD_lo (h2 l[j] (List.getElem_mem hj))
    cases knotD l[j] <;> simp <;> omega) (by
    intro s j hj hs
    have hz := sizeD_lo (h2 l[j] (List.getElem_mem hj))
    simp only [l13_DefectWindows_s1]
    rw [lt_nat hj, getI_at hj, cond_true]
    simp only [bind_some', W64_succ (show j < 9223372036854775807 by omega), d_size_eq (ho.at hj)]
    unfold knotD
    rw [W64_eq (n := s + sizeD l[j]) (by omega) (by omega)]
    cases (l[j].k == 1) <;> cases (l[j].k == 2) <;> simp) (by
    intro s hs
    simp only [l13_DefectWindows_s1]
    rw [nlt_nat]
    rfl)]
  congr 1
  have : ∀ (l : List Df) (s : Int), l.foldl (fun s d => s + (bif knotD d then sizeD d else 0)) s = s + (l.map (fun d => bif knotD d then sizeD d else 0)).sum := by
    intro l
    induction l with
    | nil => intro s; simp
    | cons a l ih => intro s; rw [List.foldl_cons, ih]; simp; omega
  rw [this]
  simp
theorem largest_le {l : List Df} {kind c : Int} (hc : 0 ≤ c) (h : ∀ d ∈ l, d.k = kind → sizeD d ≤ c) : largestD l kind ≤ c := by
  have : ∀ (l : List Df) (n : Int), n ≤ c → (∀ d ∈ l, d.k = kind → sizeD d ≤ c) → l.foldl (lrgF kind) n ≤ c := by
    intro l
    induction l with
    | nil => intro n hn _; exact hn
    | cons a l ih =>
      intro n hn hd
      rw [List.foldl_cons]
      refine ih _ ?_ fun d hdm => hd d (by simp [hdm])
      unfold lrgF
      by_cases hk : a.k = kind
      · have := hd a (by simp) hk
        rw [show (a.k == kind) = true by simpa using hk, cond_true]
        omega
      · rw [show (a.k == kind) = false by simpa using hk, cond_false]
        exact hn
  exact this l 0 hc h
theorem knot_le_worst {l : List Df} (h : checkL l = 0) {d : Df} (hd : d ∈ l) (hk : knotD d = true) {w : Int} (hw : 1 ≤ w) : sizeD d ≤ worstP l w := by
  obtain ⟨h1, h2⟩ := checkL_iff.1 h
  refine Int.le_trans ?_ (le_maxF (f := fun d => winP l (zEnd d w)) hd)
  have hv := dcheck_ok (h2 d hd)
  have hc : winC (zEnd d w) d = sizeD d := by
    have hg : max d.b.z.a (zEnd d w).a < min d.b.z.b (zEnd d w).b := by
      unfold zEnd
      dsimp only
      omega
    rw [winC_eq, if_pos ⟨hk, hg⟩]
  have : ∀ (m : List Df), (∀ e ∈ m, dcheck e = 0) → d ∈ m → winC (zEnd d w) d ≤ winP m (zEnd d w) := by
    intro m
    induction m with
    | nil => intro _ hm; simp at hm
    | cons a m ih =>
      intro hm hdm
      have ha := winC_lo (hm a (by simp)) (zEnd d w)
      have hr := winP_lo (l := m) (fun e he => hm e (by simp [he])) (zEnd d w)
      have e : winP (a :: m) (zEnd d w) = winC (zEnd d w) a + winP m (zEnd d w) := by simp [winP]
      rw [e]
      rcases List.mem_cons.1 hdm with rfl | hdm
      · omega
      · have := ih (fun e he => hm e (by simp [he])) hdm
        omega
  rw [← hc]
  exact this l h2 hd
theorem defectWindows_true (l : List Df) (d : Df) (w : Int × Int) (hl : (l.length + 1) * 56 ≤ 140737488355328) : l13_DefectWindows_g l d w = some true := by
  unfold l13_DefectWindows_g
  rw [aw13, appO_eq (by simp; omega) (by simp; omega), bind_some', List.nil_append, appO_eq (by simp; omega) (by simp; omega), bind_some', r13_checkL_eq (by simp; omega), bind_some']
  simp only [bind_some']
  by_cases hc : checkL (l ++ [d]) = 0
  rotate_left
  · rw [show (checkL (l ++ [d]) != 0) = true by simpa using hc]; rfl
  rw [show (checkL (l ++ [d]) != 0) = false by simp [hc], cond_false]
  by_cases h1 : min w.1 w.2 < 1
  · rw [decide_eq_true h1]; rfl
  by_cases h2 : 20000 < max w.1 w.2
  · rw [decide_eq_false h1, decide_eq_true h2]; rfl
  rw [decide_eq_false h1, decide_eq_false h2, cond_false, cond_false]
  have hlow : 1 ≤ min w.1 w.2 ∧ min w.1 w.2 ≤ 20000 := by omega
  have hhigh : 1 ≤ max w.1 w.2 ∧ max w.1 w.2 ≤ 20000 := by omega
  have hle : min w.1 w.2 ≤ max w.1 w.2 := by omega
  generalize min w.1 w.2 = a at *
  generalize max w.1 w.2 = b at *
  obtain ⟨hcl, hd⟩ := checkL_snoc hc
  have ho := valid_oks hcl
  have hoc := valid_oks hc
  have hlen : l.length ≤ 9223372036854775807 := by omega
  have hlen2 : (l ++ [d]).length ≤ 9223372036854775807 := by simp; omega
  rw [d_largest_eq 1 hlen ho, bind_some', d_largest_eq 2 hlen ho, bind_some', sumKnots_eq hcl, bind_some', d_worst_eq a hlen ho, bind_some', d_worst_eq b hlen ho, d_worst_eq a hlen2 hoc]
  simp only [bind_some']
  rw [worstD_eq hcl hlow.1 hlow.2, worstD_eq hcl hhigh.1 hhigh.2, worstD_eq hc hlow.1 hlow.2]
  have w0 := (worstP_lo hcl a).1
  have hmost : max (largestD l 1) (largestD l 2) ≤ worstP l a := by
    have m1 : largestD l 1 ≤ worstP l a := largest_le w0 fun e he hk => knot_le_worst hcl he (by unfold knotD; rw [hk]; rfl) hlow.1
    have m2 : largestD l 2 ≤ worstP l a := largest_le w0 fun e he hk => knot_le_worst hcl he (by unfold knotD; rw [hk]; rfl) hlow.1
    omega
  have hsum : worstP l a ≤ (l.map (fun d => bif knotD d then sizeD d else 0)).sum := by
    have hnn : ∀ e ∈ l, 0 ≤ (bif knotD e then sizeD e else 0) := by
      intro e he
      have := sizeD_lo ((checkL_iff.1 hcl).2 e he)
      cases knotD e
      · exact Int.le_refl _
      · show 0 ≤ sizeD e
        omega
    refine maxF_le.2 ⟨(sum_lo (c := 1200) (by omega) fun e he => ⟨hnn e he, ?_⟩).1, fun e he => sum_mono fun x hx => ?_⟩
    · have := sizeD_lo ((checkL_iff.1 hcl).2 e he)
      cases knotD e
      · show (0 : Int) ≤ 1200
        omega
      · show sizeD e ≤ 1200
        omega
    · have := hnn x hx
      have hs := sizeD_lo ((checkL_iff.1 hcl).2 x hx)
      unfold winC
      cases knotD x
      · exact Int.le_refl _
      · simp only [Bool.true_and, cond_true]
        cases (!emS (meet x.b.z (zEnd e a)))
        · show (0 : Int) ≤ sizeD x
          omega
        · exact Int.le_refl _
  rw [decide_eq_true hmost, decide_eq_true hsum, decide_eq_true (worst_mono_w hcl hle), decide_eq_true (worst_snoc hc a)]
  rfl

end Go.Proofs.Ytbgoflekklfdjaa
