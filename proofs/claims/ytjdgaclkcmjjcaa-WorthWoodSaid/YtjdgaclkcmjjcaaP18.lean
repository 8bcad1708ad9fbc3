/- P18: what functions of the program compute (written by mod.py). -/
import Derived.Test.YtjdgaclkcmjjcaaP17
import Derived.KernelRfl
namespace Go.Proofs.Ytjdgaclkcmjjcaa
open Go Go.Ab
set_option linter.unusedSimpArgs false
set_option linter.unusedVariables false
set_option maxRecDepth 20000

/-! wood: the volume within a box -/
def exts : List TSlice → Int → List Sp
  | [], _ => []
  | e :: es, a => ⟨a, a + e.Len⟩ :: exts es (a + e.Len)
theorem exts_len : ∀ (l : List TSlice) (a : Int), (exts l a).length = l.length
  | [], _ => rfl
  | e :: es, a => by
    show (exts es (a + e.Len)).length + 1 = es.length + 1
    rw [exts_len es]
theorem exts_snoc : ∀ (l : List TSlice) (e : TSlice) (a : Int), exts (l ++ [e]) a = exts l a ++ [⟨a + slen l, a + slen l + e.Len⟩]
  | [], e, a => by simp [exts, slen]
  | f :: l, e, a => by
    show _ :: exts (l ++ [e]) (a + f.Len) = _ :: (exts l (a + f.Len) ++ _)
    rw [exts_snoc l e, slen_cons, show a + f.Len + slen l = a + (f.Len + slen l) by omega]
theorem exts_get : ∀ (l : List TSlice) (a : Int) (j : Nat) (hj : j < l.length), (exts l a)[j]? = some ⟨a + slen (l.take j), a + slen (l.take j) + l[j].Len⟩
  | [], a, j, hj => by simp at hj
  | f :: l, a, 0, hj => by simp [exts, slen]
  | f :: l, a, j + 1, hj => by
    show (exts l (a + f.Len))[j]? = _
    have hj' : j < l.length := by simpa using hj
    rw [exts_get l _ j hj', List.take_succ_cons, slen_cons, List.getElem_cons_succ, show a + f.Len + slen (l.take j) = a + (f.Len + slen (l.take j)) by omega]
theorem set_mid {α : Type} (A : List α) (n : Nat) (z v : α) : (A ++ List.replicate (n + 1) z).set A.length v = A ++ [v] ++ List.replicate n z := by
  rw [List.set_append_right _ _ (Nat.le_refl _)]
  simp [List.replicate_succ]
theorem extents_eq {l : List TSlice} (h : SolOk l) : solid_extents_g l = some (exts l 0) := by
  have hl := h.len
  have htot := h.tot
  unfold solid_extents_g
  have hm : mkO 16 (⟨0, 0⟩ : Sp) ((l.length : Nat) : Int) = some (List.replicate l.length ⟨0, 0⟩) := by
    unfold mkO
    rw [decide_eq_true (by omega), decide_eq_true (by omega), decide_eq_true (by omega)]
    rfl
  rw [hm, bind_some']
  have := loopO_upto (step := fun q : Int × Int × List Sp => solid_extents_s1 l q.1 q.2.1 q.2.2) (fun j => (slen (l.take j), (j : Int), exts (l.take j) 0 ++ List.replicate (l.length - j) ⟨0, 0⟩)) l.length (y := exts l 0) (fun j hj => by
    have h1 := slen_bd h j (by omega)
    have h2 := slen_bd h (j + 1) (by omega)
    have h3 := slen_take hj
    have hlen : (exts (l.take j) 0).length = j := by rw [exts_len, List.length_take]; omega
    unfold solid_extents_s1
    dsimp only
    have hg : getI (exts (l.take j) 0 ++ List.replicate (l.length - j) (⟨0, 0⟩ : Sp)) (j : Int) = some ⟨0, 0⟩ := by
      rw [getI_nat, List.getElem?_append_right (by omega), hlen, Nat.sub_self, List.getElem?_replicate]
      simp; omega
    rw [lt_nat hj, cond_true, getI_at hj, bind_some', hg, bind_some', W64_eq (by omega) (by omega), W64_succ (by omega), h3]
    have hset : setI (exts (l.take j) 0 ++ List.replicate (l.length - j) (⟨0, 0⟩ : Sp)) (j : Int) (⟨slen (l.take j), slen (l.take j) + l[j].Len⟩ : Sp) = exts (l.take (j + 1)) 0 ++ List.replicate (l.length - (j + 1)) (⟨0, 0⟩ : Sp) := by
      rw [List.take_succ_eq_append_getElem hj, exts_snoc, Int.zero_add]
      have := set_mid (exts (l.take j) 0) (l.length - (j + 1)) (⟨0, 0⟩ : Sp) ⟨slen (l.take j), slen (l.take j) + l[j].Len⟩
      rw [hlen, show l.length - (j + 1) + 1 = l.length - j by omega] at this
      exact this
    rw [hset]) (by
    unfold solid_extents_s1
    dsimp only
    rw [nlt_nat, List.take_length, Nat.sub_self]
    simp)
  rw [show (slen (l.take 0), ((0 : Nat) : Int), exts (l.take 0) 0 ++ List.replicate (l.length - 0) (⟨0, 0⟩ : Sp)) = ((0 : Int), (0 : Int), List.replicate l.length (⟨0, 0⟩ : Sp)) from rfl] at this
  rw [this]
  rfl
/-- The volume within, what is lacking, and the length. -/
def vol (X Y z : Sp) : List TSlice → Int → Int
  | [], _ => 0
  | e :: es, a => cm ⟨a, a + e.Len⟩ z * wsum X Y e.Sec.Rows e.Sec.Low + vol X Y z es (a + e.Len)
def lc (X Y z : Sp) : List TSlice → Int → Int
  | [], _ => 0
  | e :: es, a => cm ⟨a, a + e.Len⟩ z * (area X Y - wsum X Y e.Sec.Rows e.Sec.Low) + lc X Y z es (a + e.Len)
def lz (z : Sp) : List TSlice → Int → Int
  | [], _ => 0
  | e :: es, a => cm ⟨a, a + e.Len⟩ z + lz z es (a + e.Len)
theorem vol_snoc (X Y z : Sp) : ∀ (l : List TSlice) (e : TSlice) (a : Int), vol X Y z (l ++ [e]) a = vol X Y z l a + cm ⟨a + slen l, a + slen l + e.Len⟩ z * wsum X Y e.Sec.Rows e.Sec.Low
  | [], e, a => by simp [vol, slen]
  | f :: l, e, a => by
    show _ + vol X Y z (l ++ [e]) (a + f.Len) = _ + vol X Y z l (a + f.Len) + _
    rw [vol_snoc X Y z l e, slen_cons, show a + f.Len + slen l = a + (f.Len + slen l) by omega]
    omega
theorem vol_lc (X Y z : Sp) : ∀ (l : List TSlice) (a : Int), vol X Y z l a + lc X Y z l a = area X Y * lz z l a
  | [], a => by simp [vol, lc, lz]
  | f :: l, a => by
    have ih := vol_lc X Y z l (a + f.Len)
    show cm ⟨a, a + f.Len⟩ z * wsum X Y f.Sec.Rows f.Sec.Low + vol X Y z l (a + f.Len) + (cm ⟨a, a + f.Len⟩ z * (area X Y - wsum X Y f.Sec.Rows f.Sec.Low) + lc X Y z l (a + f.Len)) = area X Y * (cm ⟨a, a + f.Len⟩ z + lz z l (a + f.Len))
    rw [Int.mul_sub, Int.mul_add, Int.mul_comm (area X Y) (cm _ _)]
    omega
theorem lz_eq {z : Sp} (hz : z.a < z.b) : ∀ (l : List TSlice) (a : Int), (∀ e ∈ l, 1 ≤ e.Len) → lz z l a = cm ⟨a, a + slen l⟩ z ∧ 0 ≤ slen l
  | [], a, _ => by
    unfold lz slen cm
    simp
    omega
  | f :: l, a, h => by
    have hf := h f (List.mem_cons_self ..)
    have ih := lz_eq hz l (a + f.Len) fun e he => h e (List.mem_cons_of_mem _ he)
    show cm ⟨a, a + f.Len⟩ z + lz z l (a + f.Len) = _ ∧ _
    rw [ih.1, slen_cons]
    unfold cm
    dsimp only
    omega
theorem vol_bd {X Y z : Sp} : ∀ (l : List TSlice) (a : Int), (∀ e ∈ l, SecOk e.Sec ∧ 1 ≤ e.Len ∧ e.Len ≤ 20000) → 0 ≤ vol X Y z l a ∧ vol X Y z l a ≤ 28800000000 * l.length
  | [], a, _ => by simp [vol]
  | f :: l, a, h => by
    have hf := h f (List.mem_cons_self ..)
    have ih := vol_bd l (a + f.Len) (fun e he => h e (List.mem_cons_of_mem _ he)) (X := X) (Y := Y) (z := z)
    have h1 : cm ⟨a, a + f.Len⟩ z ≤ 20000 := cm_le (by omega) (by show a + f.Len - a ≤ 20000; omega)
    have h2 := wsum_big X Y f.Sec.Rows f.Sec.Low hf.1.rng
    have h3 := wsum_nonneg X Y f.Sec.Rows f.Sec.Low
    have hlen := hf.1.len
    have h4 := Int.mul_le_mul h1 (show wsum X Y f.Sec.Rows f.Sec.Low ≤ 1440000 by omega) h3 (by omega)
    have h5 := Int.mul_nonneg (cm_nonneg ⟨a, a + f.Len⟩ z) h3
    show 0 ≤ _ + vol X Y z l (a + f.Len) ∧ _ + vol X Y z l (a + f.Len) ≤ _
    rw [List.length_cons]
    omega
theorem len_le {l : List TSlice} (h : SolOk l) : ∀ e ∈ l, SecOk e.Sec ∧ 1 ≤ e.Len ∧ e.Len ≤ 20000 := by
  intro e he
  have h1 := h.sec e he
  obtain ⟨j, hj, rfl⟩ := List.getElem_of_mem he
  have h2 := slen_bd h j (by omega)
  have h3 := slen_bd h (j + 1) (by omega)
  have h4 := slen_take hj
  have := h.tot
  exact ⟨h1.1, h1.2.1, by omega⟩
theorem solidWithin_eq {l : List TSlice} (h : SolOk l) (hc : r11_Check_g l = some 0) (b : Bx) : solid_Within_g l b = some (vol b.x b.y b.z l 0) := by
  have hl := h.len
  have htot := h.tot
  unfold solid_Within_g solid_valid_g
  rw [solid_check_eq, hc, bind_some', show ((0 : Int) != 0) = false from rfl, cond_false, bind_some', extents_eq h, bind_some']
  have := loopO_upto (step := fun q : Int × Int => solid_Within_s1 b l (exts l 0) q.1 q.2) (fun j => (vol b.x b.y b.z (l.take j) 0, (j : Int))) l.length (y := vol b.x b.y b.z l 0) (fun j hj => by
    have h1 := slen_bd h j (by omega)
    have h2 := slen_bd h (j + 1) (by omega)
    have h3 := slen_take hj
    have hs := h.sec _ (List.getElem_mem hj)
    have hb := vol_bd (X := b.x) (Y := b.y) (z := b.z) (l.take j) 0 fun e he => len_le h e (List.mem_of_mem_take he)
    have hb2 := vol_bd (X := b.x) (Y := b.y) (z := b.z) (l.take (j + 1)) 0 fun e he => len_le h e (List.mem_of_mem_take he)
    have h4 := vol_snoc b.x b.y b.z (l.take j) l[j] 0
    rw [← List.take_succ_eq_append_getElem hj, Int.zero_add] at h4
    rw [List.length_take] at hb hb2
    have hg := exts_get l 0 j hj
    rw [Int.zero_add] at hg
    unfold solid_Within_s1
    dsimp only
    rw [exts_len, lt_nat hj, cond_true, getI_nat, hg, bind_some', letB_eq, span_len_meet (by dsimp only; omega), getI_at hj, bind_some', within_eq hs.1 hs.2.2, bind_some', W64_succ (by omega)]
    have h5 := Int.mul_nonneg (cm_nonneg ⟨slen (l.take j), slen (l.take j) + l[j].Len⟩ b.z) (wsum_nonneg b.x b.y l[j].Sec.Rows l[j].Sec.Low)
    dsimp only
    by_cases hp : 0 < cm ⟨slen (l.take j), slen (l.take j) + l[j].Len⟩ b.z
    · rw [decide_eq_true hp, cond_true, W64_eq (n := cm _ _ * _) (by omega) (by omega), ← h4, W64_eq (by omega) (by omega)]
    · rw [decide_eq_false hp, cond_false]
      have h6 := cm_nonneg ⟨slen (l.take j), slen (l.take j) + l[j].Len⟩ b.z
      have h7 : cm ⟨slen (l.take j), slen (l.take j) + l[j].Len⟩ b.z = 0 := by omega
      rw [h7, Int.zero_mul, Int.add_zero] at h4
      rw [h4]) (by
    unfold solid_Within_s1
    dsimp only
    rw [exts_len, nlt_nat, List.take_length]
    rfl)
  rw [show (vol b.x b.y b.z (l.take 0) 0, ((0 : Nat) : Int)) = ((0 : Int), (0 : Int)) from rfl] at this
  rw [this]
  rfl
theorem lk_up {X Y : Sp} (h : RectOk X Y) (s : TSection) : 1000 * (area X Y - wsum X Y s.Rows s.Low) ≤ lk X Y s * area X Y ∧ (area X Y - wsum X Y s.Rows s.Low = 0 → lk X Y s = 0) := by
  have h1 := area_bd h
  have h2 := wsum_bd h s
  unfold lk
  generalize area X Y = A at *
  generalize wsum X Y s.Rows s.Low = w at *
  rw [Int.tdiv_eq_ediv_of_nonneg (by omega)]
  constructor
  · have := Int.lt_ediv_add_one_mul_self (1000 * (A - w) + A - 1) (show 0 < A by omega)
    rw [Int.add_mul] at this
    omega
  · intro h0
    rw [h0]
    exact Int.ediv_eq_zero_of_lt (by omega) (by omega)
theorem wood {X Y z : Sp} (hr : RectOk X Y) (hz : z.a < z.b) : ∀ (l : List TSlice) (a m : Int), 0 ≤ m → (∀ e ∈ l, 1 ≤ e.Len) →
    m ≤ wn X Y z l a m ∧ 1000 * lc X Y z l a ≤ wn X Y z l a m * (area X Y * lz z l a) ∧ 0 ≤ lc X Y z l a ∧ 0 ≤ lz z l a ∧ (wn X Y z l a m = 0 → lc X Y z l a = 0) ∧ (m = 0 → lc X Y z l a = 0 → wn X Y z l a m = 0)
  | [], a, m, hm, _ => by simp [wn, lc, lz]
  | f :: l, a, m, hm, h => by
    have hf := h f (List.mem_cons_self ..)
    have hA := area_bd hr
    have hw := wsum_bd hr f.Sec
    have hl := lk_bd hr f.Sec
    have hu := lk_up hr f.Sec
    have hc := cm_nonneg ⟨a, a + f.Len⟩ z
    have hov : (a < z.b ∧ z.a < a + f.Len) ↔ 0 < cm ⟨a, a + f.Len⟩ z := by
      unfold cm
      dsimp only
      omega
    have hm' : 0 ≤ (if a < z.b ∧ z.a < a + f.Len then max m (lk X Y f.Sec) else m) := by split <;> omega
    have ih := wood hr hz l (a + f.Len) _ hm' fun e he => h e (List.mem_cons_of_mem _ he)
    show m ≤ wn X Y z l (a + f.Len) _ ∧ 1000 * (cm ⟨a, a + f.Len⟩ z * (area X Y - wsum X Y f.Sec.Rows f.Sec.Low) + lc X Y z l (a + f.Len)) ≤ wn X Y z l (a + f.Len) _ * (area X Y * (cm ⟨a, a + f.Len⟩ z + lz z l (a + f.Len))) ∧ 0 ≤ cm ⟨a, a + f.Len⟩ z * (area X Y - wsum X Y f.Sec.Rows f.Sec.Low) + lc X Y z l (a + f.Len) ∧ 0 ≤ cm ⟨a, a + f.Len⟩ z + lz z l (a + f.Len) ∧ (wn X Y z l (a + f.Len) _ = 0 → cm ⟨a, a + f.Len⟩ z * (area X Y - wsum X Y f.Sec.Rows f.Sec.Low) + lc X Y z l (a + f.Len) = 0) ∧ (m = 0 → cm ⟨a, a + f.Len⟩ z * (area X Y - wsum X Y f.Sec.Rows f.Sec.Low) + lc X Y z l (a + f.Len) = 0 → wn X Y z l (a + f.Len) _ = 0)
    generalize hM : (if a < z.b ∧ z.a < a + f.Len then max m (lk X Y f.Sec) else m) = m' at ih ⊢
    obtain ⟨i1, i2, i3, i4, i5, i6⟩ := ih
    have hp : 0 ≤ cm ⟨a, a + f.Len⟩ z * (area X Y - wsum X Y f.Sec.Rows f.Sec.Low) := Int.mul_nonneg hc (by omega)
    by_cases ho : a < z.b ∧ z.a < a + f.Len
    · rw [if_pos ho] at hM
      have hcp := hov.1 ho
      have k1 : cm ⟨a, a + f.Len⟩ z * (1000 * (area X Y - wsum X Y f.Sec.Rows f.Sec.Low)) ≤ cm ⟨a, a + f.Len⟩ z * (lk X Y f.Sec * area X Y) := Int.mul_le_mul_of_nonneg_left hu.1 hc
      have k2 : lk X Y f.Sec * area X Y ≤ wn X Y z l (a + f.Len) m' * area X Y := Int.mul_le_mul_of_nonneg_right (by omega) (by omega)
      have k3 := Int.mul_le_mul_of_nonneg_left k2 hc
      refine ⟨by omega, ?_, by omega, by omega, fun h0 => ?_, fun h0 h1 => ?_⟩
      · rw [Int.mul_add, Int.mul_add, Int.mul_add, show wn X Y z l (a + f.Len) m' * (area X Y * cm ⟨a, a + f.Len⟩ z) = cm ⟨a, a + f.Len⟩ z * (wn X Y z l (a + f.Len) m' * area X Y) by rw [← Int.mul_assoc, Int.mul_comm], show 1000 * (cm ⟨a, a + f.Len⟩ z * (area X Y - wsum X Y f.Sec.Rows f.Sec.Low)) = cm ⟨a, a + f.Len⟩ z * (1000 * (area X Y - wsum X Y f.Sec.Rows f.Sec.Low)) by rw [← Int.mul_assoc, Int.mul_comm 1000, Int.mul_assoc]]
        omega
      · have hlk : lk X Y f.Sec = 0 := by omega
        rw [hlk, Int.zero_mul] at hu
        rw [i5 h0, show area X Y - wsum X Y f.Sec.Rows f.Sec.Low = 0 by omega, Int.mul_zero]
        rfl
      · have hz0 : cm ⟨a, a + f.Len⟩ z * (area X Y - wsum X Y f.Sec.Rows f.Sec.Low) = 0 := by omega
        have hz1 : area X Y - wsum X Y f.Sec.Rows f.Sec.Low = 0 := by
          rcases Int.mul_eq_zero.1 hz0 with h2 | h2
          · omega
          · exact h2
        have := hu.2 hz1
        exact i6 (by omega) (by omega)
    · rw [if_neg ho] at hM
      have hc0 : cm ⟨a, a + f.Len⟩ z = 0 := by
        have := fun h => ho (hov.2 h)
        omega
      rw [hc0]
      simp only [Int.zero_mul, Int.zero_add]
      exact ⟨by omega, i2, i3, i4, i5, fun h0 => i6 (by omega)⟩
theorem wn_mono {X Y z y : Sp} (h1 : z.a ≤ y.a) (h2 : y.b ≤ z.b) : ∀ (l : List TSlice) (a m m' : Int), m' ≤ m → wn X Y y l a m' ≤ wn X Y z l a m
  | [], a, m, m', h => h
  | f :: l, a, m, m', h => by
    refine wn_mono h1 h2 l _ _ _ ?_
    split
    · rw [if_pos (by omega)]
      omega
    · split <;> omega
theorem wane_val {l : List TSlice} (h : SolOk l) (hc : r11_Check_g l = some 0) (b : Bx) : worth_Wane_g l b = some (bif r20_across_g b.x && (r20_across_g b.y && wthin b.z (slen l)) then wn b.x b.y b.z l 0 0 else 1000) := by
  unfold worth_Wane_g
  rw [solid_check_eq, hc, bind_some', isRect_eq, solid_length_eq, length_eq h hc, show ((0 : Int) != 0) = false from rfl, cond_false]
  simp only [bind_some', isWithin_eq]
  cases hx : r20_across_g b.x with
  | false => rfl
  | true =>
    cases hy : r20_across_g b.y with
    | false => rfl
    | true =>
      cases hz : wthin b.z (slen l) with
      | false => rfl
      | true =>
        have hr : RectOk b.x b.y := ⟨across_t hx, across_t hy⟩
        have e1 := lacks_eq h (vr := ⟨b.x, b.y⟩) hr
        have e2 := worst_eq (l := zns b.x b.y l 0) (by rw [zns_len]; have := h.len; omega) b.z
        rw [wz_fold] at e2
        show Option.bind (worth_lacks_g l ⟨b.x, b.y⟩) _ = _
        rw [e1, bind_some', e2]
        rfl
theorem across_i {s : Sp} (h : -600 ≤ s.a ∧ s.a < s.b ∧ s.b ≤ 600) : r20_across_g s = true := by
  unfold r20_across_g
  rw [decide_eq_true h.1, decide_eq_true h.2.1, decide_eq_true h.2.2]
  rfl
theorem wthin_i {z : Sp} {n : Int} (h : 0 ≤ z.a ∧ z.a < z.b ∧ z.b ≤ n) : wthin z n = true := by
  unfold wthin
  rw [decide_eq_true h.1, decide_eq_true h.2.1, decide_eq_true h.2.2]
  rfl
theorem worthWood_true (l : List TSlice) (b : Bx) (z : Sp) (hl : LowOk l) : l20_WorthWood_g l b z = some true := by
  unfold l20_WorthWood_g
  obtain ⟨c, hc, hsm⟩ := small_total ⟨l, [], (⟨(⟨#[]⟩ : ByteArray), 0, 0, 0, 0, [], []⟩ : TProduct), 0⟩
  rw [hc, bind_some', aw20]
  cases c with
  | false => rfl
  | true =>
    obtain ⟨k, hk, hok⟩ := solid_total l hl
    rw [solid_check_eq, hk]
    simp only [bind_some', Bool.not_true, cond_false]
    by_cases h0 : k = 0
    · subst h0
      have h := hok rfl
      have hsl := slen_all h
      rw [show ((0 : Int) != 0) = false from rfl, cond_false, wane_val h hk, bind_some', solid_length_eq, length_eq h hk]
      simp only [bind_some']
      by_cases hin : (-600 ≤ b.x.a ∧ b.x.a < b.x.b ∧ b.x.b ≤ 600) ∧ (-600 ≤ b.y.a ∧ b.y.a < b.y.b ∧ b.y.b ≤ 600) ∧ (0 ≤ b.z.a ∧ b.z.a < b.z.b ∧ b.z.b ≤ slen l)
      · obtain ⟨hx, hy, hz⟩ := hin
        have hr : RectOk b.x b.y := ⟨hx, hy⟩
        have hA := area_bd hr
        have hB := wn_bd (z := b.z) hr l 0 0 (by omega)
        have hW := wood hr hz.2.1 l 0 0 (by omega) fun e he => (h.sec e he).2.1
        have hL := (lz_eq hz.2.1 l 0 fun e he => (h.sec e he).2.1).1
        have hV := vol_lc b.x b.y b.z l 0
        have hvb := vol_bd (X := b.x) (Y := b.y) (z := b.z) l 0 (len_le h)
        have hlen := h.len
        have hL2 : lz b.z l 0 = b.z.b - b.z.a := by
          rw [hL]
          unfold cm
          dsimp only
          omega
        rw [hL2] at hV hW
        rw [across_i hx, across_i hy, wthin_i hz, solidWithin_eq h hk]
        simp only [Bool.and_true, cond_true, bind_some']
        rw [W64_eq (n := b.x.b - b.x.a) (by omega) (by omega), W64_eq (n := b.y.b - b.y.a) (by omega) (by omega), W64_eq (n := b.z.b - b.z.a) (by omega) (by omega), show (b.x.b - b.x.a) * (b.y.b - b.y.a) = area b.x b.y from rfl]
        have hP := Int.mul_le_mul (a := area b.x b.y) (c := 1440000) (b := b.z.b - b.z.a) (d := 20000) (by omega) (by omega) (by omega) (by omega)
        have hP0 : 0 ≤ area b.x b.y * (b.z.b - b.z.a) := Int.mul_nonneg (by omega) (by omega)
        have hQ := Int.mul_le_mul (a := wn b.x b.y b.z l 0 0) (c := 1000) (b := area b.x b.y * (b.z.b - b.z.a)) (d := 28800000000) (by omega) (by omega) (by omega) (by omega)
        have hQ0 := Int.mul_nonneg hB.1 hP0
        have hLack : area b.x b.y * (b.z.b - b.z.a) - vol b.x b.y b.z l 0 = lc b.x b.y b.z l 0 := by omega
        rw [W64_eq (n := area b.x b.y) (by omega) (by omega), W64_eq (n := area b.x b.y * _) (by omega) (by omega), hLack, W64_eq (n := lc _ _ _ _ _) (by omega) (by omega), W64_eq (n := wn _ _ _ _ _ _ * _) (by omega) (by omega), W64_eq (n := 1000 * _) (by omega) (by omega)]
        rw [decide_eq_false (p := wn _ _ _ _ _ _ < 0) (by omega), decide_eq_false (p := 1000 < wn _ _ _ _ _ _) (by omega), decide_eq_false (p := b.x.a < -600) (by omega), decide_eq_false (p := 600 < b.x.b) (by omega), decide_eq_false (p := b.y.a < -600) (by omega), decide_eq_false (p := 600 < b.y.b) (by omega), decide_eq_false (p := b.z.a < 0) (by omega), decide_eq_false (p := slen l < b.z.b) (by omega), decide_eq_false (p := b.x.b ≤ b.x.a) (by omega), decide_eq_false (p := b.y.b ≤ b.y.a) (by omega), decide_eq_false (p := b.z.b ≤ b.z.a) (by omega), decide_eq_false (p := lc _ _ _ _ _ < 0) (by omega)]
        have hE : ((wn b.x b.y b.z l 0 0 == 0) == (lc b.x b.y b.z l 0 == 0)) = true := by
          rw [beq_iff_eq, Bool.eq_iff_iff, beq_iff_eq, beq_iff_eq]
          exact ⟨hW.2.2.2.2.1, hW.2.2.2.2.2 rfl⟩
        rw [hE, decide_eq_false (p := wn _ _ _ _ _ _ * _ < 1000 * _) (by omega)]
        simp only [cond_false, Bool.not_true]
        by_cases hn : min b.z.b z.b ≤ max b.z.a z.a
        · rw [decide_eq_true hn]
          rfl
        · rw [decide_eq_false hn, cond_false, wane_val h hk, bind_some']
          dsimp only
          rw [across_i hx, across_i hy, wthin_i (z := ⟨max b.z.a z.a, min b.z.b z.b⟩) (by dsimp only; omega)]
          have := wn_mono (X := b.x) (Y := b.y) (z := b.z) (y := ⟨max b.z.a z.a, min b.z.b z.b⟩) (by dsimp only; omega) (by dsimp only; omega) l 0 0 0 (by omega)
          simp only [Bool.and_true, cond_true]
          rw [decide_eq_true this]
          rfl
      · have hf : (r20_across_g b.x && (r20_across_g b.y && wthin b.z (slen l))) = false := by
          cases h3 : (r20_across_g b.x && (r20_across_g b.y && wthin b.z (slen l))) with
          | false => rfl
          | true =>
            rw [Bool.and_eq_true, Bool.and_eq_true] at h3
            exact absurd ⟨across_t h3.1, across_t h3.2.1, wthin_t h3.2.2⟩ hin
        rw [hf]
        simp only [cond_false]
        rw [show decide ((1000 : Int) < 0) = false from rfl, show decide ((1000 : Int) < 1000) = false from rfl, show ((1000 : Int) == 1000) = true from rfl]
        simp only [cond_false, cond_true]
        by_cases g1 : b.x.a < -600
        · rw [decide_eq_true g1]; rfl
        by_cases g2 : 600 < b.x.b
        · rw [decide_eq_false g1, decide_eq_true g2]; rfl
        by_cases g3 : b.y.a < -600
        · rw [decide_eq_false g1, decide_eq_false g2, decide_eq_true g3]; rfl
        by_cases g4 : 600 < b.y.b
        · rw [decide_eq_false g1, decide_eq_false g2, decide_eq_false g3, decide_eq_true g4]; rfl
        by_cases g5 : b.z.a < 0
        · rw [decide_eq_false g1, decide_eq_false g2, decide_eq_false g3, decide_eq_false g4, decide_eq_true g5]; rfl
        by_cases g6 : slen l < b.z.b
        · rw [decide_eq_false g1, decide_eq_false g2, decide_eq_false g3, decide_eq_false g4, decide_eq_false g5, decide_eq_true g6]; rfl
        by_cases g7 : b.x.b ≤ b.x.a
        · rw [decide_eq_false g1, decide_eq_false g2, decide_eq_false g3, decide_eq_false g4, decide_eq_false g5, decide_eq_false g6, decide_eq_true g7]; rfl
        by_cases g8 : b.y.b ≤ b.y.a
        · rw [decide_eq_false g1, decide_eq_false g2, decide_eq_false g3, decide_eq_false g4, decide_eq_false g5, decide_eq_false g6, decide_eq_false g7, decide_eq_true g8]; rfl
        by_cases g9 : b.z.b ≤ b.z.a
        · rw [decide_eq_false g1, decide_eq_false g2, decide_eq_false g3, decide_eq_false g4, decide_eq_false g5, decide_eq_false g6, decide_eq_false g7, decide_eq_false g8, decide_eq_true g9]; rfl
        exact absurd ⟨⟨by omega, by omega, by omega⟩, ⟨by omega, by omega, by omega⟩, by omega, by omega, by omega⟩ hin
    · rw [ne_t h0]
      rfl

end Go.Proofs.Ytjdgaclkcmjjcaa
