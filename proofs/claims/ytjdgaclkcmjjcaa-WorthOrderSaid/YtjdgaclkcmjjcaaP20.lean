/- P20: what functions of the program compute (written by mod.py). -/
import Derived.Test.YtjdgaclkcmjjcaaP17
import Derived.KernelRfl
namespace Go.Proofs.Ytjdgaclkcmjjcaa
open Go Go.Ab
set_option linter.unusedSimpArgs false
set_option linter.unusedVariables false
set_option maxRecDepth 20000

/-! wood: the volume within a box -/
def exts : List TSlice → Int → List Sp
  | [], _ => []
  | e :: es, a => ⟨a, a + e.Len⟩ :: exts es (a + e.Len)
theorem exts_len : ∀ (l : List TSlice) (a : Int), (exts l a).length = l.length
  | [], _ => rfl
  | e :: es, a => by
    show (exts es (a + e.Len)).length + 1 = es.length + 1
    rw [exts_len es]
theorem exts_snoc : ∀ (l : List TSlice) (e : TSlice) (a : Int), exts (l ++ [e]) a = exts l a ++ [⟨a + slen l, a + slen l + e.Len⟩]
  | [], e, a => by simp [exts, slen]
  | f :: l, e, a => by
    show _ :: exts (l ++ [e]) (a + f.Len) = _ :: (exts l (a + f.Len) ++ _)
    rw [exts_snoc l e, slen_cons, show a + f.Len + slen l = a + (f.Len + slen l) by omega]
theorem exts_get : ∀ (l : List TSlice) (a : Int) (j : Nat) (hj : j < l.length), (exts l a)[j]? = some ⟨a + slen (l.take j), a + slen (l.take j) + l[j].Len⟩
  | [], a, j, hj => by simp at hj
  | f :: l, a, 0, hj => by simp [exts, slen]
  | f :: l, a, j + 1, hj => by
    show (exts l (a + f.Len))[j]? = _
    have hj' : j < l.length := by simpa using hj
    rw [exts_get l _ j hj', List.take_succ_cons, slen_cons, List.getElem_cons_succ, show a + f.Len + slen (l.take j) = a + (f.Len + slen (l.take j)) by omega]
theorem set_mid {α : Type} (A : List α) (n : Nat) (z v : α) : (A ++ List.replicate (n + 1) z).set A.length v = A ++ [v] ++ List.replicate n z := by
  rw [List.set_append_right _ _ (Nat.le_refl _)]
  simp [List.replicate_succ]
theorem extents_eq {l : List TSlice} (h : SolOk l) : solid_extents_g l = some (exts l 0) := by
  have hl := h.len
  have htot := h.tot
  unfold solid_extents_g
  have hm : mkO 16 (⟨0, 0⟩ : Sp) ((l.length : Nat) : Int) = some (List.replicate l.length ⟨0, 0⟩) := by
    unfold mkO
    rw [decide_eq_true (by omega), decide_eq_true (by omega), decide_eq_true (by omega)]
    rfl
  rw [hm, bind_some']
  have := loopO_upto (step := fun q : Int × Int × List Sp => solid_extents_s1 l q.1 q.2.1 q.2.2) (fun j => (slen (l.take j), (j : Int), exts (l.take j) 0 ++ List.replicate (l.length - j) ⟨0, 0⟩)) l.length (y := exts l 0) (fun j hj => by
    have h1 := slen_bd h j (by omega)
    have h2 := slen_bd h (j + 1) (by omega)
    have h3 := slen_take hj
    have hlen : (exts (l.take j) 0).length = j := by rw [exts_len, List.length_take]; omega
    unfold solid_extents_s1
    dsimp only
    have hg : getI (exts (l.take j) 0 ++ List.replicate (l.length - j) (⟨0, 0⟩ : Sp)) (j : Int) = some ⟨0, 0⟩ := by
      rw [getI_nat, List.getElem?_append_right (by omega), hlen, Nat.sub_self, List.getElem?_replicate]
      simp; omega
    rw [lt_nat hj, cond_true, getI_at hj, bind_some', hg, bind_some', W64_eq (by omega) (by omega), W64_succ (by omega), h3]
    have hset : setI (exts (l.take j) 0 ++ List.replicate (l.length - j) (⟨0, 0⟩ : Sp)) (j : Int) (⟨slen (l.take j), slen (l.take j) + l[j].Len⟩ : Sp) = exts (l.take (j + 1)) 0 ++ List.replicate (l.length - (j + 1)) (⟨0, 0⟩ : Sp) := by
      rw [List.take_succ_eq_append_getElem hj, exts_snoc, Int.zero_add]
      have := set_mid (exts (l.take j) 0) (l.length - (j + 1)) (⟨0, 0⟩ : Sp) ⟨slen (l.take j), slen (l.take j) + l[j].Len⟩
      rw [hlen, show l.length - (j + 1) + 1 = l.length - j by omega] at this
      exact this
    rw [hset]) (by
    unfold solid_extents_s1
    dsimp only
    rw [nlt_nat, List.take_length, Nat.sub_self]
    simp)
  rw [show (slen (l.take 0), ((0 : Nat) : Int), exts (l.take 0) 0 ++ List.replicate (l.length - 0) (⟨0, 0⟩ : Sp)) = ((0 : Int), (0 : Int), List.replicate l.length (⟨0, 0⟩ : Sp)) from rfl] at this
  rw [this]
  rfl
/-- The volume within, what is lacking, and the length. -/
def vol (X Y z : Sp) : List TSlice → Int → Int
  | [], _ => 0
  | e :: es, a => cm ⟨a, a + e.Len⟩ z * wsum X Y e.Sec.Rows e.Sec.Low + vol X Y z es (a + e.Len)
def lc (X Y z : Sp) : List TSlice → Int → Int
  | [], _ => 0
  | e :: es, a => cm ⟨a, a + e.Len⟩ z * (area X Y - wsum X Y e.Sec.Rows e.Sec.Low) + lc X Y z es (a + e.Len)
def lz (z : Sp) : List TSlice → Int → Int
  | [], _ => 0
  | e :: es, a => cm ⟨a, a + e.Len⟩ z + lz z es (a + e.Len)
theorem vol_snoc (X Y z : Sp) : ∀ (l : List TSlice) (e : TSlice) (a : Int), vol X Y z (l ++ [e]) a = vol X Y z l a + cm ⟨a + slen l, a + slen l + e.Len⟩ z * wsum X Y e.Sec.Rows e.Sec.Low
  | [], e, a => by simp [vol, slen]
  | f :: l, e, a => by
    show _ + vol X Y z (l ++ [e]) (a + f.Len) = _ + vol X Y z l (a + f.Len) + _
    rw [vol_snoc X Y z l e, slen_cons, show a + f.Len + slen l = a + (f.Len + slen l) by omega]
    omega
theorem vol_lc (X Y z : Sp) : ∀ (l : List TSlice) (a : Int), vol X Y z l a + lc X Y z l a = area X Y * lz z l a
  | [], a => by simp [vol, lc, lz]
  | f :: l, a => by
    have ih := vol_lc X Y z l (a + f.Len)
    show cm ⟨a, a + f.Len⟩ z * wsum X Y f.Sec.Rows f.Sec.Low + vol X Y z l (a + f.Len) + (cm ⟨a, a + f.Len⟩ z * (area X Y - wsum X Y f.Sec.Rows f.Sec.Low) + lc X Y z l (a + f.Len)) = area X Y * (cm ⟨a, a + f.Len⟩ z + lz z l (a + f.Len))
    rw [Int.mul_sub, Int.mul_add, Int.mul_comm (area X Y) (cm _ _)]
    omega
theorem lz_eq {z : Sp} (hz : z.a < z.b) : ∀ (l : List TSlice) (a : Int), (∀ e ∈ l, 1 ≤ e.Len) → lz z l a = cm ⟨a, a + slen l⟩ z ∧ 0 ≤ slen l
  | [], a, _ => by
    unfold lz slen cm
    simp
    omega
  | f :: l, a, h => by
    have hf := h f (List.mem_cons_self ..)
    have ih := lz_eq hz l (a + f.Len) fun e he => h e (List.mem_cons_of_mem _ he)
    show cm ⟨a, a + f.Len⟩ z + lz z l (a + f.Len) = _ ∧ _
    rw [ih.1, slen_cons]
    unfold cm
    dsimp only
    omega
theorem vol_bd {X Y z : Sp} : ∀ (l : List TSlice) (a : Int), (∀ e ∈ l, SecOk e.Sec ∧ 1 ≤ e.Len ∧ e.Len ≤ 20000) → 0 ≤ vol X Y z l a ∧ vol X Y z l a ≤ 28800000000 * l.length
  | [], a, _ => by simp [vol]
  | f :: l, a, h => by
    have hf := h f (List.mem_cons_self ..)
    have ih := vol_bd l (a + f.Len) (fun e he => h e (List.mem_cons_of_mem _ he)) (X := X) (Y := Y) (z := z)
    have h1 : cm ⟨a, a + f.Len⟩ z ≤ 20000 := cm_le (by omega) (by show a + f.Len - a ≤ 20000; omega)
    have h2 := wsum_big X Y f.Sec.Rows f.Sec.Low hf.1.rng
    have h3 := wsum_nonneg X Y f.Sec.Rows f.Sec.Low
    have hlen := hf.1.len
    have h4 := Int.mul_le_mul h1 (show wsum X Y f.Sec.Rows f.Sec.Low ≤ 1440000 by omega) h3 (by omega)
    have h5 := Int.mul_nonneg (cm_nonneg ⟨a, a + f.Len⟩ z) h3
    show 0 ≤ _ + vol X Y z l (a + f.Len) ∧ _ + vol X Y z l (a + f.Len) ≤ _
    rw [List.length_cons]
    omega
theorem len_le {l : List TSlice} (h : SolOk l) : ∀ e ∈ l, SecOk e.Sec ∧ 1 ≤ e.Len ∧ e.Len ≤ 20000 := by
  intro e he
  have h1 := h.sec e he
  obtain ⟨j, hj, rfl⟩ := List.getElem_of_mem he
  have h2 := slen_bd h j (by omega)
  have h3 := slen_bd h (j + 1) (by omega)
  have h4 := slen_take hj
  have := h.tot
  exact ⟨h1.1, h1.2.1, by omega⟩
theorem solidWithin_eq {l : List TSlice} (h : SolOk l) (hc : r11_Check_g l = some 0) (b : Bx) : solid_Within_g l b = some (vol b.x b.y b.z l 0) := by
  have hl := h.len
  have htot := h.tot
  unfold solid_Within_g solid_valid_g
  rw [solid_check_eq, hc, bind_some', show ((0 : Int) != 0) = false from rfl, cond_false, bind_some', extents_eq h, bind_some']
  have := loopO_upto (step := fun q : Int × Int => solid_Within_s1 b l (exts l 0) q.1 q.2) (fun j => (vol b.x b.y b.z (l.take j) 0, (j : Int))) l.length (y := vol b.x b.y b.z l 0) (fun j hj => by
    have h1 := slen_bd h j (by omega)
    have h2 := slen_bd h (j + 1) (by omega)
    have h3 := slen_take hj
    have hs := h.sec _ (List.getElem_mem hj)
    have hb := vol_bd (X := b.x) (Y := b.y) (z := b.z) (l.take j) 0 fun e he => len_le h e (List.mem_of_mem_take he)
    have hb2 := vol_bd (X := b.x) (Y := b.y) (z := b.z) (l.take (j + 1)) 0 fun e he => len_le h e (List.mem_of_mem_take he)
    have h4 := vol_snoc b.x b.y b.z (l.take j) l[j] 0
    rw [← List.take_succ_eq_append_getElem hj, Int.zero_add] at h4
    rw [List.length_take] at hb hb2
    have hg := exts_get l 0 j hj
    rw [Int.zero_add] at hg
    unfold solid_Within_s1
    dsimp only
    rw [exts_len, lt_nat hj, cond_true, getI_nat, hg, bind_some', letB_eq, span_len_meet (by dsimp only; omega), getI_at hj, bind_some', within_eq hs.1 hs.2.2, bind_some', W64_succ (by omega)]
    have h5 := Int.mul_nonneg (cm_nonneg ⟨slen (l.take j), slen (l.take j) + l[j].Len⟩ b.z) (wsum_nonneg b.x b.y l[j].Sec.Rows l[j].Sec.Low)
    dsimp only
    by_cases hp : 0 < cm ⟨slen (l.take j), slen (l.take j) + l[j].Len⟩ b.z
    · rw [decide_eq_true hp, cond_true, W64_eq (n := cm _ _ * _) (by omega) (by omega), ← h4, W64_eq (by omega) (by omega)]
    · rw [decide_eq_false hp, cond_false]
      have h6 := cm_nonneg ⟨slen (l.take j), slen (l.take j) + l[j].Len⟩ b.z
      have h7 : cm ⟨slen (l.take j), slen (l.take j) + l[j].Len⟩ b.z = 0 := by omega
      rw [h7, Int.zero_mul, Int.add_zero] at h4
      rw [h4]) (by
    unfold solid_Within_s1
    dsimp only
    rw [exts_len, nlt_nat, List.take_length]
    rfl)
  rw [show (vol b.x b.y b.z (l.take 0) 0, ((0 : Nat) : Int)) = ((0 : Int), (0 : Int)) from rfl] at this
  rw [this]
  rfl
theorem lk_up {X Y : Sp} (h : RectOk X Y) (s : TSection) : 1000 * (area X Y - wsum X Y s.Rows s.Low) ≤ lk X Y s * area X Y ∧ (area X Y - wsum X Y s.Rows s.Low = 0 → lk X Y s = 0) := by
  have h1 := area_bd h
  have h2 := wsum_bd h s
  unfold lk
  generalize area X Y = A at *
  generalize wsum X Y s.Rows s.Low = w at *
  rw [Int.tdiv_eq_ediv_of_nonneg (by omega)]
  constructor
  · have := Int.lt_ediv_add_one_mul_self (1000 * (A - w) + A - 1) (show 0 < A by omega)
    rw [Int.add_mul] at this
    omega
  · intro h0
    rw [h0]
    exact Int.ediv_eq_zero_of_lt (by omega) (by omega)
theorem wood {X Y z : Sp} (hr : RectOk X Y) (hz : z.a < z.b) : ∀ (l : List TSlice) (a m : Int), 0 ≤ m → (∀ e ∈ l, 1 ≤ e.Len) →
    m ≤ wn X Y z l a m ∧ 1000 * lc X Y z l a ≤ wn X Y z l a m * (area X Y * lz z l a) ∧ 0 ≤ lc X Y z l a ∧ 0 ≤ lz z l a ∧ (wn X Y z l a m = 0 → lc X Y z l a = 0) ∧ (m = 0 → lc X Y z l a = 0 → wn X Y z l a m = 0)
  | [], a, m, hm, _ => by simp [wn, lc, lz]
  | f :: l, a, m, hm, h => by
    have hf := h f (List.mem_cons_self ..)
    have hA := area_bd hr
    have hw := wsum_bd hr f.Sec
    have hl := lk_bd hr f.Sec
    have hu := lk_up hr f.Sec
    have hc := cm_nonneg ⟨a, a + f.Len⟩ z
    have hov : (a < z.b ∧ z.a < a + f.Len) ↔ 0 < cm ⟨a, a + f.Len⟩ z := by
      unfold cm
      dsimp only
      omega
    have hm' : 0 ≤ (if a < z.b ∧ z.a < a + f.Len then max m (lk X Y f.Sec) else m) := by split <;> omega
    have ih := wood hr hz l (a + f.Len) _ hm' fun e he => h e (List.mem_cons_of_mem _ he)
    show m ≤ wn X Y z l (a + f.Len) _ ∧ 1000 * (cm ⟨a, a + f.Len⟩ z * (area X Y - wsum X Y f.Sec.Rows f.Sec.Low) + lc X Y z l (a + f.Len)) ≤ wn X Y z l (a + f.Len) _ * (area X Y * (cm ⟨a, a + f.Len⟩ z + lz z l (a + f.Len))) ∧ 0 ≤ cm ⟨a, a + f.Len⟩ z * (area X Y - wsum X Y f.Sec.Rows f.Sec.Low) + lc X Y z l (a + f.Len) ∧ 0 ≤ cm ⟨a, a + f.Len⟩ z + lz z l (a + f.Len) ∧ (wn X Y z l (a + f.Len) _ = 0 → cm ⟨a, a + f.Len⟩ z * (area X Y - wsum X Y f.Sec.Rows f.Sec.Low) + lc X Y z l (a + f.Len) = 0) ∧ (m = 0 → cm ⟨a, a + f.Len⟩ z * (area X Y - wsum X Y f.Sec.Rows f.Sec.Low) + lc X Y z l (a + f.Len) = 0 → wn X Y z l (a + f.Len) _ = 0)
    generalize hM : (if a < z.b ∧ z.a < a + f.Len then max m (lk X Y f.Sec) else m) = m' at ih ⊢
    obtain ⟨i1, i2, i3, i4, i5, i6⟩ := ih
    have hp : 0 ≤ cm ⟨a, a + f.Len⟩ z * (area X Y - wsum X Y f.Sec.Rows f.Sec.Low) := Int.mul_nonneg hc (by omega)
    by_cases ho : a < z.b ∧ z.a < a + f.Len
    · rw [if_pos ho] at hM
      have hcp := hov.1 ho
      have k1 : cm ⟨a, a + f.Len⟩ z * (1000 * (area X Y - wsum X Y f.Sec.Rows f.Sec.Low)) ≤ cm ⟨a, a + f.Len⟩ z * (lk X Y f.Sec * area X Y) := Int.mul_le_mul_of_nonneg_left hu.1 hc
      have k2 : lk X Y f.Sec * area X Y ≤ wn X Y z l (a + f.Len) m' * area X Y := Int.mul_le_mul_of_nonneg_right (by omega) (by omega)
      have k3 := Int.mul_le_mul_of_nonneg_left k2 hc
      refine ⟨by omega, ?_, by omega, by omega, fun h0 => ?_, fun h0 h1 => ?_⟩
      · rw [Int.mul_add, Int.mul_add, Int.mul_add, show wn X Y z l (a + f.Len) m' * (area X Y * cm ⟨a, a + f.Len⟩ z) = cm ⟨a, a + f.Len⟩ z * (wn X Y z l (a + f.Len) m' * area X Y) by rw [← Int.mul_assoc, Int.mul_comm], show 1000 * (cm ⟨a, a + f.Len⟩ z * (area X Y - wsum X Y f.Sec.Rows f.Sec.Low)) = cm ⟨a, a + f.Len⟩ z * (1000 * (area X Y - wsum X Y f.Sec.Rows f.Sec.Low)) by rw [← Int.mul_assoc, Int.mul_comm 1000, Int.mul_assoc]]
        omega
      · have hlk : lk X Y f.Sec = 0 := by omega
        rw [hlk, Int.zero_mul] at hu
        rw [i5 h0, show area X Y - wsum X Y f.Sec.Rows f.Sec.Low = 0 by omega, Int.mul_zero]
        rfl
      · have hz0 : cm ⟨a, a + f.Len⟩ z * (area X Y - wsum X Y f.Sec.Rows f.Sec.Low) = 0 := by omega
        have hz1 : area X Y - wsum X Y f.Sec.Rows f.Sec.Low = 0 := by
          rcases Int.mul_eq_zero.1 hz0 with h2 | h2
          · omega
          · exact h2
        have := hu.2 hz1
        exact i6 (by omega) (by omega)
    · rw [if_neg ho] at hM
      have hc0 : cm ⟨a, a + f.Len⟩ z = 0 := by
        have := fun h => ho (hov.2 h)
        omega
      rw [hc0]
      simp only [Int.zero_mul, Int.zero_add]
      exact ⟨by omega, i2, i3, i4, i5, fun h0 => i6 (by omega)⟩
theorem wn_mono {X Y z y : Sp} (h1 : z.a ≤ y.a) (h2 : y.b ≤ z.b) : ∀ (l : List TSlice) (a m m' : Int), m' ≤ m → wn X Y y l a m' ≤ wn X Y z l a m
  | [], a, m, m', h => h
  | f :: l, a, m, m', h => by
    refine wn_mono h1 h2 l _ _ _ ?_
    split
    · rw [if_pos (by omega)]
      omega
    · split <;> omega
theorem wane_val {l : List TSlice} (h : SolOk l) (hc : r11_Check_g l = some 0) (b : Bx) : worth_Wane_g l b = some (bif r20_across_g b.x && (r20_across_g b.y && wthin b.z (slen l)) then wn b.x b.y b.z l 0 0 else 1000) := by
  unfold worth_Wane_g
  rw [solid_check_eq, hc, bind_some', isRect_eq, solid_length_eq, length_eq h hc, show ((0 : Int) != 0) = false from rfl, cond_false]
  simp only [bind_some', isWithin_eq]
  cases hx : r20_across_g b.x with
  | false => rfl
  | true =>
    cases hy : r20_across_g b.y with
    | false => rfl
    | true =>
      cases hz : wthin b.z (slen l) with
      | false => rfl
      | true =>
        have hr : RectOk b.x b.y := ⟨across_t hx, across_t hy⟩
        have e1 := lacks_eq h (vr := ⟨b.x, b.y⟩) hr
        have e2 := worst_eq (l := zns b.x b.y l 0) (by rw [zns_len]; have := h.len; omega) b.z
        rw [wz_fold] at e2
        show Option.bind (worth_lacks_g l ⟨b.x, b.y⟩) _ = _
        rw [e1, bind_some', e2]
        rfl
theorem across_i {s : Sp} (h : -600 ≤ s.a ∧ s.a < s.b ∧ s.b ≤ 600) : r20_across_g s = true := by
  unfold r20_across_g
  rw [decide_eq_true h.1, decide_eq_true h.2.1, decide_eq_true h.2.2]
  rfl
theorem wthin_i {z : Sp} {n : Int} (h : 0 ≤ z.a ∧ z.a < z.b ∧ z.b ≤ n) : wthin z n = true := by
  unfold wthin
  rw [decide_eq_true h.1, decide_eq_true h.2.1, decide_eq_true h.2.2]
  rfl
theorem worthWood_true (l : List TSlice) (b : Bx) (z : Sp) (hl : LowOk l) : l20_WorthWood_g l b z = some true := by
  unfold l20_WorthWood_g
  obtain ⟨c, hc, hsm⟩ := small_total ⟨l, [], (⟨(⟨#[]⟩ : ByteArray), 0, 0, 0, 0, [], []⟩ : TProduct), 0⟩
  rw [hc, bind_some', aw20]
  cases c with
  | false => rfl
  | true =>
    obtain ⟨k, hk, hok⟩ := solid_total l hl
    rw [solid_check_eq, hk]
    simp only [bind_some', Bool.not_true, cond_false]
    by_cases h0 : k = 0
    · subst h0
      have h := hok rfl
      have hsl := slen_all h
      rw [show ((0 : Int) != 0) = false from rfl, cond_false, wane_val h hk, bind_some', solid_length_eq, length_eq h hk]
      simp only [bind_some']
      by_cases hin : (-600 ≤ b.x.a ∧ b.x.a < b.x.b ∧ b.x.b ≤ 600) ∧ (-600 ≤ b.y.a ∧ b.y.a < b.y.b ∧ b.y.b ≤ 600) ∧ (0 ≤ b.z.a ∧ b.z.a < b.z.b ∧ b.z.b ≤ slen l)
      · obtain ⟨hx, hy, hz⟩ := hin
        have hr : RectOk b.x b.y := ⟨hx, hy⟩
        have hA := area_bd hr
        have hB := wn_bd (z := b.z) hr l 0 0 (by omega)
        have hW := wood hr hz.2.1 l 0 0 (by omega) fun e he => (h.sec e he).2.1
        have hL := (lz_eq hz.2.1 l 0 fun e he => (h.sec e he).2.1).1
        have hV := vol_lc b.x b.y b.z l 0
        have hvb := vol_bd (X := b.x) (Y := b.y) (z := b.z) l 0 (len_le h)
        have hlen := h.len
        have hL2 : lz b.z l 0 = b.z.b - b.z.a := by
          rw [hL]
          unfold cm
          dsimp only
          omega
        rw [hL2] at hV hW
        rw [across_i hx, across_i hy, wthin_i hz, solidWithin_eq h hk]
        simp only [Bool.and_true, cond_true, bind_some']
        rw [W64_eq (n := b.x.b - b.x.a) (by omega) (by omega), W64_eq (n := b.y.b - b.y.a) (by omega) (by omega), W64_eq (n := b.z.b - b.z.a) (by omega) (by omega), show (b.x.b - b.x.a) * (b.y.b - b.y.a) = area b.x b.y from rfl]
        have hP := Int.mul_le_mul (a := area b.x b.y) (c := 1440000) (b := b.z.b - b.z.a) (d := 20000) (by omega) (by omega) (by omega) (by omega)
        have hP0 : 0 ≤ area b.x b.y * (b.z.b - b.z.a) := Int.mul_nonneg (by omega) (by omega)
        have hQ := Int.mul_le_mul (a := wn b.x b.y b.z l 0 0) (c := 1000) (b := area b.x b.y * (b.z.b - b.z.a)) (d := 28800000000) (by omega) (by omega) (by omega) (by omega)
        have hQ0 := Int.mul_nonneg hB.1 hP0
        have hLack : area b.x b.y * (b.z.b - b.z.a) - vol b.x b.y b.z l 0 = lc b.x b.y b.z l 0 := by omega
        rw [W64_eq (n := area b.x b.y) (by omega) (by omega), W64_eq (n := area b.x b.y * _) (by omega) (by omega), hLack, W64_eq (n := lc _ _ _ _ _) (by omega) (by omega), W64_eq (n := wn _ _ _ _ _ _ * _) (by omega) (by omega), W64_eq (n := 1000 * _) (by omega) (by omega)]
        rw [decide_eq_false (p := wn _ _ _ _ _ _ < 0) (by omega), decide_eq_false (p := 1000 < wn _ _ _ _ _ _) (by omega), decide_eq_false (p := b.x.a < -600) (by omega), decide_eq_false (p := 600 < b.x.b) (by omega), decide_eq_false (p := b.y.a < -600) (by omega), decide_eq_false (p := 600 < b.y.b) (by omega), decide_eq_false (p := b.z.a < 0) (by omega), decide_eq_false (p := slen l < b.z.b) (by omega), decide_eq_false (p := b.x.b ≤ b.x.a) (by omega), decide_eq_false (p := b.y.b ≤ b.y.a) (by omega), decide_eq_false (p := b.z.b ≤ b.z.a) (by omega), decide_eq_false (p := lc _ _ _ _ _ < 0) (by omega)]
        have hE : ((wn b.x b.y b.z l 0 0 == 0) == (lc b.x b.y b.z l 0 == 0)) = true := by
          rw [beq_iff_eq, Bool.eq_iff_iff, beq_iff_eq, beq_iff_eq]
          exact ⟨hW.2.2.2.2.1, hW.2.2.2.2.2 rfl⟩
        rw [hE, decide_eq_false (p := wn _ _ _ _ _ _ * _ < 1000 * _) (by omega)]
        simp only [cond_false, Bool.not_true]
        by_cases hn : min b.z.b z.b ≤ max b.z.a z.a
        · rw [decide_eq_true hn]
          rfl
        · rw [decide_eq_false hn, cond_false, wane_val h hk, bind_some']
          dsimp only
          rw [across_i hx, across_i hy, wthin_i (z := ⟨max b.z.a z.a, min b.z.b z.b⟩) (by dsimp only; omega)]
          have := wn_mono (X := b.x) (Y := b.y) (z := b.z) (y := ⟨max b.z.a z.a, min b.z.b z.b⟩) (by dsimp only; omega) (by dsimp only; omega) l 0 0 0 (by omega)
          simp only [Bool.and_true, cond_true]
          rw [decide_eq_true this]
          rfl
      · have hf : (r20_across_g b.x && (r20_across_g b.y && wthin b.z (slen l))) = false := by
          cases h3 : (r20_across_g b.x && (r20_across_g b.y && wthin b.z (slen l))) with
          | false => rfl
          | true =>
            rw [Bool.and_eq_true, Bool.and_eq_true] at h3
            exact absurd ⟨across_t h3.1, across_t h3.2.1, wthin_t h3.2.2⟩ hin
        rw [hf]
        simp only [cond_false]
        rw [show decide ((1000 : Int) < 0) = false from rfl, show decide ((1000 : Int) < 1000) = false from rfl, show ((1000 : Int) == 1000) = true from rfl]
        simp only [cond_false, cond_true]
        by_cases g1 : b.x.a < -600
        · rw [decide_eq_true g1]; rfl
        by_cases g2 : 600 < b.x.b
        · rw [decide_eq_false g1, decide_eq_true g2]; rfl
        by_cases g3 : b.y.a < -600
        · rw [decide_eq_false g1, decide_eq_false g2, decide_eq_true g3]; rfl
        by_cases g4 : 600 < b.y.b
        · rw [decide_eq_false g1, decide_eq_false g2, decide_eq_false g3, decide_eq_true g4]; rfl
        by_cases g5 : b.z.a < 0
        · rw [decide_eq_false g1, decide_eq_false g2, decide_eq_false g3, decide_eq_false g4, decide_eq_true g5]; rfl
        by_cases g6 : slen l < b.z.b
        · rw [decide_eq_false g1, decide_eq_false g2, decide_eq_false g3, decide_eq_false g4, decide_eq_false g5, decide_eq_true g6]; rfl
        by_cases g7 : b.x.b ≤ b.x.a
        · rw [decide_eq_false g1, decide_eq_false g2, decide_eq_false g3, decide_eq_false g4, decide_eq_false g5, decide_eq_false g6, decide_eq_true g7]; rfl
        by_cases g8 : b.y.b ≤ b.y.a
        · rw [decide_eq_false g1, decide_eq_false g2, decide_eq_false g3, decide_eq_false g4, decide_eq_false g5, decide_eq_false g6, decide_eq_false g7, decide_eq_true g8]; rfl
        by_cases g9 : b.z.b ≤ b.z.a
        · rw [decide_eq_false g1, decide_eq_false g2, decide_eq_false g3, decide_eq_false g4, decide_eq_false g5, decide_eq_false g6, decide_eq_false g7, decide_eq_false g8, decide_eq_true g9]; rfl
        exact absurd ⟨⟨by omega, by omega, by omega⟩, ⟨by omega, by omega, by omega⟩, by omega, by omega, by omega⟩ hin
    · rw [ne_t h0]
      rfl

/-! the order of the defects, and motions -/
theorem vsum_count (b : Bx) (fine : Int) : ∀ (d : List Df) (n : Int), vsum d b fine n = n - fine * (d.countP (tch b) : Nat)
  | [], n => by simp [vsum]
  | e :: d, n => by
    have ih := vsum_count b fine d (vf b fine n e)
    show vsum d b fine (vf b fine n e) = _
    rw [ih]
    unfold vf
    cases h : tch b e with
    | true =>
      rw [if_pos rfl, List.countP_cons_of_pos h, Int.natCast_add, Int.mul_add]
      simp
      omega
    | false =>
      rw [if_neg (by simp), List.countP_cons_of_neg (by simp [h])]
theorem wo_rev (l : List TSlice) (d : List Df) (p : TProduct) (b : Bx) (fine : Int) : wo l d.reverse p b fine = wo l d p b fine := by
  have h1 : vld l d.reverse p = vld l d p := by
    obtain ⟨c, hc, hok⟩ := defect_total d
    obtain ⟨c', hc', hok'⟩ := defect_total d.reverse
    have : c = 0 ↔ c' = 0 := by
      rw [hok, hok']
      simp
    unfold vld
    rw [hc, hc']
    have hs : ∀ c : Int, (some c == some (0 : Int)) = (c == 0) := fun c => rfl
    rw [hs, hs, show (c' == 0) = (c == 0) by rw [Bool.eq_iff_iff, beq_iff_eq, beq_iff_eq, this]]
  have h2 : acc l d.reverse p b = acc l d p b := by
    unfold acc
    rw [List.any_reverse]
  have h3 : val d.reverse p b fine = val d p b fine := by
    unfold val
    rw [vsum_count, vsum_count, List.countP_reverse]
  unfold wo
  rw [h1, h2, h3]
theorem order_s1 {g : Tsawmilllaw20_Given} (hd : g.Defects.length ≤ 70) : loopO (fun q : Int × (List TSlice) × (List Df) × ByteArray × Int × Int × Int × Int × (List Int) × (List Int) × Int => l20_WorthOrder_s1 g q.1 q.2.1 q.2.2.1 q.2.2.2.1 q.2.2.2.2.1 q.2.2.2.2.2.1 q.2.2.2.2.2.2.1 q.2.2.2.2.2.2.2.1 q.2.2.2.2.2.2.2.2.1 q.2.2.2.2.2.2.2.2.2.1 q.2.2.2.2.2.2.2.2.2.2) ((W64 (((g.Defects.length : Nat) : Int) - 1)), g.Solid, [], g.Product.Name, g.Product.Thick, g.Product.Width, g.Product.Allow, g.Product.Wane, g.Product.Lengths, g.Product.Prices, g.Fine) = some (g.Solid, g.Defects.reverse, g.Product.Name, g.Product.Thick, g.Product.Width, g.Product.Allow, g.Product.Wane, g.Product.Lengths, g.Product.Prices, g.Fine) := by
  have := loopO_upto (step := fun q : Int × (List TSlice) × (List Df) × ByteArray × Int × Int × Int × Int × (List Int) × (List Int) × Int => l20_WorthOrder_s1 g q.1 q.2.1 q.2.2.1 q.2.2.2.1 q.2.2.2.2.1 q.2.2.2.2.2.1 q.2.2.2.2.2.2.1 q.2.2.2.2.2.2.2.1 q.2.2.2.2.2.2.2.2.1 q.2.2.2.2.2.2.2.2.2.1 q.2.2.2.2.2.2.2.2.2.2) (fun j => (((g.Defects.length : Nat) : Int) - 1 - (j : Int), g.Solid, g.Defects.reverse.take j, g.Product.Name, g.Product.Thick, g.Product.Width, g.Product.Allow, g.Product.Wane, g.Product.Lengths, g.Product.Prices, g.Fine)) g.Defects.length (y := (g.Solid, g.Defects.reverse, g.Product.Name, g.Product.Thick, g.Product.Width, g.Product.Allow, g.Product.Wane, g.Product.Lengths, g.Product.Prices, g.Fine)) (fun j hj => by
    unfold l20_WorthOrder_s1
    dsimp only
    have hj' : j < g.Defects.reverse.length := by simpa using hj
    have e1 : getI g.Defects (((g.Defects.length : Nat) : Int) - 1 - (j : Int)) = some (g.Defects.reverse[j]) := by
      rw [show (((g.Defects.length : Nat) : Int) - 1 - (j : Int)) = ((g.Defects.length - 1 - j : Nat) : Int) by omega, getI_at (by omega), List.getElem_reverse]
    rw [decide_eq_true (by omega), cond_true, e1, bind_some', appO_eq (by simp; omega) (by simp; omega), bind_some', W64_eq (by omega) (by omega), List.take_succ_eq_append_getElem hj', show ((g.Defects.length : Nat) : Int) - 1 - (j : Int) - 1 = ((g.Defects.length : Nat) : Int) - 1 - ((j + 1 : Nat) : Int) by omega]) (by
    unfold l20_WorthOrder_s1
    dsimp only
    rw [decide_eq_false (by omega), show g.Defects.length = g.Defects.reverse.length by simp, List.take_length]
    rfl)
  rw [W64_eq (by omega) (by omega)]
  rw [show ((g.Defects.length : Nat) : Int) - 1 - ((0 : Nat) : Int) = ((g.Defects.length : Nat) : Int) - 1 by omega] at this
  exact this
def mvS (rows : Int) (e : TSlice) : TSlice := ⟨e.Len, ⟨W64 (e.Sec.Low + rows), e.Sec.Rows⟩⟩
def mvP (rows : Int) (s : Sp) : Sp := ⟨W64 (s.a + W64 (10 * rows)), W64 (s.b + W64 (10 * rows))⟩
def mvD (rows : Int) (e : Df) : Df := ⟨e.k, ⟨e.b.x, mvP rows e.b.y, e.b.z⟩⟩
def farS (e : TSlice) : Bool := decide (e.Sec.Low < -1000) || decide (1000 < e.Sec.Low)
def farD (e : Df) : Bool := decide (e.b.y.a < -5000) || decide (5000 < e.b.y.b)
abbrev OrdT := (List TSlice) × (List Df) × ByteArray × Int × Int × Int × Int × (List Int) × (List Int) × Int
abbrev ordT (g : Tsawmilllaw20_Given) (l : List TSlice) (d : List Df) : OrdT := (l, d, g.Product.Name, g.Product.Thick, g.Product.Width, g.Product.Allow, g.Product.Wane, g.Product.Lengths, g.Product.Prices, g.Fine)
theorem map_fold {α β : Type} (f : α → β) (l : List α) : l.foldl (fun (s : List β) e => s ++ [f e]) [] = l.map f := by
  have : ∀ (l : List α) (s : List β), l.foldl (fun (s : List β) e => s ++ [f e]) s = s ++ l.map f := by
    intro l
    induction l with
    | nil => intro s; simp
    | cons a l ih => intro s; rw [List.foldl_cons, ih]; simp
  simpa using this l []
theorem order_s2 {g : Tsawmilllaw20_Given} (hs : g.Solid.length ≤ 30) (rows : Int) : loopO (fun q : Int × OrdT => l20_WorthOrder_s2 g rows q.1 q.2.1 q.2.2.1 q.2.2.2.1 q.2.2.2.2.1 q.2.2.2.2.2.1 q.2.2.2.2.2.2.1 q.2.2.2.2.2.2.2.1 q.2.2.2.2.2.2.2.2.1 q.2.2.2.2.2.2.2.2.2.1 q.2.2.2.2.2.2.2.2.2.2) (0, ordT g [] []) = some (bif g.Solid.any farS then .inl true else .inr (ordT g (g.Solid.map (mvS rows)) [])) := by
  have := loopO_foldX (step := fun q : Int × OrdT => l20_WorthOrder_s2 g rows q.1 q.2.1 q.2.2.1 q.2.2.2.1 q.2.2.2.2.1 q.2.2.2.2.2.1 q.2.2.2.2.2.2.1 q.2.2.2.2.2.2.2.1 q.2.2.2.2.2.2.2.2.1 q.2.2.2.2.2.2.2.2.2.1 q.2.2.2.2.2.2.2.2.2.2) g.Solid farS (fun (s : List TSlice) e => s ++ [mvS rows e]) [] (fun s j => ((j : Int), ordT g s [])) (.inl true) (fun s => .inr (ordT g s [])) (fun j s => s.length = j) rfl (fun j s hj _ h => by simp [h]) (fun s j hj h hb => by
    unfold farS at hb
    rw [Bool.or_eq_false_iff] at hb
    unfold l20_WorthOrder_s2
    dsimp only
    rw [lt_nat hj, cond_true, getI_at hj, bind_some', hb.1, hb.2, cond_false, cond_false, appO_eq (by simp [h]; omega) (by simp [h]; omega), bind_some', W64_succ (by omega)]
    rfl) (fun s j hj h hb => by
    unfold farS at hb
    unfold l20_WorthOrder_s2
    dsimp only
    rw [lt_nat hj, cond_true, getI_at hj, bind_some', aw20]
    cases h1 : decide (g.Solid[j].Sec.Low < -1000) with
    | true => rfl
    | false =>
      rw [h1, Bool.false_or] at hb
      rw [hb]
      rfl) (fun s _ => by
    unfold l20_WorthOrder_s2
    dsimp only
    rw [nlt_nat]
    rfl)
  rw [map_fold] at this
  exact this
theorem order_s3 {g : Tsawmilllaw20_Given} (hd : g.Defects.length ≤ 70) (rows : Int) (l : List TSlice) : loopO (fun q : Int × OrdT => l20_WorthOrder_s3 g rows q.1 q.2.1 q.2.2.1 q.2.2.2.1 q.2.2.2.2.1 q.2.2.2.2.2.1 q.2.2.2.2.2.2.1 q.2.2.2.2.2.2.2.1 q.2.2.2.2.2.2.2.2.1 q.2.2.2.2.2.2.2.2.2.1 q.2.2.2.2.2.2.2.2.2.2) (0, ordT g l []) = some (bif g.Defects.any farD then .inl true else .inr (ordT g l (g.Defects.map (mvD rows)))) := by
  have := loopO_foldX (step := fun q : Int × OrdT => l20_WorthOrder_s3 g rows q.1 q.2.1 q.2.2.1 q.2.2.2.1 q.2.2.2.2.1 q.2.2.2.2.2.1 q.2.2.2.2.2.2.1 q.2.2.2.2.2.2.2.1 q.2.2.2.2.2.2.2.2.1 q.2.2.2.2.2.2.2.2.2.1 q.2.2.2.2.2.2.2.2.2.2) g.Defects farD (fun (s : List Df) e => s ++ [mvD rows e]) [] (fun s j => ((j : Int), ordT g l s)) (.inl true) (fun s => .inr (ordT g l s)) (fun j s => s.length = j) rfl (fun j s hj _ h => by simp [h]) (fun s j hj h hb => by
    unfold farD at hb
    rw [Bool.or_eq_false_iff] at hb
    unfold l20_WorthOrder_s3
    dsimp only
    rw [lt_nat hj, cond_true, getI_at hj, bind_some', hb.1, hb.2, cond_false, cond_false, appO_eq (by simp [h]; omega) (by simp [h]; omega), bind_some', W64_succ (by omega)]
    rfl) (fun s j hj h hb => by
    unfold farD at hb
    unfold l20_WorthOrder_s3
    dsimp only
    rw [lt_nat hj, cond_true, getI_at hj, bind_some', aw20]
    cases h1 : decide (g.Defects[j].b.y.a < -5000) with
    | true => rfl
    | false =>
      rw [h1, Bool.false_or] at hb
      rw [hb]
      rfl) (fun s _ => by
    unfold l20_WorthOrder_s3
    dsimp only
    rw [nlt_nat]
    rfl)
  rw [map_fold] at this
  exact this
def far1 (e : Df) : Bool := decide (e.b.y.a < -600) || decide (600 < e.b.y.b)
theorem far_eq {l : List Df} (hl : l.length ≤ 1000) : l20_far_g l = some (l.any far1) := by
  unfold l20_far_g
  have := loopO_foldX (step := fun q : Int => l20_far_s1 l q) l far1 (fun (u : Unit) _ => u) () (fun _ j => (j : Int)) (.inl true) (fun _ => .inr ()) (fun _ _ => True) trivial (fun _ _ _ _ _ => trivial) (fun s j hj _ hb => by
    unfold far1 at hb
    rw [Bool.or_eq_false_iff] at hb
    unfold l20_far_s1
    rw [lt_nat hj, cond_true, getI_at hj, bind_some', hb.1, bind_some', hb.2, W64_succ (by omega)]
    rfl) (fun s j hj _ hb => by
    unfold far1 at hb
    unfold l20_far_s1
    rw [lt_nat hj, cond_true, getI_at hj, bind_some', bind_some']
    cases h1 : decide (l[j].b.y.a < -600) with
    | true => rfl
    | false =>
      rw [h1, Bool.false_or] at hb
      rw [hb]
      rfl) (fun _ _ => by
    unfold l20_far_s1
    rw [nlt_nat]
    rfl)
  rw [show ((0 : Nat) : Int) = 0 from rfl] at this
  rw [this, bind_some']
  cases l.any far1 <;> rfl
/-! what a motion keeps -/
theorem mvP_eq {rows : Int} (hr : -20 ≤ rows ∧ rows ≤ 20) {s : Sp} (h : -10000 ≤ s.a ∧ s.a < s.b ∧ s.b ≤ 10000) : mvP rows s = ⟨s.a + 10 * rows, s.b + 10 * rows⟩ := by
  unfold mvP
  rw [W64_eq (n := 10 * rows) (by omega) (by omega), W64_eq (by omega) (by omega), W64_eq (by omega) (by omega)]
theorem wsum_mv {X Y : Sp} (rows : Int) : ∀ (es : List Sp) (low : Int), wsum X ⟨Y.a + 10 * rows, Y.b + 10 * rows⟩ es (low + rows) = wsum X Y es low
  | [], low => rfl
  | e :: es, low => by
    have ih := wsum_mv rows es (low + 1) (X := X) (Y := Y)
    show cm e X * cm (hts (low + rows)) _ + wsum X _ es (low + rows + 1) = cm e X * cm (hts low) Y + wsum X Y es (low + 1)
    rw [show low + rows + 1 = low + 1 + rows by omega, ih]
    have : cm (hts (low + rows)) ⟨Y.a + 10 * rows, Y.b + 10 * rows⟩ = cm (hts low) Y := by
      unfold cm hts
      dsimp only
      omega
    rw [this]
theorem wn_mv {X Y z : Sp} {rows : Int} (hr : -20 ≤ rows ∧ rows ≤ 20) : ∀ (l : List TSlice) (a m : Int), l.any farS = false → wn X ⟨Y.a + 10 * rows, Y.b + 10 * rows⟩ z (l.map (mvS rows)) a m = wn X Y z l a m
  | [], a, m, _ => rfl
  | e :: l, a, m, h => by
    rw [List.any_cons, Bool.or_eq_false_iff] at h
    have h1 := h.1
    unfold farS at h1
    rw [Bool.or_eq_false_iff, decide_eq_false_iff_not, decide_eq_false_iff_not] at h1
    rw [List.map_cons]
    have hlk : lk X ⟨Y.a + 10 * rows, Y.b + 10 * rows⟩ (mvS rows e).Sec = lk X Y e.Sec := by
      unfold lk mvS
      dsimp only
      rw [W64_eq (by omega) (by omega), wsum_mv, show area X ⟨Y.a + 10 * rows, Y.b + 10 * rows⟩ = area X Y by unfold area; dsimp only; rw [show Y.b + 10 * rows - (Y.a + 10 * rows) = Y.b - Y.a by omega]]
    show wn X _ z (l.map (mvS rows)) (a + e.Len) (if a < z.b ∧ z.a < a + e.Len then max m (lk X _ (mvS rows e).Sec) else m) = wn X Y z l (a + e.Len) (if a < z.b ∧ z.a < a + e.Len then max m (lk X Y e.Sec) else m)
    rw [hlk, wn_mv hr l _ _ h.2]
theorem slen_mv (rows : Int) (l : List TSlice) : slen (l.map (mvS rows)) = slen l := by
  unfold slen
  rw [List.map_map]
  rfl
theorem dgood_t {e : Df} (h : dgood e = true) : (e.b.x.a < e.b.x.b ∧ e.b.y.a < e.b.y.b ∧ e.b.z.a < e.b.z.b) ∧ -600 ≤ e.b.y.a ∧ e.b.y.b ≤ 600 := by
  unfold dgood r13_Empty_g r13_Ranged_g r13_in_g at h
  by_cases h1 : e.b.x.b ≤ e.b.x.a
  · simp [h1] at h
  by_cases h2 : e.b.y.b ≤ e.b.y.a
  · simp [h2] at h
  by_cases h3 : e.b.z.b ≤ e.b.z.a
  · simp [h3] at h
  refine ⟨by omega, ?_⟩
  by_cases h4 : -600 ≤ e.b.y.a
  · by_cases h5 : e.b.y.b ≤ 600
    · exact ⟨h4, h5⟩
    · simp [h5] at h
  · simp [h4] at h
theorem dgood_mv {rows : Int} (hr : -20 ≤ rows ∧ rows ≤ 20) {e : Df} (h : dgood e = true) (hf : far1 (mvD rows e) = false) : dgood (mvD rows e) = true := by
  have ht := dgood_t h
  unfold mvD at hf ⊢
  rw [mvP_eq hr (by omega)] at hf ⊢
  unfold far1 at hf
  rw [Bool.or_eq_false_iff, decide_eq_false_iff_not, decide_eq_false_iff_not] at hf
  dsimp only at hf
  unfold dgood r13_Empty_g r13_Ranged_g r13_in_g at h ⊢
  dsimp only
  rw [decide_eq_false (p := e.b.y.b + 10 * rows ≤ e.b.y.a + 10 * rows) (by omega), decide_eq_true (p := -600 ≤ e.b.y.a + 10 * rows) (by omega), decide_eq_true (p := e.b.y.b + 10 * rows ≤ 600) (by omega)]
  rw [decide_eq_false (p := e.b.y.b ≤ e.b.y.a) (by omega), decide_eq_true (p := -600 ≤ e.b.y.a) (by omega), decide_eq_true (p := e.b.y.b ≤ 600) (by omega)] at h
  exact h
theorem tch_mv {rows : Int} (hr : -20 ≤ rows ∧ rows ≤ 20) {e : Df} (h : dgood e = true) {b : Bx} : tch ⟨b.x, ⟨b.y.a + 10 * rows, b.y.b + 10 * rows⟩, b.z⟩ (mvD rows e) = tch b e := by
  have ht := dgood_t h
  unfold mvD tch
  rw [mvP_eq hr (by omega)]
  dsimp only
  have : decide (ov ⟨e.b.y.a + 10 * rows, e.b.y.b + 10 * rows⟩ ⟨b.y.a + 10 * rows, b.y.b + 10 * rows⟩) = decide (ov e.b.y b.y) := by
    rw [decide_eq_decide]
    unfold ov
    dsimp only
    omega
  rw [this]
theorem any_mv {rows : Int} (hr : -20 ≤ rows ∧ rows ≤ 20) {b : Bx} : ∀ {d : List Df}, (∀ e ∈ d, dgood e = true) → (d.map (mvD rows)).any (bad3 ⟨b.x, ⟨b.y.a + 10 * rows, b.y.b + 10 * rows⟩, b.z⟩) = d.any (bad3 b) ∧ (d.map (mvD rows)).countP (tch ⟨b.x, ⟨b.y.a + 10 * rows, b.y.b + 10 * rows⟩, b.z⟩) = d.countP (tch b)
  | [], _ => ⟨rfl, rfl⟩
  | e :: d, h => by
    have ih := any_mv hr (b := b) (d := d) fun x hx => h x (List.mem_cons_of_mem _ hx)
    have ht := tch_mv hr (h e (List.mem_cons_self ..)) (b := b)
    rw [List.map_cons, List.any_cons, List.any_cons, ih.1, List.countP_cons, List.countP_cons, ih.2, ht]
    refine ⟨?_, rfl⟩
    unfold bad3
    rw [ht]
    rfl
theorem lowOk_mv {rows : Int} (hr : -20 ≤ rows ∧ rows ≤ 20) {l : List TSlice} (hl : LowOk l) (h : l.any farS = false) : LowOk (l.map (mvS rows)) := by
  intro e he
  rw [List.mem_map] at he
  obtain ⟨f, hf, rfl⟩ := he
  rw [List.any_eq_false] at h
  have h1 := h f hf
  unfold farS at h1
  rw [Bool.not_eq_true, Bool.or_eq_false_iff, decide_eq_false_iff_not, decide_eq_false_iff_not] at h1
  refine ⟨?_, (hl f hf).2⟩
  unfold mvS I64
  dsimp only
  rw [W64_eq (by omega) (by omega)]
  omega
/-- A board that is moved. -/
theorem wo_mv {rows : Int} (hr : -20 ≤ rows ∧ rows ≤ 20) {l : List TSlice} {d : List Df} {p : TProduct} {b : Bx} {fine : Int} (hs : l.any farS = false) (h : (wo l d p b fine).2 = true)
    (hy : ¬ (mvP rows b.y).a < -600 ∧ ¬ 600 < (mvP rows b.y).b) (hc : r11_Check_g (l.map (mvS rows)) = some 0) (hf : (d.map (mvD rows)).any far1 = false) : wo (l.map (mvS rows)) (d.map (mvD rows)) p ⟨b.x, mvP rows b.y, b.z⟩ fine = wo l d p b fine := by
  rcases wo_cases l d p b fine with h1 | ⟨h1, h2, h3, h4⟩
  · rw [h1] at h
    exact absurd h (by simp)
  have hd : d.length ≤ 64 ∧ ∀ e ∈ d, dgood e = true := by
    obtain ⟨c, hc, hok⟩ := defect_total d
    unfold vld at h2
    simp only [Bool.and_eq_true, beq_iff_eq] at h2
    rw [h2.2.1] at hc
    cases hc
    exact hok.1 rfl
  have hax : -600 ≤ b.y.a ∧ b.y.a < b.y.b ∧ b.y.b ≤ 600 := by
    unfold acc at h3
    simp only [Bool.and_eq_true] at h3
    exact across_t h3.2.1
  have hP := mvP_eq hr (s := b.y) (by omega)
  rw [hP] at hy ⊢
  dsimp only at hy
  have hm := any_mv hr (b := b) hd.2
  rw [h4]
  have k1 : vld (l.map (mvS rows)) (d.map (mvD rows)) p = true := by
    obtain ⟨c, hcc, hok⟩ := defect_total (d.map (mvD rows))
    have : c = 0 := hok.2 ⟨by simpa using hd.1, fun e he => by
      rw [List.any_eq_false] at hf
      have h5 := hf e he
      rw [List.mem_map] at he
      obtain ⟨f, hfm, rfl⟩ := he
      exact dgood_mv hr (hd.2 f hfm) (by simpa using h5)⟩
    subst this
    unfold vld at h2 ⊢
    simp only [Bool.and_eq_true, beq_iff_eq] at h2 ⊢
    exact ⟨hc, hcc, h2.2.2⟩
  have k2 : acc (l.map (mvS rows)) (d.map (mvD rows)) p ⟨b.x, ⟨b.y.a + 10 * rows, b.y.b + 10 * rows⟩, b.z⟩ = true := by
    unfold acc at h3 ⊢
    dsimp only
    rw [slen_mv, wn_mv hr l _ _ hs, hm.1]
    simp only [Bool.and_eq_true] at h3 ⊢
    refine ⟨h3.1, across_i (by dsimp only; omega), h3.2.2.1, h3.2.2.2.1, ?_, h3.2.2.2.2.2⟩
    have hg := h3.2.2.2.2.1
    unfold gok at hg ⊢
    dsimp only
    rw [show b.y.b + 10 * rows - (b.y.a + 10 * rows) = b.y.b - b.y.a by omega]
    exact hg
  have k3 : val (d.map (mvD rows)) p ⟨b.x, ⟨b.y.a + 10 * rows, b.y.b + 10 * rows⟩, b.z⟩ fine = val d p b fine := by
    unfold val
    rw [vsum_count, vsum_count, hm.2]
  unfold wo
  rw [h1, k1, k2, k3]
  rfl
theorem worthOrder_true (g : Tsawmilllaw20_Given) (b : Bx) (rows : Int) (hl : LowOk g.Solid) : l20_WorthOrder_g g b rows = some true := by
  unfold l20_WorthOrder_g
  obtain ⟨c, hc, hsm⟩ := small_total g
  rw [hc, bind_some', aw20]
  cases c with
  | false => rfl
  | true =>
    have hS := hsm rfl
    simp only [bind_some', Bool.not_true, cond_false]
    by_cases g1 : rows < -20
    · rw [decide_eq_true g1]; rfl
    by_cases g2 : 20 < rows
    · rw [decide_eq_false g1, decide_eq_true g2]; rfl
    by_cases g3 : b.y.a < -5000
    · rw [decide_eq_false g1, decide_eq_false g2, decide_eq_true g3]; rfl
    by_cases g4 : 5000 < b.y.b
    · rw [decide_eq_false g1, decide_eq_false g2, decide_eq_false g3, decide_eq_true g4]; rfl
    rw [decide_eq_false g1, decide_eq_false g2, decide_eq_false g3, decide_eq_false g4]
    simp only [cond_false]
    have hr : -20 ≤ rows ∧ rows ≤ 20 := by omega
    rw [of_eq hl, bind_some', order_s1 hS.2.1, bind_some']
    dsimp only
    rw [of_eq (g := ⟨g.Solid, g.Defects.reverse, g.Product, g.Fine⟩) hl b, bind_some', wo_rev, show ∀ n : Int, (n != n) = false from fun n => by simp, show ∀ b : Bool, (b == b) = true from fun b => by simp]
    simp only [cond_false, Bool.not_true]
    have e2 := order_s2 (g := g) hS.1 rows
    unfold ordT at e2
    rw [e2, bind_some']
    cases hs : g.Solid.any farS with
    | true => rfl
    | false =>
      rw [cond_false, Sum.elim_inr]
      dsimp only
      have e3 := order_s3 (g := g) hS.2.1 rows (g.Solid.map (mvS rows))
      unfold ordT at e3
      rw [e3, bind_some']
      cases hd : g.Defects.any farD with
      | true => rfl
      | false =>
        rw [cond_false, Sum.elim_inr]
        dsimp only
        have hl' := lowOk_mv hr hl hs
        rw [of_eq (g := ⟨g.Solid.map (mvS rows), g.Defects.map (mvD rows), g.Product, g.Fine⟩) hl', bind_some', show (⟨(W64 (b.y.a + (W64 (10 * rows)))), (W64 (b.y.b + (W64 (10 * rows))))⟩ : Sp) = mvP rows b.y from rfl, show (W64 (b.y.a + (W64 (10 * rows)))) = (mvP rows b.y).a from rfl, show (W64 (b.y.b + (W64 (10 * rows)))) = (mvP rows b.y).b from rfl]
        dsimp only
        cases hok : (wo g.Solid g.Defects g.Product b g.Fine).2 with
        | false => rfl
        | true =>
          by_cases g5 : (mvP rows b.y).a < -600
          · rw [decide_eq_true g5]; rfl
          by_cases g6 : 600 < (mvP rows b.y).b
          · rw [decide_eq_false g5, decide_eq_true g6]; rfl
          rw [decide_eq_false g5, decide_eq_false g6, solid_check_eq]
          obtain ⟨k, hk, _⟩ := solid_total _ hl'
          rw [hk]
          simp only [bind_some', Bool.not_true, cond_false]
          by_cases h0 : k = 0
          · subst h0
            rw [show ((0 : Int) != 0) = false from rfl, cond_false, far_eq (by simp; omega), bind_some']
            cases hf : (g.Defects.map (mvD rows)).any far1 with
            | true => rfl
            | false =>
              rw [wo_mv hr hs hok ⟨g5, g6⟩ hk hf, hok]
              simp
          · rw [ne_t h0]
            rfl

end Go.Proofs.Ytjdgaclkcmjjcaa
