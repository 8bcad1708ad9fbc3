/- P6: what functions of the program compute (written by mod.py). -/
import Derived.Test.YtjdgaclkcmjjcaaP5
import Derived.KernelRfl
namespace Go.Proofs.Ytjdgaclkcmjjcaa
open Go Go.Ab
set_option linter.unusedSimpArgs false
set_option linter.unusedVariables false
set_option maxRecDepth 20000

/-! the worst lack over a length -/
/-- The worst lack of the slices that meet z, the first one beginning at 'at'. -/
def wn (X Y z : Sp) : List TSlice → Int → Int → Int
  | [], _, m => m
  | e :: es, a, m => wn X Y z es (a + e.Len) (if a < z.b ∧ z.a < a + e.Len then max m (lk X Y e.Sec) else m)
theorem wn_bd {X Y z : Sp} (h : RectOk X Y) : ∀ (l : List TSlice) (a m : Int), 0 ≤ m ∧ m ≤ 1000 → 0 ≤ wn X Y z l a m ∧ wn X Y z l a m ≤ 1000
  | [], _, m, hm => hm
  | e :: es, a, m, hm => by
    have h1 := lk_bd h e.Sec
    exact wn_bd h es _ _ (by split <;> omega)
/-- The zones of slices. -/
def zns (X Y : Sp) : List TSlice → Int → List Tworth_zone
  | [], _ => []
  | e :: es, a => ⟨⟨a, a + e.Len⟩, lk X Y e.Sec⟩ :: zns X Y es (a + e.Len)
theorem slen_cons (e : TSlice) (l : List TSlice) : slen (e :: l) = e.Len + slen l := by simp [slen]
theorem zns_snoc (X Y : Sp) : ∀ (l : List TSlice) (e : TSlice) (a : Int), zns X Y (l ++ [e]) a = zns X Y l a ++ [⟨⟨a + slen l, a + slen l + e.Len⟩, lk X Y e.Sec⟩]
  | [], e, a => by simp [zns, slen]
  | f :: l, e, a => by
    show _ :: zns X Y (l ++ [e]) (a + f.Len) = _ :: _
    rw [zns_snoc X Y l e (a + f.Len), slen_cons, show a + f.Len + slen l = a + (f.Len + slen l) by omega]
    rfl
theorem zns_len (X Y : Sp) : ∀ (l : List TSlice) (a : Int), (zns X Y l a).length = l.length
  | [], a => rfl
  | f :: l, a => by
    show (zns X Y l (a + f.Len)).length + 1 = l.length + 1
    rw [zns_len X Y l]
def wz (z : Sp) (m : Int) (e : Tworth_zone) : Int := if e.z_.a < z.b ∧ z.a < e.z_.b then max m e.lack else m
theorem wz_fold (X Y z : Sp) : ∀ (l : List TSlice) (a m : Int), (zns X Y l a).foldl (wz z) m = wn X Y z l a m
  | [], a, m => rfl
  | f :: l, a, m => wz_fold X Y z l (a + f.Len) _
theorem slen_bd {l : List TSlice} (h : SolOk l) : ∀ j, j ≤ l.length → 0 ≤ slen (l.take j) ∧ slen (l.take j) ≤ slen l := by
  have hnn : ∀ (m : List TSlice), (∀ e ∈ m, e ∈ l) → 0 ≤ slen m := by
    intro m
    induction m with
    | nil => intro _; simp [slen]
    | cons a m ih =>
      intro hm
      have h1 := (h.sec a (hm a (List.mem_cons_self ..))).2.1
      have h2 := ih fun e he => hm e (List.mem_cons_of_mem _ he)
      rw [slen_cons]
      omega
  intro j hj
  have h1 := hnn (l.take j) fun e he => List.mem_of_mem_take he
  have h2 := hnn (l.drop j) fun e he => List.mem_of_mem_drop he
  have h3 : slen l = slen (l.take j) + slen (l.drop j) := by
    unfold slen
    rw [← List.sum_append, ← List.map_append, List.take_append_drop]
  omega
theorem ne_t {n : Int} (h : n ≠ 0) : (n != 0) = true := by simp [h]
theorem lacks_eq {l : List TSlice} (h : SolOk l) {vr : TRect} (hr : RectOk vr.X vr.Y) : worth_lacks_g l vr = some (zns vr.X vr.Y l 0) := by
  have hl := h.len
  have htot := h.tot
  have hx := hr.x
  have hy := hr.y
  have ha := area_bd hr
  unfold worth_lacks_g
  have := loopO_upto (step := fun q : List Tworth_zone × Int × Int => worth_lacks_s1 l vr q.1 q.2.1 q.2.2) (fun j => (zns vr.X vr.Y (l.take j) 0, slen (l.take j), (j : Int))) l.length (y := zns vr.X vr.Y l 0) (fun j hj => by
    have h1 := slen_bd h j (by omega)
    have h2 := slen_bd h (j + 1) (by omega)
    have h3 := slen_take hj
    have hs := h.sec _ (List.getElem_mem hj)
    unfold worth_lacks_s1
    dsimp only
    rw [lt_nat hj, cond_true, getI_at hj, bind_some', within_eq hs.1 hs.2.2, bind_some', lack_eq hr]
    rw [W64_eq (n := vr.X.b - vr.X.a) (by omega) (by omega), W64_eq (n := vr.Y.b - vr.Y.a) (by omega) (by omega), show (vr.X.b - vr.X.a) * (vr.Y.b - vr.Y.a) = area vr.X vr.Y from rfl, W64_eq (n := area _ _) (by omega) (by omega), ne_t (by omega), cond_true]
    rw [appO_eq (by rw [zns_len, List.length_take]; simp; omega) (by rw [zns_len, List.length_take]; simp; omega), bind_some', W64_eq (by omega) (by omega), W64_succ (by omega), h3, List.take_succ_eq_append_getElem hj, zns_snoc, Int.zero_add]) (by
    unfold worth_lacks_s1
    dsimp only
    rw [nlt_nat, List.take_length]
    rfl)
  rw [show (zns vr.X vr.Y (l.take 0) 0, slen (l.take 0), ((0 : Nat) : Int)) = (([] : List Tworth_zone), (0 : Int), (0 : Int)) from rfl] at this
  rw [this]
  rfl
theorem worst_eq {l : List Tworth_zone} (hl : l.length ≤ 1000) (z : Sp) : worth_worst_g l z = some (l.foldl (wz z) 0) := by
  unfold worth_worst_g
  have := loopO_fold (step := fun q : Int × Int => worth_worst_s1 l z q.1 q.2) l (wz z) 0 (fun m j => (m, (j : Int))) (fun m => m) (fun m j hj => by
    unfold worth_worst_s1 wz
    dsimp only
    rw [lt_nat hj, cond_true, getI_at hj, bind_some', W64_succ (by omega)]
    by_cases h1 : l[j].z_.a < z.b
    · rw [decide_eq_true h1, cond_true]
      by_cases h2 : z.a < l[j].z_.b
      · rw [decide_eq_true h2, cond_true, if_pos ⟨h1, h2⟩]
      · rw [decide_eq_false h2, cond_false, if_neg (by omega)]
    · rw [decide_eq_false h1, cond_false, if_neg (by omega)]) (fun m => by
    unfold worth_worst_s1
    dsimp only
    rw [nlt_nat]
    rfl)
  rw [show (((0 : Int)), ((0 : Nat) : Int)) = ((0 : Int), (0 : Int)) from rfl] at this
  rw [this]
  rfl
/-- What the reference cuts out. -/
noncomputable def prt (z : Sp) (a n : Int) : Int := r11_part_g ⟨max z.a 0, min z.b 20000⟩ a n
noncomputable def cuts (z : Sp) : List TSlice → Int → List TSlice
  | [], _ => []
  | e :: es, a => (if a < z.b ∧ z.a < a + e.Len then [⟨prt z a e.Len, e.Sec⟩] else []) ++ cuts z es (a + e.Len)
theorem cuts_snoc (z : Sp) : ∀ (l : List TSlice) (e : TSlice) (a : Int), cuts z (l ++ [e]) a = cuts z l a ++ (if a + slen l < z.b ∧ z.a < a + slen l + e.Len then [⟨prt z (a + slen l) e.Len, e.Sec⟩] else [])
  | [], e, a => by simp [cuts, slen]
  | f :: l, e, a => by
    show _ ++ cuts z (l ++ [e]) (a + f.Len) = _ ++ cuts z l (a + f.Len) ++ _
    rw [cuts_snoc z l e (a + f.Len), slen_cons, show a + f.Len + slen l = a + (f.Len + slen l) by omega, List.append_assoc]
theorem cuts_len (z : Sp) : ∀ (l : List TSlice) (a : Int), (cuts z l a).length ≤ l.length
  | [], a => by simp [cuts]
  | f :: l, a => by
    have := cuts_len z l (a + f.Len)
    show (_ ++ cuts z l (a + f.Len)).length ≤ l.length + 1
    rw [List.length_append]
    split <;> simp <;> omega
theorem cuts_mem {z : Sp} {c : TSlice} : ∀ {l : List TSlice} {a : Int}, c ∈ cuts z l a → ∃ e ∈ l, c.Sec = e.Sec
  | [], a, h => by simp [cuts] at h
  | f :: l, a, h => by
    have h : c ∈ (if a < z.b ∧ z.a < a + f.Len then [⟨prt z a f.Len, f.Sec⟩] else []) ++ cuts z l (a + f.Len) := h
    rcases List.mem_append.1 h with h | h
    · split at h
      · rw [List.mem_singleton] at h
        exact ⟨f, List.mem_cons_self .., by rw [h]⟩
      · simp at h
    · obtain ⟨e, he, h⟩ := cuts_mem h
      exact ⟨e, List.mem_cons_of_mem _ he, h⟩
theorem cuts_fold (X Y z : Sp) : ∀ (l : List TSlice) (a m : Int), (cuts z l a).foldl (fun m e => max m (lk X Y e.Sec)) m = wn X Y z l a m
  | [], a, m => rfl
  | f :: l, a, m => by
    show ((if a < z.b ∧ z.a < a + f.Len then [(⟨prt z a f.Len, f.Sec⟩ : TSlice)] else []) ++ cuts z l (a + f.Len)).foldl _ m = wn X Y z l (a + f.Len) (if a < z.b ∧ z.a < a + f.Len then max m (lk X Y f.Sec) else m)
    rw [List.foldl_append, cuts_fold X Y z l]
    split <;> rfl
theorem cut_eq {l : List TSlice} (h : SolOk l) (hc : r11_Check_g l = some 0) {z : Sp} (hz : 0 ≤ z.a ∧ z.a < z.b ∧ z.b ≤ slen l) : r11_Cut_g l z = some (cuts z l 0) := by
  have hl := h.len
  have htot := h.tot
  unfold r11_Cut_g
  rw [hc, bind_some', show ((0 : Int) != 0) = false from rfl, cond_false]
  have := loopO_upto (step := fun q : List TSlice × Int × Int => r11_Cut_s1 l z q.1 q.2.1 q.2.2) (fun j => (cuts z (l.take j) 0, slen (l.take j), (j : Int))) l.length (y := cuts z l 0) (fun j hj => by
    have h1 := slen_bd h j (by omega)
    have h2 := slen_bd h (j + 1) (by omega)
    have h3 := slen_take hj
    have hs := h.sec _ (List.getElem_mem hj)
    have hlen := cuts_len z (l.take j) 0
    rw [List.length_take] at hlen
    unfold r11_Cut_s1
    dsimp only
    rw [lt_nat hj, cond_true, getI_at hj]
    simp only [bind_some']
    rw [W64_eq (n := slen _ + _) (by omega) (by omega), W64_succ (by omega)]
    have hp : (0 < r11_part_g (⟨max z.a 0, min z.b 20000⟩ : Sp) (slen (l.take j)) l[j].Len) ↔ (slen (l.take j) < z.b ∧ z.a < slen (l.take j) + l[j].Len) := by
      unfold r11_part_g
      dsimp only
      rw [W64_eq (n := slen _ + _) (by omega) (by omega)]
      by_cases h4 : min (min z.b 20000) (slen (l.take j) + l[j].Len) ≤ max (max z.a 0) (slen (l.take j))
      · rw [decide_eq_true h4, cond_true]
        omega
      · rw [decide_eq_false h4, cond_false, W64_eq (by omega) (by omega)]
        omega
    rw [h3, List.take_succ_eq_append_getElem hj, cuts_snoc, Int.zero_add]
    by_cases h5 : slen (l.take j) < z.b ∧ z.a < slen (l.take j) + l[j].Len
    · rw [decide_eq_true (hp.2 h5), cond_true, appO_eq (by simp; omega) (by simp; omega), bind_some', if_pos h5]
      rfl
    · rw [decide_eq_false fun h => h5 (hp.1 h), cond_false, if_neg h5, List.append_nil]) (by
    unfold r11_Cut_s1
    dsimp only
    rw [nlt_nat, List.take_length]
    rfl)
  rw [show (cuts z (l.take 0) 0, slen (l.take 0), ((0 : Nat) : Int)) = (([] : List TSlice), (0 : Int), (0 : Int)) from rfl] at this
  rw [this]
  rfl
theorem r20_wane_eq {l : List TSlice} (h : SolOk l) (hc : r11_Check_g l = some 0) {b : Bx} (hr : RectOk b.x b.y) (hz : 0 ≤ b.z.a ∧ b.z.a < b.z.b ∧ b.z.b ≤ slen l) : r20_wane_g l b = some (wn b.x b.y b.z l 0 0) := by
  have hl := h.len
  have hx := hr.x
  have hy := hr.y
  have ha := area_bd hr
  have hlen := cuts_len b.z l 0
  unfold r20_wane_g
  rw [cut_eq h hc hz, bind_some']
  have := loopO_fold (step := fun q : Int × Int => r20_wane_s1 b (cuts b.z l 0) q.1 q.2) (cuts b.z l 0) (fun m e => max m (lk b.x b.y e.Sec)) 0 (fun m j => (m, (j : Int))) (fun m => m) (fun m j hj => by
    obtain ⟨e, he, hes⟩ := cuts_mem (List.getElem_mem hj)
    have hs := h.sec e he
    rw [← hes] at hs
    unfold r20_wane_s1
    dsimp only
    rw [lt_nat hj, cond_true, getI_at hj, bind_some', r10_within_eq hs.1 hs.2.2, bind_some', lack_eq hr]
    rw [W64_eq (n := b.x.b - b.x.a) (by omega) (by omega), W64_eq (n := b.y.b - b.y.a) (by omega) (by omega), show (b.x.b - b.x.a) * (b.y.b - b.y.a) = area b.x b.y from rfl, W64_eq (n := area _ _) (by omega) (by omega), ne_t (by omega), cond_true, W64_succ (by omega)]) (fun m => by
    unfold r20_wane_s1
    dsimp only
    rw [nlt_nat]
    rfl)
  rw [show (((0 : Int)), ((0 : Nat) : Int)) = ((0 : Int), (0 : Int)) from rfl] at this
  rw [this, cuts_fold]
  rfl
def wthin (z : Sp) (n : Int) : Bool := decide (0 ≤ z.a) && (decide (z.a < z.b) && decide (z.b ≤ n))
theorem isWithin_eq (z : Sp) (n : Int) : worth_isWithin_g z n = wthin z n := by
  unfold worth_isWithin_g wthin
  cases decide (0 ≤ z.a) <;> cases decide (z.a < z.b) <;> rfl
theorem r20_within_eq {l : List TSlice} {b : Bx} {n : Int} (h : r11_Length_g l = some n) : r20_within_g l b = some (r20_across_g b.x && r20_across_g b.y && wthin b.z n) := by
  unfold r20_within_g wthin
  rw [h]
  cases r20_across_g b.x <;> cases r20_across_g b.y <;> cases decide (0 ≤ b.z.a) <;> cases decide (b.z.a < b.z.b) <;> rfl
theorem wthin_t {z : Sp} {n : Int} (h : wthin z n = true) : 0 ≤ z.a ∧ z.a < z.b ∧ z.b ≤ n := by
  unfold wthin at h
  simp only [Bool.and_eq_true, decide_eq_true_eq] at h
  exact h
theorem wthin_0 (z : Sp) : wthin z 0 = false := by
  unfold wthin
  by_cases h1 : 0 ≤ z.a
  · by_cases h2 : z.a < z.b
    · rw [decide_eq_false (p := z.b ≤ 0) (by omega)]
      simp
    · rw [decide_eq_false h2]
      simp
  · rw [decide_eq_false h1]
    rfl
abbrev LowOk (l : List TSlice) : Prop := ∀ e ∈ l, I64 e.Sec.Low ∧ I64 e.Len
/-- Wane is the same on both sides. -/
theorem wane_both {l : List TSlice} (hl : LowOk l) (b : Bx) : ∃ w, worth_Wane_g l b = some w ∧ r20_Wane_g l b = some w ∧ 0 ≤ w ∧ w ≤ 1000 ∧ ((w = 1000) ∨ (SolOk l ∧ r11_Check_g l = some 0 ∧ RectOk b.x b.y ∧ (0 ≤ b.z.a ∧ b.z.a < b.z.b ∧ b.z.b ≤ slen l) ∧ w = wn b.x b.y b.z l 0 0)) := by
  obtain ⟨c, hc, hok⟩ := solid_total l hl
  unfold worth_Wane_g r20_Wane_g
  rw [solid_check_eq, hc, bind_some', isRect_eq, solid_length_eq]
  by_cases h0 : c = 0
  · subst h0
    have h := hok rfl
    have hlen := length_eq h hc
    rw [show ((0 : Int) != 0) = false from rfl, cond_false, hlen, r20_within_eq hlen]
    simp only [bind_some', isWithin_eq]
    cases hx : r20_across_g b.x with
    | false => exact ⟨1000, rfl, rfl, by omega, by omega, .inl rfl⟩
    | true =>
      cases hy : r20_across_g b.y with
      | false => exact ⟨1000, rfl, rfl, by omega, by omega, .inl rfl⟩
      | true =>
        cases hz : wthin b.z (slen l) with
        | false => exact ⟨1000, rfl, rfl, by omega, by omega, .inl rfl⟩
        | true =>
          have hr : RectOk b.x b.y := ⟨across_t hx, across_t hy⟩
          have hzz := wthin_t hz
          have hb := wn_bd (z := b.z) hr l 0 0 (by omega)
          have e1 := lacks_eq h (vr := ⟨b.x, b.y⟩) hr
          have e2 := worst_eq (l := zns b.x b.y l 0) (by rw [zns_len]; have := h.len; omega) b.z
          rw [wz_fold] at e2
          refine ⟨_, ?_, ?_, hb.1, hb.2, .inr ⟨h, trivial, hr, hzz, rfl⟩⟩
          · show Option.bind (worth_lacks_g l ⟨b.x, b.y⟩) _ = _
            rw [e1, bind_some', e2]
            rfl
          · show Option.bind (r20_wane_g l b) _ = _
            rw [r20_wane_eq h hc hr hzz]
            rfl
  · have hlen : r11_Length_g l = some 0 := by
      unfold r11_Length_g
      rw [hc, bind_some', ne_t h0]
      rfl
    rw [ne_t h0, r20_within_eq hlen, wthin_0]
    refine ⟨1000, rfl, ?_, by omega, by omega, .inl rfl⟩
    cases r20_across_g b.x <;> cases r20_across_g b.y <;> rfl
theorem small_total (g : Tsawmilllaw20_Given) : ∃ c, l20_Small_g g = some c ∧ (c = true → g.Solid.length ≤ 30 ∧ g.Defects.length ≤ 70 ∧ g.Product.Lengths.length ≤ 10 ∧ g.Product.Prices.length ≤ 10 ∧ g.Product.Name.size ≤ 100) := by
  unfold l20_Small_g
  by_cases h1 : 30 < g.Solid.length
  · rw [decide_eq_true (by omega)]
    exact ⟨false, rfl, fun h => by simp at h⟩
  · rw [decide_eq_false (by omega), cond_false]
    by_cases h2 : 70 < g.Defects.length
    · rw [decide_eq_true (by omega)]
      exact ⟨false, rfl, fun h => by simp at h⟩
    · rw [decide_eq_false (by omega), cond_false]
      by_cases h3 : 10 < g.Product.Lengths.length
      · rw [decide_eq_true (by omega)]
        exact ⟨false, rfl, fun h => by simp at h⟩
      · rw [decide_eq_false (by omega), cond_false]
        by_cases h4 : 10 < g.Product.Prices.length
        · rw [decide_eq_true (by omega)]
          exact ⟨false, rfl, fun h => by simp at h⟩
        · rw [decide_eq_false (by omega), cond_false]
          by_cases h5 : 100 < g.Product.Name.size
          · rw [decide_eq_true (by omega)]
            exact ⟨false, rfl, fun h => by simp at h⟩
          · rw [decide_eq_false (by omega), cond_false]
            have := loopO_allN (step := fun q : Int => l20_Small_s1 g q) g.Solid.length (fun j => (j : Int)) (fun j => (g.Solid[j]?).elim true fun e => !decide (130 < ((e.Sec.Rows.length : Nat) : Int))) false (fun j hj => by
              unfold l20_Small_s1
              rw [lt_nat hj, cond_true, getI_at hj, bind_some', W64_succ (by omega), List.getElem?_eq_getElem hj]
              show _ = bif !decide (130 < ((g.Solid[j].Sec.Rows.length : Nat) : Int)) then _ else _
              cases decide (130 < ((g.Solid[j].Sec.Rows.length : Nat) : Int)) <;> rfl) (by
              unfold l20_Small_s1
              rw [nlt_nat]
              rfl)
            rw [show ((0 : Nat) : Int) = 0 from rfl] at this
            rw [this, bind_some']
            cases (List.range g.Solid.length).all (fun j => (g.Solid[j]?).elim true fun e => !decide (130 < ((e.Sec.Rows.length : Nat) : Int))) with
            | false => exact ⟨false, rfl, fun h => by simp at h⟩
            | true => exact ⟨true, rfl, fun _ => by omega⟩
theorem lowOk_of {l : List TSlice} (h : ∀ e ∈ l, e.ok) : LowOk l := fun e he => by
  have := h e he
  exact ⟨this.2.1, this.1⟩
theorem worthWanes_true (l : List TSlice) (b : Bx) (hl : LowOk l) : l20_WorthWanes_g l b = some true := by
  unfold l20_WorthWanes_g
  obtain ⟨c, hc, _⟩ := small_total ⟨l, [], (⟨(⟨#[]⟩ : ByteArray), 0, 0, 0, 0, [], []⟩ : TProduct), 0⟩
  rw [hc, bind_some', aw20]
  cases c with
  | false => rfl
  | true =>
    obtain ⟨w, h1, h2, _⟩ := wane_both hl b
    rw [h1, h2]
    show (bif (w == w) then _ else _) = _
    rw [show (w == w) = true by simp]
    rfl

end Go.Proofs.Ytjdgaclkcmjjcaa
