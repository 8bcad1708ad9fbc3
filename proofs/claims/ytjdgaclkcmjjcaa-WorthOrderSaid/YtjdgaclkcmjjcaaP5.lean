/- P5: what functions of the program compute (written by mod.py). -/
import Derived.Test.YtjdgaclkcmjjcaaP4
import Derived.KernelRfl
namespace Go.Proofs.Ytjdgaclkcmjjcaa
open Go Go.Ab
set_option linter.unusedSimpArgs false
set_option linter.unusedVariables false
set_option maxRecDepth 20000

/-! wane -/
theorem isRect_eq (vr : TRect) : worth_isRect_g vr = some (r20_across_g vr.X && r20_across_g vr.Y) := by
  unfold worth_isRect_g
  have hs : ∀ (e : Sp) (x : Option (Int ⊕ (Bool ⊕ Unit))), (bif (decide (e.a < (-600))) then some (Sum.inr (Sum.inl false)) else (bif (decide (600 < e.b)) then some (Sum.inr (Sum.inl false)) else (bif (decide (e.b ≤ e.a)) then some (Sum.inr (Sum.inl false)) else x))) = bif r20_across_g e then x else some (Sum.inr (Sum.inl false)) := by
    intro e x
    unfold r20_across_g
    rw [lt_not e.a (-600), lt_not 600 e.b, bnot_le e.b e.a]
    cases decide (-600 ≤ e.a) <;> cases decide (e.b ≤ 600) <;> cases decide (e.a < e.b) <;> rfl
  have h0 : worth_isRect_s1 vr 0 = bif r20_across_g vr.X then some (.inl 1) else some (.inr (.inl false)) := hs vr.X _
  have h1 : worth_isRect_s1 vr 1 = bif r20_across_g vr.Y then some (.inl 2) else some (.inr (.inl false)) := hs vr.Y _
  cases hX : r20_across_g vr.X with
  | false =>
    rw [hX] at h0
    rw [loopO_done h0]
    rfl
  | true =>
    rw [hX] at h0
    rw [loopO_next h0]
    cases hY : r20_across_g vr.Y with
    | false =>
      rw [hY] at h1
      rw [loopO_done h1]
      rfl
    | true =>
      rw [hY] at h1
      rw [loopO_next h1, loopO_done (y := .inr ()) rfl]
      rfl
theorem across_t {s : Sp} (h : r20_across_g s = true) : -600 ≤ s.a ∧ s.a < s.b ∧ s.b ≤ 600 := by
  unfold r20_across_g at h
  by_cases h1 : -600 ≤ s.a
  · rw [decide_eq_true h1, cond_true] at h
    by_cases h2 : s.a < s.b
    · rw [decide_eq_true h2, cond_true, decide_eq_true_eq] at h
      exact ⟨h1, h2, h⟩
    · rw [decide_eq_false h2] at h
      exact absurd h (by simp)
  · rw [decide_eq_false h1] at h
    exact absurd h (by simp)
theorem slen_loop {l : List TSlice} (h : SolOk l) : loopO (fun q : Int × Int => r11_Length_s1 l q.1 q.2) (0, 0) = some (slen l) := by
  have hl := h.len
  have hb : ∀ j, j ≤ l.length → 0 ≤ slen (l.take j) ∧ slen (l.take j) ≤ slen l := by
    have hnn : ∀ (m : List TSlice), (∀ e ∈ m, e ∈ l) → 0 ≤ slen m := by
      intro m
      induction m with
      | nil => intro _; simp [slen]
      | cons a m ih =>
        intro hm
        have h1 := (h.sec a (hm a (List.mem_cons_self ..))).2.1
        have h2 := ih fun e he => hm e (List.mem_cons_of_mem _ he)
        unfold slen at h2 ⊢
        rw [List.map_cons, List.sum_cons]
        omega
    intro j hj
    have h1 := hnn (l.take j) fun e he => List.mem_of_mem_take he
    have h2 := hnn (l.drop j) fun e he => List.mem_of_mem_drop he
    have h3 : slen l = slen (l.take j) + slen (l.drop j) := by
      unfold slen
      rw [← List.sum_append, ← List.map_append, List.take_append_drop]
    omega
  have htot := h.tot
  have := loopO_upto (step := fun q : Int × Int => r11_Length_s1 l q.1 q.2) (fun j => (slen (l.take j), (j : Int))) l.length (y := slen l) (fun j hj => by
    have h1 := hb j (by omega)
    have h2 := hb (j + 1) (by omega)
    have h3 := slen_take hj
    unfold r11_Length_s1
    dsimp only
    rw [lt_nat hj, cond_true, getI_at hj, bind_some', W64_eq (by omega) (by omega), W64_succ (by omega), h3]) (by
    unfold r11_Length_s1
    dsimp only
    rw [nlt_nat, List.take_length]
    rfl)
  exact this
theorem length_eq {l : List TSlice} (h : SolOk l) (hc : r11_Check_g l = some 0) : r11_Length_g l = some (slen l) := by
  unfold r11_Length_g
  rw [hc, bind_some', show ((0 : Int) != 0) = false from rfl, cond_false, slen_loop h]
  rfl
/-- The lack of a section in a rectangle, in thousandths, rounded up. -/
def area (X Y : Sp) : Int := (X.b - X.a) * (Y.b - Y.a)
def lk (X Y : Sp) (s : TSection) : Int := Int.tdiv (1000 * (area X Y - wsum X Y s.Rows s.Low) + area X Y - 1) (area X Y)
structure RectOk (X Y : Sp) : Prop where
  x : -600 ≤ X.a ∧ X.a < X.b ∧ X.b ≤ 600
  y : -600 ≤ Y.a ∧ Y.a < Y.b ∧ Y.b ≤ 600
theorem area_bd {X Y : Sp} (h : RectOk X Y) : 1 ≤ area X Y ∧ area X Y ≤ 1440000 := by
  have hx := h.x
  have hy := h.y
  unfold area
  have h1 := Int.mul_le_mul (a := X.b - X.a) (c := 1200) (b := Y.b - Y.a) (d := 1200) (by omega) (by omega) (by omega) (by omega)
  have h2 := Int.mul_le_mul (a := 1) (c := X.b - X.a) (b := 1) (d := Y.b - Y.a) (by omega) (by omega) (by omega) (by omega)
  omega
theorem wsum_bd {X Y : Sp} (h : RectOk X Y) (s : TSection) : 0 ≤ wsum X Y s.Rows s.Low ∧ wsum X Y s.Rows s.Low ≤ area X Y := by
  have hx := h.x
  have hy := h.y
  have h1 := wsum_area (X := X) (Y := Y) (by omega) s.Rows s.Low
  have h2 : cm ⟨10 * s.Low, 10 * (s.Low + s.Rows.length)⟩ Y ≤ Y.b - Y.a := cm_le_right (by omega)
  have h3 := Int.mul_le_mul_of_nonneg_left h2 (show 0 ≤ X.b - X.a by omega)
  refine ⟨wsum_nonneg .., ?_⟩
  unfold area
  omega
theorem lk_bd {X Y : Sp} (h : RectOk X Y) (s : TSection) : 0 ≤ lk X Y s ∧ lk X Y s ≤ 1000 := by
  have h1 := area_bd h
  have h2 := wsum_bd h s
  unfold lk
  generalize area X Y = A at *
  generalize wsum X Y s.Rows s.Low = w at *
  rw [Int.tdiv_eq_ediv_of_nonneg (by omega)]
  constructor
  · exact Int.ediv_nonneg (by omega) (by omega)
  · have : (1000 * (A - w) + A - 1) / A < 1001 := Int.ediv_lt_of_lt_mul (by omega) (by omega)
    omega
theorem lack_eq {X Y : Sp} (h : RectOk X Y) (s : TSection) : W64 (Int.tdiv (W64 ((W64 ((W64 (1000 * (W64 ((W64 ((W64 (X.b - X.a)) * (W64 (Y.b - Y.a)))) - (wsum X Y s.Rows s.Low))))) + (W64 ((W64 (X.b - X.a)) * (W64 (Y.b - Y.a)))))) - 1)) (W64 ((W64 (X.b - X.a)) * (W64 (Y.b - Y.a))))) = lk X Y s := by
  have hx := h.x
  have hy := h.y
  have h1 := area_bd h
  have h2 := wsum_bd h s
  have h3 := lk_bd h s
  rw [W64_eq (n := X.b - X.a) (by omega) (by omega), W64_eq (n := Y.b - Y.a) (by omega) (by omega)]
  rw [show (X.b - X.a) * (Y.b - Y.a) = area X Y from rfl]
  rw [W64_eq (n := area X Y) (by omega) (by omega), W64_eq (n := area X Y - _) (by omega) (by omega), W64_eq (n := 1000 * _) (by omega) (by omega), W64_eq (n := _ + area X Y) (by omega) (by omega), W64_eq (n := _ - 1) (by omega) (by omega)]
  exact W64_eq (by unfold lk at h3; omega) (by unfold lk at h3; omega)

end Go.Proofs.Ytjdgaclkcmjjcaa
