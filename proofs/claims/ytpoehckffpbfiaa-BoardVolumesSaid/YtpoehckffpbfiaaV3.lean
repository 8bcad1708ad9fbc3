/- V3: what functions of the program compute (written by mod.py). -/
import Derived.Test.YtpoehckffpbfiaaV2
import Derived.KernelRfl
namespace Go.Proofs.Ytpoehckffpbfiaa
open Go Go.Ab
set_option linter.unusedSimpArgs false
set_option linter.unusedVariables false
set_option linter.unusedSectionVars false
set_option maxRecDepth 20000
set_option maxHeartbeats 1000000

/-! volumes of new boards -/
def volN (b : Bx) : Int := if boxOk b then area b.x b.y * (b.z.b - b.z.a) else 0
theorem boxOk_rect {b : Bx} (h : boxOk b) : RectOk b.x b.y ∧ 0 ≤ b.z.a ∧ b.z.a < b.z.b ∧ b.z.b ≤ 20000 := by
  obtain ⟨⟨a1, a2, a3⟩, ⟨b1, b2, b3⟩, c1, c2, c3⟩ := h
  exact ⟨⟨⟨a1, a3, a2⟩, ⟨b1, b3, b2⟩⟩, c1, c3, c2⟩
theorem prod_bd {b : Bx} (h : boxOk b) : 1 ≤ area b.x b.y * (b.z.b - b.z.a) ∧ area b.x b.y * (b.z.b - b.z.a) ≤ 28800000000 := by
  obtain ⟨hr, h1, h2, h3⟩ := boxOk_rect h
  have hA := area_bd hr
  have h4 := Int.mul_le_mul (a := area b.x b.y) (c := 1440000) (b := b.z.b - b.z.a) (d := 20000) (by omega) (by omega) (by omega) (by omega)
  have h5 := Int.mul_le_mul (a := 1) (c := area b.x b.y) (b := 1) (d := b.z.b - b.z.a) (by omega) (by omega) (by omega) (by omega)
  omega
theorem volN_bd (b : Bx) : 0 ≤ volN b ∧ volN b ≤ 28800000000 := by
  unfold volN
  split
  · rename_i h
    have := prod_bd h
    omega
  · omega
theorem rvol_eq (m : TBoard) : r30_Volume_g m = volN m.Box := by
  unfold r30_Volume_g volN r30_length_g
  rw [placed_eq]
  by_cases h : boxOk m.Box
  · obtain ⟨hr, h1, h2, h3⟩ := boxOk_rect h
    have hA := area_bd hr
    have hx := hr.x
    have hy := hr.y
    have hp := prod_bd h
    rw [decide_eq_true h, if_pos h, Bool.not_true, cond_false, W64_eq (n := m.Box.x.b - m.Box.x.a) (by omega) (by omega), W64_eq (n := m.Box.y.b - m.Box.y.a) (by omega) (by omega), W64_eq (n := m.Box.z.b - m.Box.z.a) (by omega) (by omega), show (m.Box.x.b - m.Box.x.a) * (m.Box.y.b - m.Box.y.a) = area m.Box.x m.Box.y from rfl, W64_eq (n := area m.Box.x m.Box.y) (by omega) (by omega), W64_eq (by omega) (by omega)]
  · rw [decide_eq_false h, if_neg h]
    rfl
theorem within_bad {l : List TSlice} {c : Int} (hc : r11_Check_g l = some c) (h0 : c ≠ 0) (b : Bx) : solid_Within_g l b = some 0 := by
  unfold solid_Within_g solid_valid_g
  rw [solid_check_eq, hc, bind_some', ne_t h0, cond_true, bind_some']
  have he : solid_extents_g [] = some [] := by
    have := extents_eq (l := []) ⟨by simp, by simp, by simp [slen]⟩
    exact this
  rw [he, bind_some', loopO_done (y := 0) (by rfl), bind_some']
theorem vols {l : List TSlice} (hl : LowOk l) (b : Bx) : ∃ v w, solid_Within_g l b = some v ∧ worth_Wane_g l b = some w ∧ 0 ≤ w ∧ w ≤ 1000 ∧ 0 ≤ v ∧ v ≤ 1000000000000 ∧ ((w = 1000 ∧ (volN b = 0 ∨ v < volN b)) ∨ (w ≠ 1000 ∧ 0 < volN b ∧ (v = volN b ↔ w = 0) ∧ v ≤ volN b ∧ 1000 * (volN b - v) ≤ w * volN b)) := by
  obtain ⟨c, hc, hok⟩ := solid_total l hl
  by_cases h0 : c = 0
  · subst h0
    have h := hok rfl
    have hlen := h.len
    have hvb := vol_bd (X := b.x) (Y := b.y) (z := b.z) l 0 (len_le h)
    have hsl : 0 ≤ slen l ∧ slen l ≤ 20000 := by
      have h1 := slen_bd h l.length (Nat.le_refl _)
      rw [List.take_length] at h1
      exact ⟨h1.1, h.tot⟩
    refine ⟨_, _, solidWithin_eq h hc b, wane_val h hc b, ?_⟩
    by_cases hin : (-600 ≤ b.x.a ∧ b.x.a < b.x.b ∧ b.x.b ≤ 600) ∧ (-600 ≤ b.y.a ∧ b.y.a < b.y.b ∧ b.y.b ≤ 600) ∧ (0 ≤ b.z.a ∧ b.z.a < b.z.b ∧ b.z.b ≤ slen l)
    · obtain ⟨hx, hy, hz⟩ := hin
      have hr : RectOk b.x b.y := ⟨hx, hy⟩
      have hbox : boxOk b := ⟨⟨hx.1, hx.2.2, hx.2.1⟩, ⟨hy.1, hy.2.2, hy.2.1⟩, hz.1, by omega, hz.2.1⟩
      have hp := prod_bd hbox
      have hB := wn_bd (z := b.z) hr l 0 0 (by omega)
      have hW := wood hr hz.2.1 l 0 0 (by omega) fun e he => (h.sec e he).2.1
      have hL := (lz_eq hz.2.1 l 0 fun e he => (h.sec e he).2.1).1
      have hV := vol_lc b.x b.y b.z l 0
      have hL2 : lz b.z l 0 = b.z.b - b.z.a := by
        rw [hL]
        unfold cm
        dsimp only
        omega
      rw [hL2] at hV hW
      rw [across_i hx, across_i hy, wthin_i hz]
      simp only [Bool.and_true, cond_true]
      have e : volN b = area b.x b.y * (b.z.b - b.z.a) := by unfold volN; rw [if_pos hbox]
      rw [e]
      obtain ⟨w1, w2, w3, w4, w5, w6⟩ := hW
      have w6 := w6 rfl
      generalize wn b.x b.y b.z l 0 0 = w at *
      generalize area b.x b.y * (b.z.b - b.z.a) = n at *
      generalize vol b.x b.y b.z l 0 = v at *
      generalize lc b.x b.y b.z l 0 = q at *
      refine ⟨hB.1, hB.2, hvb.1, by omega, ?_⟩
      by_cases hw : w = 1000
      · refine .inl ⟨hw, .inr ?_⟩
        have : q ≠ 0 := fun h => by have := w6 h; omega
        omega
      · refine .inr ⟨hw, by omega, ⟨fun h => w6 (by omega), fun h => by have := w5 h; omega⟩, by omega, ?_⟩
        rw [show n - v = q by omega]
        exact w2
    · have hw : (bif r20_across_g b.x && (r20_across_g b.y && wthin b.z (slen l)) then wn b.x b.y b.z l 0 0 else 1000) = 1000 := by
        cases hx : r20_across_g b.x with
        | false => rfl
        | true =>
          cases hy : r20_across_g b.y with
          | false => rfl
          | true =>
            cases hz : wthin b.z (slen l) with
            | false => rfl
            | true => exact absurd ⟨across_t hx, across_t hy, wthin_t hz⟩ hin
      rw [hw]
      refine ⟨by omega, by omega, hvb.1, by omega, .inl ⟨rfl, ?_⟩⟩
      by_cases hbox : boxOk b
      · refine .inr ?_
        obtain ⟨hr, h1, h2, h3⟩ := boxOk_rect hbox
        have hA := area_bd hr
        have hzz : slen l < b.z.b := by
          rcases Int.lt_or_le (slen l) b.z.b with q | q
          · exact q
          · exact absurd ⟨hr.x, hr.y, h1, h2, q⟩ hin
        have hL := (lz_eq h2 l 0 fun e he => (h.sec e he).2.1).1
        have hV := vol_lc b.x b.y b.z l 0
        have hW := wood hr h2 l 0 0 (by omega) fun e he => (h.sec e he).2.1
        have hlt : lz b.z l 0 < b.z.b - b.z.a := by
          rw [hL]
          unfold cm
          dsimp only
          omega
        have := Int.mul_lt_mul_of_pos_left hlt (show 0 < area b.x b.y by omega)
        unfold volN
        rw [if_pos hbox]
        have := hW.2.2.1
        omega
      · unfold volN
        rw [if_neg hbox]
        exact .inl rfl
  · have hwn : worth_Wane_g l b = some 1000 := by
      unfold worth_Wane_g
      rw [solid_check_eq, hc, bind_some', ne_t h0]
      rfl
    have := volN_bd b
    exact ⟨0, 1000, within_bad hc h0 b, hwn, by omega, by omega, by omega, by omega, .inl ⟨rfl, by omega⟩⟩
theorem short30_total (x : Tsawmilllaw30_Log) : ∃ b, l30_Short_g x = some b ∧ (b = true → x.Solid.length ≤ 30 ∧ x.Defects.length ≤ 100) := by
  unfold l30_Short_g
  by_cases h1 : 30 < x.Solid.length
  · rw [decide_eq_true (by omega)]
    exact ⟨_, rfl, fun h => by simp at h⟩
  rw [decide_eq_false (by omega), cond_false]
  by_cases h2 : 100 < x.Defects.length
  · rw [decide_eq_true (by omega)]
    exact ⟨_, rfl, fun h => by simp at h⟩
  rw [decide_eq_false (by omega), cond_false]
  have := loopO_foldX (step := fun q : Int => l30_Short_s1 x q) x.Solid (fun e => decide (130 < ((e.Sec.Rows.length : Nat) : Int))) (fun (u : Unit) _ => u) () (fun _ j => (j : Int)) (.inl false) (fun _ => .inr ()) (fun _ _ => True) trivial (fun _ _ _ _ _ => trivial) (fun s j hj _ hb => by
    unfold l30_Short_s1
    rw [lt_nat hj, cond_true, getI_at hj, bind_some', hb, cond_false, W64_succ (by omega)]) (fun s j hj _ hb => by
    unfold l30_Short_s1
    rw [lt_nat hj, cond_true, getI_at hj, bind_some', hb]
    rfl) (fun _ _ => by
    unfold l30_Short_s1
    rw [nlt_nat]
    rfl)
  rw [show ((0 : Nat) : Int) = 0 from rfl] at this
  rw [this, bind_some']
  cases x.Solid.any fun e => decide (130 < ((e.Sec.Rows.length : Nat) : Int))
  · exact ⟨_, rfl, fun _ => by omega⟩
  · exact ⟨_, rfl, fun h => by simp at h⟩

theorem nb_self (n : Int) : (n != n) = false := by simp

theorem boardVolumes_true (m : Tsawmilllaw30_Made) (x : Tsawmilllaw30_Log) (hl : LowOk x.Solid) (hd : x.Defects.length ≤ 9223372036854775807) : l30_BoardVolumes_g m x = some true := by
  unfold l30_BoardVolumes_g
  obtain ⟨b, hb, _⟩ := short30_total x
  rw [aw30, hb, bind_some']
  cases b with
  | false => rfl
  | true =>
  cases decide (100 < ((m.Id.size : Nat) : Int)) with
  | true => rfl
  | false =>
  cases decide (100 < ((m.Log.size : Nat) : Int)) with
  | true => rfl
  | false =>
  cases decide (100 < ((m.Species.Name.size : Nat) : Int)) with
  | true => rfl
  | false =>
  obtain ⟨v, w, h1, h2, h3, h4, h5, h6, h7⟩ := vols hl m.Box
  simp only [Bool.not_true, cond_false]
  unfold l30_made_g board_New_g
  rw [h1, d_clip_eq _ hd, h2]
  simp only [bind_some']
  rw [bvol_eq, rvol_eq]
  have hN := volN_bd m.Box
  simp only [bind_some']
  rw [nb_self, decide_eq_false (p := w < 0) (by omega), decide_eq_false (p := 1000 < w) (by omega), show ((0 : Int) != 0) = false from rfl]
  simp only [cond_false]
  rcases h7 with ⟨e, h⟩ | ⟨e, g1, g2, g3, g4⟩
  · rw [show (w == 1000) = true by simp [e], cond_true]
    rcases h with h | h
    · rw [show (volN m.Box == 0) = true by simp [h], cond_true]
    · rw [decide_eq_true (p := v < volN m.Box) h]
      cases (volN m.Box == 0) <;> rfl
  · have hm := Int.mul_le_mul (a := w) (c := 1000) (b := volN m.Box) (d := 28800000000) (by omega) (by omega) (by omega) (by omega)
    have hm0 : 0 ≤ w * volN m.Box := Int.mul_nonneg (by omega) (by omega)
    rw [show (w == 1000) = false by simp [e], cond_false, decide_eq_true (p := 0 < volN m.Box) g1, cond_true, show ((v == volN m.Box) == (w == 0)) = true by
      rw [beq_iff_eq, Bool.eq_iff_iff, beq_iff_eq, beq_iff_eq]
      exact g2, cond_true, decide_eq_true g3, cond_true, W64_eq (n := volN m.Box - v) (by omega) (by omega), W64_eq (n := 1000 * _) (by omega) (by omega), W64_eq (n := w * _) (by omega) (by omega), decide_eq_true g4, cond_true]

end Go.Proofs.Ytpoehckffpbfiaa
