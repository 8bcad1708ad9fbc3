/- P3: what functions of the program compute (written by mod.py). -/
import Derived.Test.YtjdgaclkcmjjcaaP2
import Derived.KernelRfl
namespace Go.Proofs.Ytjdgaclkcmjjcaa
open Go Go.Ab
set_option linter.unusedSimpArgs false
set_option linter.unusedVariables false
set_option maxRecDepth 20000

/-! what a check that passes says; the checks always answer -/
structure SecOk (s : TSection) : Prop where
  len : s.Rows.length ≤ 120
  low : -60 ≤ s.Low ∧ s.Low + s.Rows.length ≤ 60
  rng : ∀ e ∈ s.Rows, -600 ≤ e.a ∧ e.a ≤ 600 ∧ -600 ≤ e.b ∧ e.b ≤ 600
theorem beyond_f {n : Int} (h : r10_beyond_g n = false) : -600 ≤ n ∧ n ≤ 600 := by
  unfold r10_beyond_g at h
  by_cases h1 : n < -600
  · rw [decide_eq_true h1] at h
    exact absurd h (by simp)
  · rw [decide_eq_false h1, cond_false, decide_eq_false_iff_not] at h
    omega
theorem section_total (s : TSection) (hl : I64 s.Low) : ∃ c, r10_Check_g s = some c ∧ (c = 0 → SecOk s) := by
  unfold I64 at hl
  unfold r10_Check_g
  by_cases h1 : 120 < s.Rows.length
  · rw [decide_eq_true (by omega)]
    exact ⟨4, rfl, fun h => by omega⟩
  · rw [decide_eq_false (by omega), cond_false]
    by_cases h2 : s.Low < -60
    · rw [decide_eq_true h2]
      exact ⟨9, rfl, fun h => by omega⟩
    · rw [decide_eq_false h2, cond_false, W64_eq (by omega) (by omega)]
      by_cases h3 : 60 - ((s.Rows.length : Nat) : Int) < s.Low
      · rw [decide_eq_true h3]
        exact ⟨9, rfl, fun h => by omega⟩
      · rw [decide_eq_false h3, cond_false]
        have hloop := loopO_allN (step := fun q : Int => r10_Check_s1 s q) s.Rows.length (fun j => (j : Int)) (fun j => (s.Rows[j]?).elim true fun e => !(r10_beyond_g e.a || r10_beyond_g e.b)) (9 : Int) (fun j hj => by
          unfold r10_Check_s1
          rw [lt_nat hj, cond_true, getI_at hj, bind_some', bind_some', W64_succ (by omega), List.getElem?_eq_getElem hj]
          show _ = bif !(r10_beyond_g s.Rows[j].a || r10_beyond_g s.Rows[j].b) then _ else _
          cases r10_beyond_g s.Rows[j].a <;> cases r10_beyond_g s.Rows[j].b <;> rfl) (by
          unfold r10_Check_s1
          rw [nlt_nat]
          rfl)
        have e0 : ((0 : Nat) : Int) = 0 := rfl
        rw [e0] at hloop
        rw [hloop, bind_some']
        cases hall : (List.range s.Rows.length).all (fun j => (s.Rows[j]?).elim true fun e => !(r10_beyond_g e.a || r10_beyond_g e.b)) with
        | false => exact ⟨9, rfl, fun h => by omega⟩
        | true =>
          have hok : SecOk s := by
            refine ⟨by omega, by omega, fun e he => ?_⟩
            obtain ⟨j, hj, rfl⟩ := List.getElem_of_mem he
            rw [List.all_eq_true] at hall
            have := hall j (List.mem_range.2 hj)
            rw [List.getElem?_eq_getElem hj] at this
            have h4 : (!(r10_beyond_g s.Rows[j].a || r10_beyond_g s.Rows[j].b)) = true := this
            rw [Bool.not_eq_true', Bool.or_eq_false_iff] at h4
            have h5 := beyond_f h4.1
            have h6 := beyond_f h4.2
            omega
          rw [cond_true, Sum.elim_inr]
          by_cases h0 : s.Rows.length = 0
          · rw [show ((((s.Rows.length : Nat) : Int)) == 0) = true by simp [h0], cond_true]
            cases (s.Low != 0) with
            | true => exact ⟨19, rfl, fun h => by omega⟩
            | false => exact ⟨0, rfl, fun _ => hok⟩
          · rw [show ((((s.Rows.length : Nat) : Int)) == 0) = false by simp; intro h; simp [h] at h0, cond_false]
            have g0 := getI_at (l := s.Rows) (j := 0) (by omega)
            rw [e0] at g0
            have g1 := getI_at (l := s.Rows) (j := s.Rows.length - 1) (by omega)
            rw [show ((s.Rows.length - 1 : Nat) : Int) = ((s.Rows.length : Nat) : Int) - 1 by omega] at g1
            rw [g0, bind_some', W64_eq (by omega) (by omega), g1, bind_some']
            cases r10_empty_g s.Rows[0] with
            | true => exact ⟨19, rfl, fun h => by omega⟩
            | false =>
              rw [cond_false]
              cases r10_empty_g s.Rows[s.Rows.length - 1] with
              | true => exact ⟨19, rfl, fun h => by omega⟩
              | false =>
                rw [cond_false]
                have hloop2 := loopO_allN (step := fun q : Int => r10_Check_s2 s q) s.Rows.length (fun j => (j : Int)) (fun j => (s.Rows[j]?).elim true fun e => !(r10_empty_g e && !(eqV encSp e (⟨0, 0⟩ : Sp)))) (19 : Int) (fun j hj => by
                  unfold r10_Check_s2
                  rw [lt_nat hj, cond_true, getI_at hj, bind_some', bind_some', W64_succ (by omega), List.getElem?_eq_getElem hj]
                  show _ = bif !(r10_empty_g s.Rows[j] && !(eqV encSp s.Rows[j] (⟨0, 0⟩ : Sp))) then _ else _
                  cases r10_empty_g s.Rows[j] <;> cases eqV encSp s.Rows[j] (⟨0, 0⟩ : Sp) <;> rfl) (by
                  unfold r10_Check_s2
                  rw [nlt_nat]
                  rfl)
                rw [e0] at hloop2
                rw [hloop2, bind_some']
                cases (List.range s.Rows.length).all (fun j => (s.Rows[j]?).elim true fun e => !(r10_empty_g e && !(eqV encSp e (⟨0, 0⟩ : Sp)))) with
                | false => exact ⟨19, rfl, fun h => by omega⟩
                | true => exact ⟨0, rfl, fun _ => hok⟩
/-- The length of slices. -/
def slen (l : List TSlice) : Int := (l.map fun e => e.Len).sum
theorem slen_take {l : List TSlice} {j : Nat} (hj : j < l.length) : slen (l.take (j + 1)) = slen (l.take j) + l[j].Len := by
  unfold slen
  rw [List.take_succ_eq_append_getElem hj, List.map_append, List.sum_append]
  simp
structure SolOk (l : List TSlice) : Prop where
  len : l.length ≤ 24
  sec : ∀ e ∈ l, SecOk e.Sec ∧ 1 ≤ e.Len ∧ r10_Check_g e.Sec = some 0
  tot : slen l ≤ 20000
theorem solid_total (l : List TSlice) (hl : ∀ e ∈ l, I64 e.Sec.Low ∧ I64 e.Len) : ∃ c, r11_Check_g l = some c ∧ (c = 0 → SolOk l) := by
  unfold r11_Check_g
  by_cases h0 : l.length = 0
  · rw [show ((((l.length : Nat) : Int)) == 0) = true by simp [h0]]
    exact ⟨3, rfl, fun h => by omega⟩
  · rw [show ((((l.length : Nat) : Int)) == 0) = false by simp; intro h; simp [h] at h0, cond_false]
    by_cases h1 : 24 < l.length
    · rw [decide_eq_true (by omega)]
      exact ⟨4, rfl, fun h => by omega⟩
    · rw [decide_eq_false (by omega), cond_false]
      obtain ⟨y, hy, hG⟩ := loopO_inv (step := fun q : Int × Int => r11_Check_s1 l q.1 q.2) (fun q => ∃ j : Nat, j ≤ l.length ∧ q = (slen (l.take j), (j : Int)) ∧ 0 ≤ slen (l.take j) ∧ slen (l.take j) ≤ 20000 ∧ ∀ e ∈ l.take j, SecOk e.Sec ∧ 1 ≤ e.Len ∧ r10_Check_g e.Sec = some 0) (fun q => l.length - q.2.toNat) (fun y => (∃ c, y = .inl c ∧ c ≠ 0) ∨ (y = .inr () ∧ SolOk l)) (by
        rintro q ⟨j, hj, rfl, hs0, hs, ha⟩
        unfold r11_Check_s1
        dsimp only
        rcases Nat.lt_or_ge j l.length with hlt | hge
        · have hI := hl _ (List.getElem_mem hlt)
          have hI2 := hI.2
          unfold I64 at hI2
          obtain ⟨c, hc, hc0⟩ := section_total l[j].Sec hI.1
          rw [lt_nat hlt, cond_true, getI_at hlt]
          simp only [bind_some']
          rw [hc, bind_some']
          by_cases h2 : c = 0
          · subst h2
            rw [show ((0 : Int) != 0) = false from rfl, cond_false]
            cases ((l[j].Sec.Rows.length : Int) == 0) with
            | true => exact .inr ⟨_, rfl, .inl ⟨_, rfl, by omega⟩⟩
            | false =>
              rw [cond_false]
              by_cases h3 : l[j].Len < 1
              · rw [decide_eq_true h3]
                exact .inr ⟨_, rfl, .inl ⟨_, rfl, by omega⟩⟩
              · rw [decide_eq_false h3, cond_false, W64_eq (n := 20000 - _) (by omega) (by omega)]
                by_cases h4 : 20000 - slen (l.take j) < l[j].Len
                · rw [decide_eq_true h4]
                  exact .inr ⟨_, rfl, .inl ⟨_, rfl, by omega⟩⟩
                · rw [decide_eq_false h4, cond_false, W64_eq (n := slen _ + _) (by omega) (by omega), W64_succ (by omega)]
                  refine .inl ⟨_, rfl, ⟨j + 1, by omega, by rw [slen_take hlt], by rw [slen_take hlt]; omega, by rw [slen_take hlt]; omega, ?_⟩, ?_⟩
                  · intro e he
                    rw [List.take_succ_eq_append_getElem hlt] at he
                    rcases List.mem_append.1 he with he | he
                    · exact ha e he
                    · rw [List.mem_singleton] at he
                      subst he
                      exact ⟨hc0 rfl, by omega, hc⟩
                  · show l.length - (((j + 1 : Nat) : Int)).toNat < l.length - ((j : Int)).toNat
                    omega
          · rw [show ((c : Int) != 0) = true by simp [h2], cond_true]
            exact .inr ⟨_, rfl, .inl ⟨_, rfl, h2⟩⟩
        · have : j = l.length := by omega
          subst this
          rw [nlt_nat, cond_false]
          rw [List.take_length] at hs ha
          exact .inr ⟨_, rfl, .inr ⟨rfl, ⟨by omega, ha, hs⟩⟩⟩) (0, 0) ⟨0, by omega, rfl, by simp [slen], by simp [slen], by simp⟩
      rw [hy, bind_some']
      rcases hG with ⟨c, rfl, hc⟩ | ⟨rfl, hok⟩
      · exact ⟨c, rfl, fun h => absurd h hc⟩
      · exact ⟨0, rfl, fun _ => hok⟩

end Go.Proofs.Ytjdgaclkcmjjcaa
