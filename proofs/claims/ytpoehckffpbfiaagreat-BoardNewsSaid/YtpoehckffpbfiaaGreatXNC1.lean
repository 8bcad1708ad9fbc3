/- C1: what functions of the program compute (written by mod.py). -/
import Derived.Test.YtpoehckffpbfiaaGreatXNB3
import Derived.KernelRfl
namespace Go.Proofs.YtpoehckffpbfiaaGreat
open Go Go.Ab
set_option linter.unusedSimpArgs false
set_option linter.unusedVariables false
set_option linter.unusedSectionVars false
set_option maxRecDepth 20000
set_option maxHeartbeats 1000000
theorem inRange_eq (e : Sp) : (!(section_inRange_g e)) = (r10_beyond_g e.a || r10_beyond_g e.b) := by
 rw [Bool.eq_iff_iff]
 unfold section_inRange_g r10_beyond_g
 simp only [Bool.cond_eq_ite, Bool.not_eq_true', Bool.or_eq_true, decide_eq_true_eq]
 by_cases h1 : -600 ≤ min e.a e.b
 ·rw [if_pos h1, decide_eq_false_iff_not]
  by_cases h2 : e.a < -600 <;> by_cases h3 : e.b < -600 <;> simp [h2, h3] <;> omega
 ·rw [if_neg h1]
  by_cases h2 : e.a < -600 <;> by_cases h3 : e.b < -600 <;> simp [h2, h3] <;> omega
theorem section_s1_eq (s : TSection) (v : Int) : section_Check_s1 s v = r10_Check_s1 s v := by
 unfold section_Check_s1 r10_Check_s1
 cases decide (v < ((s.Rows.length : Nat) : Int)) with
 | false => rfl
 | true =>
  rw [cond_true, cond_true]
  cases getI s.Rows v with
  | none => rfl
  | some e =>
   rw [bind_some', bind_some', bind_some', inRange_eq]
   cases r10_beyond_g e.a <;> cases r10_beyond_g e.b <;> rfl
theorem section_s2_eq (s : TSection) (v : Int) : section_Check_s2 s v = r10_Check_s2 s v := by
 unfold section_Check_s2 r10_Check_s2 section_isEmpty_g r10_empty_g
 cases decide (v < ((s.Rows.length : Nat) : Int)) with
 | false => rfl
 | true =>
  rw [cond_true, cond_true]
  cases getI s.Rows v with
  | none => rfl
  | some e => rfl
theorem section_check_eq (s : TSection) : section_Check_g s = r10_Check_g s := by
 unfold section_Check_g r10_Check_g
 have h1 : (fun q => section_Check_s1 s q) = (fun q => r10_Check_s1 s q) := funext fun v => section_s1_eq s v
 have h2 : (fun q => section_Check_s2 s q) = (fun q => r10_Check_s2 s q) := funext fun v => section_s2_eq s v
 rw [h1, h2]
 rfl
theorem solid_s1_eq (l : List TSlice) (n v : Int) : solid_Check_s1 l n v = r11_Check_s1 l n v := by
 unfold solid_Check_s1 r11_Check_s1
 cases decide (v < ((l.length : Nat) : Int)) with
 | false => rfl
 | true =>
  rw [cond_true, cond_true]
  cases getI l v with
  | none => rfl
  | some e =>
   simp only [bind_some']
   rw [section_check_eq]
theorem solid_check_eq (l : List TSlice) : solid_Check_g l = r11_Check_g l := by
 unfold solid_Check_g r11_Check_g
 have h1 : (fun q : Int × Int => solid_Check_s1 l q.1 q.2) = (fun q => r11_Check_s1 l q.1 q.2) := funext fun q => solid_s1_eq l q.1 q.2
 rw [h1]
theorem solid_length_eq (l : List TSlice) : solid_Length_g l = r11_Length_g l := by
 unfold solid_Length_g r11_Length_g solid_valid_g
 rw [solid_check_eq]
 cases r11_Check_g l with
 | none => rfl
 | some c =>
  simp only [bind_some']
  cases h : (c != 0) with
  | true =>
   rw [cond_true, cond_true, bind_some', loopO_done (y := (0 : Int)) rfl, bind_some']
  | false => rfl
end Go.Proofs.YtpoehckffpbfiaaGreat
