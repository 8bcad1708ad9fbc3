/- B7: what functions of the program compute (written by mod.py). -/
import Derived.Test.YtpoehckffpbfiaaB6
import Derived.KernelRfl
namespace Go.Proofs.Ytpoehckffpbfiaa
open Go Go.Ab
set_option linter.unusedSimpArgs false
set_option linter.unusedVariables false
set_option linter.unusedSectionVars false
set_option maxRecDepth 20000
set_option maxHeartbeats 1000000

theorem boardBack_true (a b : TBoard) (s : ByteArray) (ha : a.Defects.length ≤ 9223372036854775807) : l30_BoardBack_g a b s = some true := by
  unfold l30_BoardBack_g
  rw [aw30]
  cases l30_few_g a with
  | false => rfl
  | true =>
  cases l30_few_g b with
  | false => rfl
  | true =>
  by_cases h : 20000 < s.size
  · rw [decide_eq_true (by omega)]
    rfl
  rw [decide_eq_false (by omega)]
  simp only [Bool.not_true, cond_false]
  rw [bencode_eq, bencode_eq, bsame_eq ha, bdecode_eq (s := s) (by omega)]
  simp only [bind_some']
  have hlast : (bif ((dec30 s).2 != 0) then (bif ((dec30 s).2 == 5) then (Option.bind (board_Same_g (dec30 s).1 zB) (fun sv3 => (bif sv3 then some true else some false))) else some false) else (Option.bind (board_Encode_g (dec30 s).1) (fun ev2 => (bif (ev2.2 == 0) then (bif (bEq ev2.1 s) then some true else some false) else some false)))) = some true := by
    by_cases g : (dec30 s).2 = 0
    · obtain ⟨f1, f2⟩ := fwd g
      rw [g, show ((0 : Int) != 0) = false from rfl, cond_false, bencode_eq, enc_ok f1, bind_some', f2]
      simp only [beq_self_eq_true, cond_true, bEq_self]
    · rw [dec_err g]
      dsimp only
      rw [bsame_eq (by show 0 ≤ _; omega), bind_some', decide_eq_true rfl]
      rfl
  rcases enc_cases a with ⟨e, he, hE⟩ | hA
  · rw [hE]
    dsimp only
    rw [ne_t he, show (e == 0) = false by simp [he], bEq_self]
    simp only [Bool.not_true, cond_true, cond_false, bind_some', Sum.elim_inr]
    rw [bdecode_eq (by show 0 ≤ _; omega)]
    simp only [bind_some', Sum.elim_inr]
    exact hlast
  · rw [enc_ok hA]
    dsimp only
    rw [bdecode_eq (s := mkS (ob a)) (by have := ob_size hA; omega), back_read hA]
    simp only [bind_some', ne_f, cond_false, beq_self_eq_true, cond_true]
    rw [bsame_eq ha, bind_some', decide_eq_true (p := a = a) rfl]
    have hX : (bif ((enc30 b).2 == 0) then (bif (!((bEq (mkS (ob a)) (enc30 b).1) == (decide (a = b)))) then some (Sum.inl false) else some (Sum.inr ())) else some (Sum.inr ()) : Option (Bool ⊕ Unit)) = some (.inr ()) := by
      rcases enc_cases b with ⟨e, he, hE⟩ | hB
      · rw [hE]
        dsimp only
        rw [show (e == 0) = false by simp [he]]
        rfl
      · rw [enc_ok hB]
        dsimp only
        have : bEq (mkS (ob a)) (mkS (ob b)) = decide (a = b) := by
          rw [bEq_dec, decide_eq_decide]
          constructor
          · intro q
            have e1 := back_read hA
            rw [q, back_read hB] at e1
            exact (congrArg Prod.fst e1).symm
          · rintro rfl
            rfl
        rw [this]
        simp
    rw [hX]
    simp only [bind_some', Sum.elim_inr, Bool.not_true, cond_false]
    exact hlast

end Go.Proofs.Ytpoehckffpbfiaa
