/- P15: what functions of the program compute (written by mod.py). -/
import Derived.Test.YtjdgaclkcmjjcaaP14
import Derived.KernelRfl
namespace Go.Proofs.Ytjdgaclkcmjjcaa
open Go Go.Ab
set_option linter.unusedSimpArgs false
set_option linter.unusedVariables false
set_option maxRecDepth 20000

/-! the best position -/
/-- The candidates of n positions. -/
def cand (p : TProduct) (step : Int) (n : Nat) : List Sp := (List.range n).flatMap fun (k : Nat) => p.Lengths.map fun e => (⟨(k : Int) * step, (k : Int) * step + e⟩ : Sp)
theorem cand_succ (p : TProduct) (step : Int) (n : Nat) : cand p step (n + 1) = cand p step n ++ p.Lengths.map fun e => (⟨(n : Int) * step, (n : Int) * step + e⟩ : Sp) := by
  unfold cand
  rw [List.range_succ, List.flatMap_append]
  simp
noncomputable def bs (l : List TSlice) (d : List Df) (p : TProduct) (vr : TRect) (fine : Int) (s : Int × Bool × Sp) (z : Sp) : Int × Bool × Sp :=
  bif acc l d p ⟨vr.X, vr.Y, z⟩ then (bif !s.2.1 || decide (s.1 < val d p ⟨vr.X, vr.Y, z⟩ fine) then (val d p ⟨vr.X, vr.Y, z⟩ fine, true, z) else s) else s
theorem best_s2 {l : List TSlice} {d : List Df} {p : TProduct} (hv : Valid l d p) {vr : TRect} (hx : r20_across_g vr.X = true) (hy : r20_across_g vr.Y = true) (hg : gok p vr.X vr.Y = true) {fine : Int} (hf : 0 ≤ fine ∧ fine ≤ 1000000) {a : Int} (ha : 0 ≤ a ∧ a ≤ 20000) (s : Int × Bool × Sp) :
    loopO (fun q : Int × Bool × Int × Sp => worth_Best_s2 p fine (view l d p vr, true) a q.1 q.2.1 q.2.2.1 q.2.2.2) (s.1, s.2.1, 0, s.2.2) = some ((p.Lengths.map fun e => (⟨a, a + e⟩ : Sp)).foldl (bs l d p vr fine) s) := by
  have hpl := hv.prod.l
  rw [List.foldl_map]
  have := loopO_fold (step := fun q : Int × Bool × Int × Sp => worth_Best_s2 p fine (view l d p vr, true) a q.1 q.2.1 q.2.2.1 q.2.2.2) p.Lengths (fun s e => bs l d p vr fine s ⟨a, a + e⟩) s (fun s j => (s.1, s.2.1, (j : Int), s.2.2)) (fun s => s) (fun s j hj => by
    have hr := hv.prod.r j hj
    unfold worth_Best_s2 bs
    dsimp only
    rw [lt_nat hj, cond_true, getI_at hj, bind_some', W64_eq (n := a + _) (by omega) (by omega), view_worth hv hx hy hg _ hf, bind_some', W64_succ (by omega)]
    cases acc l d p ⟨vr.X, vr.Y, ⟨a, a + p.Lengths[j]⟩⟩ with
    | false => rfl
    | true =>
      cases h1 : s.2.1 with
      | false => rfl
      | true =>
        cases h2 : decide (s.1 < val d p ⟨vr.X, vr.Y, ⟨a, a + p.Lengths[j]⟩⟩ fine) with
        | false => simp [h2, h1]
        | true => simp [h2]) (fun s => by
    unfold worth_Best_s2
    dsimp only
    rw [nlt_nat]
    rfl)
  exact this
theorem r20_best_s2 {l : List TSlice} {d : List Df} {p : TProduct} (hv : Valid l d p) (vr : TRect) {fine : Int} (hf : 0 ≤ fine ∧ fine ≤ 1000000) {a : Int} (ha : 0 ≤ a ∧ a ≤ 20000) (s : Int × Bool × Sp) :
    loopO (fun q : Int × Bool × Int × Sp => r20_Best_s2 l d p vr fine a q.1 q.2.1 q.2.2.1 q.2.2.2) (s.1, s.2.1, 0, s.2.2) = some ((p.Lengths.map fun e => (⟨a, a + e⟩ : Sp)).foldl (bs l d p vr fine) s) := by
  have hpl := hv.prod.l
  have hdl := hv.dl
  rw [List.foldl_map]
  have := loopO_fold (step := fun q : Int × Bool × Int × Sp => r20_Best_s2 l d p vr fine a q.1 q.2.1 q.2.2.1 q.2.2.2) p.Lengths (fun s e => bs l d p vr fine s ⟨a, a + e⟩) s (fun s j => (s.1, s.2.1, (j : Int), s.2.2)) (fun s => s) (fun s j hj => by
    have hr := hv.prod.r j hj
    unfold r20_Best_s2 bs
    dsimp only
    rw [lt_nat hj, cond_true, getI_at hj, bind_some', W64_eq (n := a + _) (by omega) (by omega), r20_accept_eq hv, bind_some', W64_succ (by omega), r20_value_eq (by omega) hv.prod _ hf, bind_some']
    cases acc l d p ⟨vr.X, vr.Y, ⟨a, a + p.Lengths[j]⟩⟩ with
    | false => rfl
    | true =>
      cases h1 : s.2.1 with
      | false => rfl
      | true =>
        cases h2 : decide (s.1 < val d p ⟨vr.X, vr.Y, ⟨a, a + p.Lengths[j]⟩⟩ fine) with
        | false => simp [h2, h1]
        | true => simp [h2]) (fun s => by
    unfold r20_Best_s2
    dsimp only
    rw [nlt_nat]
    rfl)
  exact this
/-- How many positions there are. -/
theorem rounds {L step : Int} (hL : 0 ≤ L) (hs : 1 ≤ step) : ∃ n : Nat, (∀ j : Nat, j < n → (j : Int) * step < L) ∧ L ≤ (n : Int) * step := by
  refine ⟨((L + step - 1) / step).toNat, fun j hj => ?_, ?_⟩
  · have h1 : (j : Int) + 1 ≤ (L + step - 1) / step := by omega
    have h2 := Int.mul_le_of_le_ediv (by omega) h1
    rw [Int.add_mul] at h2
    omega
  · have h0 : 0 ≤ (L + step - 1) / step := Int.ediv_nonneg (by omega) (by omega)
    rw [Int.toNat_of_nonneg h0]
    have := Int.lt_ediv_add_one_mul_self (L + step - 1) (show 0 < step by omega)
    rw [Int.add_mul] at this
    omega
theorem slen_all {l : List TSlice} (h : SolOk l) : 0 ≤ slen l ∧ slen l ≤ 20000 := by
  have := slen_bd h 0 (by omega)
  have := h.tot
  simp [slen] at *
  omega
/-- The best of n positions. -/
noncomputable def bst (l : List TSlice) (d : List Df) (p : TProduct) (vr : TRect) (step fine : Int) (n : Nat) : Int × Bool × Sp := (cand p step n).foldl (bs l d p vr fine) (0, false, ⟨0, 0⟩)
theorem bst_succ (l : List TSlice) (d : List Df) (p : TProduct) (vr : TRect) (step fine : Int) (n : Nat) : bst l d p vr step fine (n + 1) = (p.Lengths.map fun e => (⟨(n : Int) * step, (n : Int) * step + e⟩ : Sp)).foldl (bs l d p vr fine) (bst l d p vr step fine n) := by
  unfold bst
  rw [cand_succ, List.foldl_append]
theorem best_s1 {l : List TSlice} {d : List Df} {p : TProduct} (hv : Valid l d p) {vr : TRect} (hx : r20_across_g vr.X = true) (hy : r20_across_g vr.Y = true) (hg : gok p vr.X vr.Y = true) {fine step : Int} (hf : 0 ≤ fine ∧ fine ≤ 1000000) (hs : 1 ≤ step ∧ step ≤ 20000) {n : Nat} (h1 : ∀ j : Nat, j < n → (j : Int) * step < slen l) (h2 : slen l ≤ (n : Int) * step) :
    loopO (fun q : Int × Bool × Int × Sp => worth_Best_s1 p step fine (view l d p vr, true) q.1 q.2.1 q.2.2.1 q.2.2.2) (0, false, 0, ⟨0, 0⟩) = some (bst l d p vr step fine n) := by
  have hsl := slen_all hv.sol
  have := loopO_upto (step := fun q : Int × Bool × Int × Sp => worth_Best_s1 p step fine (view l d p vr, true) q.1 q.2.1 q.2.2.1 q.2.2.2) (fun j => ((bst l d p vr step fine j).1, (bst l d p vr step fine j).2.1, (j : Int) * step, (bst l d p vr step fine j).2.2)) n (y := bst l d p vr step fine n) (fun j hj => by
    have h3 := h1 j hj
    have h4 : 0 ≤ (j : Int) * step := Int.mul_nonneg (by omega) (by omega)
    unfold worth_Best_s1
    dsimp only
    rw [show (view l d p vr).length = slen l from rfl, decide_eq_true h3, cond_true, best_s2 hv hx hy hg hf (by omega) (bst l d p vr step fine j), bind_some', ← bst_succ, W64_eq (by omega) (by omega), show ((j + 1 : Nat) : Int) * step = (j : Int) * step + step by rw [Int.natCast_add, Int.add_mul]; omega]) (by
    unfold worth_Best_s1
    dsimp only
    rw [show (view l d p vr).length = slen l from rfl, decide_eq_false (by omega)]
    rfl)
  rw [show ((0 : Nat) : Int) * step = 0 by simp] at this
  exact this
theorem r20_best_s1 {l : List TSlice} {d : List Df} {p : TProduct} (hv : Valid l d p) (vr : TRect) {fine step : Int} (hf : 0 ≤ fine ∧ fine ≤ 1000000) (hs : 1 ≤ step ∧ step ≤ 20000) {n : Nat} (h1 : ∀ j : Nat, j < n → (j : Int) * step < slen l) (h2 : slen l ≤ (n : Int) * step) :
    loopO (fun q : Int × Bool × Int × Sp => r20_Best_s1 l d p vr step fine q.1 q.2.1 q.2.2.1 q.2.2.2) (0, false, 0, ⟨0, 0⟩) = some (bst l d p vr step fine n) := by
  have hsl := slen_all hv.sol
  have := loopO_upto (step := fun q : Int × Bool × Int × Sp => r20_Best_s1 l d p vr step fine q.1 q.2.1 q.2.2.1 q.2.2.2) (fun j => ((bst l d p vr step fine j).1, (bst l d p vr step fine j).2.1, (j : Int) * step, (bst l d p vr step fine j).2.2)) n (y := bst l d p vr step fine n) (fun j hj => by
    have h3 := h1 j hj
    have h4 : 0 ≤ (j : Int) * step := Int.mul_nonneg (by omega) (by omega)
    unfold r20_Best_s1
    dsimp only
    rw [length_eq hv.sol hv.lc, bind_some', decide_eq_true h3, cond_true, r20_best_s2 hv vr hf (by omega) (bst l d p vr step fine j), bind_some', ← bst_succ, W64_eq (by omega) (by omega), show ((j + 1 : Nat) : Int) * step = (j : Int) * step + step by rw [Int.natCast_add, Int.add_mul]; omega]) (by
    unfold r20_Best_s1
    dsimp only
    rw [length_eq hv.sol hv.lc, bind_some', decide_eq_false (by omega)]
    rfl)
  rw [show ((0 : Nat) : Int) * step = 0 by simp] at this
  exact this
theorem bs_none {l : List TSlice} {d : List Df} {p : TProduct} {vr : TRect} {fine : Int} (h : (r20_across_g vr.X && (r20_across_g vr.Y && gok p vr.X vr.Y)) = false) : ∀ (c : List Sp) (s : Int × Bool × Sp), c.foldl (bs l d p vr fine) s = s
  | [], s => rfl
  | z :: c, s => by
    have : bs l d p vr fine s z = s := by
      unfold bs
      rw [acc_f (b := ⟨vr.X, vr.Y, z⟩) h]
      rfl
    rw [List.foldl_cons, this, bs_none h c]
/-- What Best answers: nothing, or the best of n positions. -/
def BestIs (l : List TSlice) (d : List Df) (p : TProduct) (vr : TRect) (step fine : Int) (o : Sp × Int × Bool) : Prop :=
  ((r20_from_g step 1 20000 && (r20_from_g fine 0 1000000 && vld l d p)) = false ∧ o = (⟨0, 0⟩, 0, false)) ∨
  (Valid l d p ∧ (1 ≤ step ∧ step ≤ 20000) ∧ (0 ≤ fine ∧ fine ≤ 1000000) ∧ vld l d p = true ∧ ∃ n : Nat, (∀ j : Nat, j < n → (j : Int) * step < slen l) ∧ slen l ≤ (n : Int) * step ∧ o = ((bst l d p vr step fine n).2.2, (bst l d p vr step fine n).1, (bst l d p vr step fine n).2.1))
theorem best_both {l : List TSlice} (hl : LowOk l) (d : List Df) (p : TProduct) (vr : TRect) (step fine : Int) : ∃ o, worth_Best_g l d p vr step fine = some o ∧ r20_Best_g l d p vr step fine = some o ∧ BestIs l d p vr step fine o := by
  unfold worth_Best_g r20_Best_g
  rw [show worth_isStep_g step = r20_from_g step 1 20000 from rfl, isFine_eq, look_eq hl, r20_valid_eq hl]
  unfold BestIs
  cases hst : r20_from_g step 1 20000 with
  | false => exact ⟨_, rfl, rfl, .inl ⟨rfl, rfl⟩⟩
  | true =>
    cases hf : r20_from_g fine 0 1000000 with
    | false => exact ⟨_, rfl, rfl, .inl ⟨rfl, rfl⟩⟩
    | true =>
      simp only [Bool.not_true, cond_false, bind_some']
      cases hv : vld l d p with
      | false => exact ⟨_, rfl, rfl, .inl ⟨rfl, rfl⟩⟩
      | true =>
        have hV := vld_t hl hv
        have hsl := slen_all hV.sol
        obtain ⟨n, h1, h2⟩ := rounds hsl.1 (from_t hst).1
        have e2 := r20_best_s1 hV vr (from_t hf) (from_t hst) h1 h2
        refine ⟨((bst l d p vr step fine n).2.2, (bst l d p vr step fine n).1, (bst l d p vr step fine n).2.1), ?_, ?_, .inr ⟨hV, from_t hst, from_t hf, rfl, n, h1, h2, rfl⟩⟩
        · cases hs : (r20_across_g vr.X && (r20_across_g vr.Y && gok p vr.X vr.Y)) with
          | false =>
            unfold bst
            rw [bs_none hs]
            rfl
          | true =>
            have hs' := hs
            rw [Bool.and_eq_true, Bool.and_eq_true] at hs'
            have e1 := best_s1 hV hs'.1 hs'.2.1 hs'.2.2 (from_t hf) (from_t hst) h1 h2
            simp only [Bool.and_true, cond_true, Bool.not_true, cond_false]
            rw [e1]
            rfl
        · simp only [Bool.not_true, cond_false]
          rw [e2]
          rfl
theorem lbest_both {g : Tsawmilllaw20_Given} (hl : LowOk g.Solid) (vr : TRect) (step : Int) : ∃ o, l20_best_g g vr step = some o ∧ r20_Best_g g.Solid g.Defects g.Product vr step g.Fine = some o ∧ BestIs g.Solid g.Defects g.Product vr step g.Fine o := by
  obtain ⟨o, h1, h2, h3⟩ := best_both hl g.Defects g.Product vr step g.Fine
  refine ⟨o, ?_, h2, h3⟩
  unfold l20_best_g
  rw [h1]
  rfl
theorem eqSp_self (s : Sp) : eqV encSp s s = true := by
  unfold eqV encSp
  simp [eqA, AV.cells, veq]
theorem worthBests_true (g : Tsawmilllaw20_Given) (vr : TRect) (step : Int) (hl : LowOk g.Solid) : l20_WorthBests_g g vr step = some true := by
  unfold l20_WorthBests_g
  obtain ⟨c, hc, _⟩ := small_total g
  obtain ⟨o, h1, h2, _⟩ := lbest_both hl vr step (g := g)
  rw [hc, bind_some', aw20, h1, h2]
  cases c with
  | false => rfl
  | true =>
    cases l20_rare_g step with
    | false => rfl
    | true =>
      simp only [bind_some', Bool.not_true, cond_false, eqSp_self, cond_true, beq_self_eq_true]

end Go.Proofs.Ytjdgaclkcmjjcaa
