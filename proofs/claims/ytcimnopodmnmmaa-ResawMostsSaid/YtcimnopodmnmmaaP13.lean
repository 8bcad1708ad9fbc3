/- P13: what functions of the program compute (written by mod.py). -/
import Derived.Test.YtcimnopodmnmmaaP11
import Derived.KernelRfl
namespace Go.Proofs.Ytcimnopodmnmmaa
open Go Go.Ab
set_option linter.unusedSimpArgs false
set_option linter.unusedVariables false
set_option linter.unusedSectionVars false
set_option maxRecDepth 20000
set_option maxHeartbeats 1000000

/-! the reference's Most: recursion with a memory -/
theorem radix {a b W r s : Nat} (hr : r < W) (hs : s < W) (h : a * W + r = b * W + s) : a = b ∧ r = s := by
  have h1 : (a * W + r) / W = a := by
    rw [Nat.add_comm, Nat.add_mul_div_right _ _ (by omega), Nat.div_eq_of_lt hr]
    omega
  have h2 : (b * W + s) / W = b := by
    rw [Nat.add_comm, Nat.add_mul_div_right _ _ (by omega), Nat.div_eq_of_lt hs]
    omega
  have h3 : a = b := by rw [← h1, h, h2]
  subst h3
  exact ⟨rfl, by omega⟩
/-- What is known is right. -/
structure Kn (k : Int) (L : List (Int × Int)) (M : Nat) (known : List Int) : Prop where
  len : known.length = 9 * L.length * (M + 1)
  ok : ∀ (n f r : Nat) (hn : n ≤ 8) (hf : f < L.length) (hr : r < M + 1) (v : Int), known[(n * L.length + f) * (M + 1) + r]? = some v → v = -2 ∨ v = bst k n (L.drop f) (r : Int)
theorem idx_lt {n l f W r : Nat} (hn : n ≤ 8) (hf : f < l) (hr : r < W) : (n * l + f) * W + r < 9 * l * W := by
  have h1 : n * l ≤ 8 * l := Nat.mul_le_mul_right _ hn
  have h2 : (n * l + f + 1) * W ≤ 9 * l * W := Nat.mul_le_mul_right _ (by omega)
  rw [Nat.add_mul, Nat.one_mul] at h2
  omega
theorem Kn.set {k : Int} {L : List (Int × Int)} {M : Nat} {known : List Int} (h : Kn k L M known) {n f r : Nat} (hn : n ≤ 8) (hf : f < L.length) (hr : r < M + 1) : Kn k L M (setI known (((n * L.length + f) * (M + 1) + r : Nat) : Int) (bst k n (L.drop f) (r : Int))) := by
  constructor
  · unfold setI
    rw [List.length_set]
    exact h.len
  · intro n' f' r' hn' hf' hr' v hv
    unfold setI at hv
    rw [Int.toNat_natCast, List.getElem?_set] at hv
    by_cases he : (n * L.length + f) * (M + 1) + r = (n' * L.length + f') * (M + 1) + r'
    · obtain ⟨e1, e2⟩ := radix hr hr' he
      obtain ⟨e3, e4⟩ := radix hf hf' e1
      subst e2 e3 e4
      rw [if_pos rfl] at hv
      split at hv
      · cases hv
        exact .inr rfl
      · cases hv
    · rw [if_neg he] at hv
      exact h.ok n' f' r' hn' hf' hr' v hv
section
variable {k : Int} {sizes prices : List Int} {M : Nat} (hk : 0 ≤ k ∧ k ≤ 20) (hM : M ≤ 10000) (hl : prices.length = sizes.length) (hs : sizes.length ≤ 32) (hR : Rng (sizes.zip prices))
include hk hM hl hs hR
theorem idx_w {n f r : Nat} (hn : n ≤ 8) (hf : f < sizes.length) (hr : r < M + 1) : W64 (W64 (W64 (W64 ((n : Int) * ((sizes.length : Nat) : Int)) + (f : Int)) * ((M + 1 : Nat) : Int)) + (r : Int)) = (((n * sizes.length + f) * (M + 1) + r : Nat) : Int) := by
  have h1 : n * sizes.length ≤ 8 * 32 := Nat.mul_le_mul hn hs
  have h2 : (n * sizes.length + f) * (M + 1) ≤ 288 * 10001 := Nat.mul_le_mul (by omega) (by omega)
  have e1 : (n : Int) * ((sizes.length : Nat) : Int) = ((n * sizes.length : Nat) : Int) := by push_cast; rfl
  rw [e1, W64_eq (n := ((n * sizes.length : Nat) : Int)) (by omega) (by omega), show ((n * sizes.length : Nat) : Int) + (f : Int) = ((n * sizes.length + f : Nat) : Int) by push_cast; rfl, W64_eq (n := ((n * sizes.length + f : Nat) : Int)) (by omega) (by omega)]
  have e2 : ((n * sizes.length + f : Nat) : Int) * ((M + 1 : Nat) : Int) = (((n * sizes.length + f) * (M + 1) : Nat) : Int) := by rw [Int.natCast_mul]
  rw [e2, W64_eq (n := (((n * sizes.length + f) * (M + 1) : Nat) : Int)) (by omega) (by omega), W64_eq (by omega) (by omega)]
  push_cast
  rfl
theorem best_spec : ∀ (N n f r : Nat) (known : List Int), n * (sizes.length + 1) + (sizes.length - f) < N → n ≤ 8 → f ≤ sizes.length → r < M + 1 → Kn k (sizes.zip prices) M known → ∃ known', r27_best_r N (n : Int) (f : Int) (r : Int) sizes prices known k ((M + 1 : Nat) : Int) = some (bst k n ((sizes.zip prices).drop f) (r : Int), known') ∧ Kn k (sizes.zip prices) M known' := by
  have hzl : (sizes.zip prices).length = sizes.length := by rw [List.length_zip]; omega
  intro N
  induction N with
  | zero => intro n f r known h; omega
  | succ N ih =>
    intro n f r known hN hn hf hr hK
    rw [r27_best_r]
    dsimp only
    cases n with
    | zero =>
      rw [show ((((0 : Nat) : Int)) == 0) = true from rfl, cond_true]
      exact ⟨known, rfl, hK⟩
    | succ n =>
      rw [show ((((n + 1 : Nat) : Int)) == 0) = false by rw [beq_eq_false_iff_ne]; omega, cond_false]
      rcases Nat.lt_or_ge f sizes.length with hfl | hfl
      · rw [show ((((f : Nat) : Int)) == ((sizes.length : Nat) : Int)) = false by rw [beq_eq_false_iff_ne]; omega, cond_false, idx_w hk hM hl hs hR hn hfl hr]
        have hi : ((n + 1) * sizes.length + f) * (M + 1) + r < known.length := by
          rw [hK.len, hzl]
          exact idx_lt hn hfl hr
        generalize hidx : ((n + 1) * sizes.length + f) * (M + 1) + r = idx at *
        rw [getI_at hi, bind_some']
        by_cases he : known[idx] = -2
        · rw [he, show ((-2 : Int) != -2) = false from rfl, cond_false, W64_succ (by omega)]
          have hmul : (n + 1) * (sizes.length + 1) = n * (sizes.length + 1) + (sizes.length + 1) := Nat.succ_mul ..
          obtain ⟨k1, hk1, hK1⟩ := ih (n + 1) (f + 1) r known (by omega) hn (by omega) hr hK
          have hlen1 : Nat.beq k1.length known.length = true := by rw [hK1.len, hK.len]; simp
          have hz := zip_at hk hM hl hs hR hfl
          have hq := hR (sizes[f], prices[f]) (List.mem_of_mem_drop (i := f) (by rw [hz]; exact List.mem_cons_self ..))
          dsimp only at hq
          have hc := bst_cons k n (sizes[f], prices[f]) ((sizes.zip prices).drop (f + 1)) (r : Int)
          rw [← hz] at hc
          dsimp only at hc
          rw [hk1, bind_some']
          dsimp only
          rw [hlen1, cond_true, getI_at hfl, bind_some', W64_eq (n := sizes[f] + k) (by omega) (by omega)]
          have hset : ∀ kn : List Int, Kn k (sizes.zip prices) M kn → Kn k (sizes.zip prices) M (setI kn (idx : Int) (bst k (n + 1) ((sizes.zip prices).drop f) (r : Int))) ∧ idx < kn.length := by
            intro kn hkn
            have := hkn.set (n := n + 1) (f := f) (r := r) hn (by omega) hr
            rw [hzl, hidx] at this
            exact ⟨this, by rw [hkn.len, ← hK.len]; exact hi⟩
          by_cases hfit : sizes[f] + k ≤ (r : Int)
          · rw [decide_eq_true hfit, cond_true, bind_some', W64_eq (n := (r : Int) - sizes[f]) (by omega) (by omega), W64_eq (n := (r : Int) - sizes[f] - k) (by omega) (by omega), W64_eq (n := ((n + 1 : Nat) : Int) - 1) (by omega) (by omega), show ((n + 1 : Nat) : Int) - 1 = (n : Int) by omega]
            obtain ⟨k2, hk2, hK2⟩ := ih n f ((r : Int) - sizes[f] - k).toNat k1 (by omega) (by omega) (by omega) (by omega) hK1
            rw [show ((((r : Int) - sizes[f] - k).toNat : Nat) : Int) = (r : Int) - sizes[f] - k by omega] at hk2
            have hlen2 : Nat.beq k2.length k1.length = true := by rw [hK2.len, hK1.len]; simp
            have hbd := bst_bd k n ((sizes.zip prices).drop f) ((r : Int) - sizes[f] - k) (fun q hq => hR q (List.mem_of_mem_drop hq))
            rw [hk2, bind_some']
            dsimp only
            rw [hlen2, cond_true]
            obtain ⟨hS1, hS2⟩ := hset k2 hK2
            by_cases h0 : 0 ≤ bst k n ((sizes.zip prices).drop f) ((r : Int) - sizes[f] - k)
            · rw [if_pos ⟨by omega, h0⟩, Int.add_comm _ prices[f]] at hc
              rw [decide_eq_true h0, cond_true, getI_at (show f < prices.length by omega), bind_some', getI_at hS2, bind_some', W64_eq (by omega) (by omega), ← hc]
              exact ⟨_, rfl, hS1⟩
            · rw [if_neg (fun h => h0 h.2)] at hc
              rw [decide_eq_false h0, cond_false, getI_at hS2, bind_some', ← hc]
              exact ⟨_, rfl, hS1⟩
          · obtain ⟨hS1, hS2⟩ := hset k1 hK1
            rw [if_neg (fun h => hfit (by omega))] at hc
            rw [decide_eq_false hfit, cond_false, getI_at hS2, bind_some', ← hc]
            exact ⟨_, rfl, hS1⟩
        · rw [show (known[idx] != -2) = true by simpa using he, cond_true, bind_some']
          have := hK.ok (n + 1) f r hn (by omega) hr known[idx] (by rw [hzl, hidx, List.getElem?_eq_getElem hi])
          rcases this with h | h
          · exact absurd h he
          · rw [h]
            exact ⟨known, rfl, hK⟩
      · have : f = sizes.length := by omega
        subst this
        rw [show ((((sizes.length : Nat) : Int)) == ((sizes.length : Nat) : Int)) = true by simp, cond_true, List.drop_eq_nil_of_le (by omega), bst_nil]
        exact ⟨known, rfl, hK⟩
end

end Go.Proofs.Ytcimnopodmnmmaa
