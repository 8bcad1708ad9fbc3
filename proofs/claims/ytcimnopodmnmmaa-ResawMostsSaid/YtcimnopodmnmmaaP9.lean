/- P9: what functions of the program compute (written by mod.py). -/
import Derived.Test.YtcimnopodmnmmaaP8
import Derived.KernelRfl
namespace Go.Proofs.Ytcimnopodmnmmaa
open Go Go.Ab
set_option linter.unusedSimpArgs false
set_option linter.unusedVariables false
set_option linter.unusedSectionVars false
set_option maxRecDepth 20000
set_option maxHeartbeats 1000000

/-! the whole table -/
noncomputable def arT (k : Int) (L : List (Int × Int)) (M i : Nat) : Ar 9 (List Int) := ⟨tab 9 (fun m => rowT k L M m i), tab_len ..⟩
noncomputable def arP (k : Int) (L : List (Int × Int)) (M n i : Nat) : Ar 9 (List Int) := ⟨tab 9 (fun m => if m < n then rowT k L M m i else []), tab_len ..⟩
noncomputable def tblT (k : Int) (L : List (Int × Int)) (M j t : Nat) : Ar 9 (List Int) := if j ≤ t then arT k L M t else arZ 9 []
theorem arP_val (k : Int) (L : List (Int × Int)) (M n i : Nat) : (arP k L M n i).1 = tab 9 (fun m => if m < n then rowT k L M m i else []) := rfl
theorem arT_val (k : Int) (L : List (Int × Int)) (M i : Nat) : (arT k L M i).1 = tab 9 (fun m => rowT k L M m i) := rfl
theorem arZ_val : (arZ 9 ([] : List Int)).1 = List.replicate 9 [] := rfl
theorem arS_val (a : Ar 9 (List Int)) (i : Int) (v : List Int) : (arS a i v).1 = setI a.1 i v := rfl
theorem arP_zero (k : Int) (L : List (Int × Int)) (M i : Nat) : arP k L M 0 i = arZ 9 [] := by
  apply Subtype.ext
  rw [arP_val, arZ_val, rep_tab]
  exact tab_congr fun j _ => if_neg (by omega)
theorem arP_nine (k : Int) (L : List (Int × Int)) (M i : Nat) : arP k L M 9 i = arT k L M i := by
  apply Subtype.ext
  rw [arP_val, arT_val]
  exact tab_congr fun j hj => if_pos hj
theorem arP_succ (k : Int) (L : List (Int × Int)) (M n i : Nat) : arS (arP k L M n i) (n : Int) (rowT k L M n i) = arP k L M (n + 1) i := by
  apply Subtype.ext
  rw [arS_val, arP_val, arP_val, tab_set]
  refine tab_congr fun j hj => ?_
  by_cases h : j = n
  · subst h
    rw [if_pos rfl, if_pos (by omega)]
  · rw [if_neg h]
    by_cases h2 : j < n
    · rw [if_pos h2, if_pos (by omega)]
    · rw [if_neg h2, if_neg (by omega)]
section
variable {k : Int} {sizes prices : List Int} {M : Nat} (hk : 0 ≤ k ∧ k ≤ 20) (hM : M ≤ 10000) (hl : prices.length = sizes.length) (hs : sizes.length ≤ 32) (hR : Rng (sizes.zip prices))
include hk hM hl hs hR
theorem cnt_step {i n : Nat} (hi : i ≤ sizes.length) (hn : n < 9) : resaw_sums_s2 (M : Int) k sizes prices (i : Int) (n : Int) (tab (sizes.length + 1) fun t => if t = i then arP k (sizes.zip prices) M n i else tblT k (sizes.zip prices) M (i + 1) t) = some (.inl (((n + 1 : Nat) : Int), tab (sizes.length + 1) fun t => if t = i then arP k (sizes.zip prices) M (n + 1) i else tblT k (sizes.zip prices) M (i + 1) t)) := by
  unfold resaw_sums_s2
  rw [decide_eq_true (show (n : Int) < 9 by omega), cond_true, W64_succ (show M < 9223372036854775807 by omega), repeat_eq (by omega) (by omega), bind_some', W64_succ (show n < 9223372036854775807 by omega)]
  have hrow := row_loop hk hM hl hs hR (n := n) (i := i) (by omega) hi (g := fun t => if t = i then arP k (sizes.zip prices) M n i else tblT k (sizes.zip prices) M (i + 1) t) (h := fun m => if m < n then rowT k (sizes.zip prices) M m i else []) (fun h => by
    show (if i + 1 = i then _ else tblT k (sizes.zip prices) M (i + 1) (i + 1)).1 = _
    rw [if_neg (by omega)]
    unfold tblT
    rw [if_pos (Nat.le_refl _)]
    rfl) (by
    rw [if_pos rfl, arP_val]) (fun m hm => if_pos hm)
  rw [hrow, bind_some', tab_at _ (show i < sizes.length + 1 by omega), bind_some', if_pos rfl]
  have hg : getI (arP k (sizes.zip prices) M n i).1 (n : Int) = some [] := by
    rw [arP_val, tab_at _ hn, if_neg (by omega)]
  rw [hg, bind_some', bind_some', arP_succ, tab_set]
  congr 3
  refine tab_congr fun j hj => ?_
  by_cases h : j = i
  · rw [if_pos h, if_pos h]
  · rw [if_neg h, if_neg h, if_neg h]
theorem cnt_loop {i : Nat} (hi : i ≤ sizes.length) : loopO (fun q : Int × List (Ar 9 (List Int)) => resaw_sums_s2 (M : Int) k sizes prices (i : Int) q.1 q.2) (0, tab (sizes.length + 1) (tblT k (sizes.zip prices) M (i + 1))) = some (tab (sizes.length + 1) (tblT k (sizes.zip prices) M i)) := by
  have := loopO_upto (step := fun q : Int × List (Ar 9 (List Int)) => resaw_sums_s2 (M : Int) k sizes prices (i : Int) q.1 q.2) (fun n => ((n : Int), tab (sizes.length + 1) fun t => if t = i then arP k (sizes.zip prices) M n i else tblT k (sizes.zip prices) M (i + 1) t)) 9 (y := tab (sizes.length + 1) (tblT k (sizes.zip prices) M i)) (fun n hn => cnt_step hk hM hl hs hR hi hn) (by
    show resaw_sums_s2 (M : Int) k sizes prices (i : Int) ((9 : Nat) : Int) _ = _
    unfold resaw_sums_s2
    rw [decide_eq_false (by omega), cond_false]
    congr 2
    refine tab_congr fun j hj => ?_
    unfold tblT
    by_cases h : j = i
    · subst h
      rw [if_pos rfl, if_pos (Nat.le_refl _), arP_nine]
    · rw [if_neg h]
      by_cases h2 : i ≤ j
      · rw [if_pos h2, if_pos (by omega)]
      · rw [if_neg h2, if_neg (by omega)])
  rw [show (tab (sizes.length + 1) fun t => if t = i then arP k (sizes.zip prices) M 0 i else tblT k (sizes.zip prices) M (i + 1) t) = tab (sizes.length + 1) (tblT k (sizes.zip prices) M (i + 1)) by
    refine tab_congr fun j hj => ?_
    by_cases h : j = i
    · subst h
      rw [if_pos rfl, arP_zero]
      unfold tblT
      rw [if_neg (by omega)]
    · rw [if_neg h]] at this
  exact this
theorem sums_eq : resaw_sums_g (M : Int) k sizes prices = some (tab (sizes.length + 1) (arT k (sizes.zip prices) M)) := by
  unfold resaw_sums_g
  rw [W64_succ (by omega), mkO_eq (by omega) (by omega) (by omega), bind_some', Int.toNat_natCast]
  have := loopO_upto (step := fun q : Int × List (Ar 9 (List Int)) => resaw_sums_s1 (M : Int) k sizes prices q.1 q.2) (fun j => ((sizes.length : Int) - (j : Int), tab (sizes.length + 1) (tblT k (sizes.zip prices) M (sizes.length + 1 - j)))) (sizes.length + 1) (y := tab (sizes.length + 1) (arT k (sizes.zip prices) M)) (fun j hj => by
    show resaw_sums_s1 (M : Int) k sizes prices ((sizes.length : Int) - (j : Int)) _ = _
    unfold resaw_sums_s1
    rw [decide_eq_true (by omega), cond_true, show (sizes.length : Int) - (j : Int) = ((sizes.length - j : Nat) : Int) by omega, show sizes.length + 1 - j = (sizes.length - j) + 1 by omega, cnt_loop hk hM hl hs hR (by omega), bind_some', W64_eq (by omega) (by omega), show ((sizes.length - j : Nat) : Int) - 1 = (sizes.length : Int) - ((j + 1 : Nat) : Int) by omega, show sizes.length + 1 - (j + 1) = sizes.length - j by omega]) (by
    show resaw_sums_s1 (M : Int) k sizes prices ((sizes.length : Int) - ((sizes.length + 1 : Nat) : Int)) _ = _
    unfold resaw_sums_s1
    rw [decide_eq_false (by omega), cond_false]
    congr 2
    refine tab_congr fun j hj => ?_
    unfold tblT
    rw [if_pos (by omega)])
  rw [show (sizes.length : Int) - ((0 : Nat) : Int) = (sizes.length : Int) by omega, show tab (sizes.length + 1) (tblT k (sizes.zip prices) M (sizes.length + 1 - 0)) = List.replicate (sizes.length + 1) (arZ 9 []) by
    rw [rep_tab]
    refine tab_congr fun j hj => ?_
    unfold tblT
    rw [if_neg (by omega)]] at this
  rw [this, bind_some']
end

end Go.Proofs.Ytcimnopodmnmmaa
