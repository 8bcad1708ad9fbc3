/- P8: what functions of the program compute (written by mod.py). -/
import Derived.Test.YtcimnopodmnmmaaP7
import Derived.KernelRfl
namespace Go.Proofs.Ytcimnopodmnmmaa
open Go Go.Ab
set_option linter.unusedSimpArgs false
set_option linter.unusedVariables false
set_option linter.unusedSectionVars false
set_option maxRecDepth 20000
set_option maxHeartbeats 1000000

/-! the program's table -/
def tab {α : Type} (m : Nat) (f : Nat → α) : List α := (List.range m).map f
theorem tab_len {α : Type} (m : Nat) (f : Nat → α) : (tab m f).length = m := by simp [tab]
theorem tab_at {α : Type} {m j : Nat} (f : Nat → α) (h : j < m) : getI (tab m f) (j : Int) = some (f j) := by
  rw [getI_at (by rw [tab_len]; exact h)]
  simp [tab]
theorem tab_set {α : Type} (m : Nat) (f : Nat → α) (j : Nat) (v : α) : setI (tab m f) (j : Int) v = tab m (fun t => if t = j then v else f t) := by
  unfold setI tab
  apply List.ext_getElem
  · simp
  · intro n h1 h2
    simp only [List.getElem_set, List.getElem_map, List.getElem_range, Int.toNat_natCast]
    by_cases h : j = n
    · rw [if_pos h, if_pos h.symm]
    · rw [if_neg h, if_neg (fun h' => h h'.symm)]
theorem tab_congr {α : Type} {m : Nat} {f g : Nat → α} (h : ∀ j, j < m → f j = g j) : tab m f = tab m g := by
  unfold tab
  refine List.map_congr_left fun j hj => h j (List.mem_range.1 hj)
theorem rep_tab {α : Type} (m : Nat) (v : α) : List.replicate m v = tab m (fun _ => v) := by
  unfold tab
  apply List.ext_getElem
  · simp
  · intro n h1 h2
    simp
/-! slices.Repeat of one number -/
theorem cpy_rep {n M : Nat} (h1 : 1 ≤ n) (h2 : n < M) : cpy (List.replicate n (-1 : Int) ++ List.replicate (M - n) 0) (List.replicate n (-1)) n (M - n) = List.replicate (n + min n (M - n)) (-1 : Int) ++ List.replicate (M - (n + min n (M - n))) 0 := by
  unfold cpy
  apply List.ext_getElem
  · simp
    omega
  · intro j g1 g2
    simp only [List.getElem_append, List.getElem_take, List.getElem_drop, List.length_take, List.length_replicate, List.length_append, List.getElem_replicate]
    repeat' split
    all_goals first | rfl | omega
theorem rep_step {n M : Nat} (h1 : 1 ≤ n) (h2 : n < M) (hM : M ≤ 100000) : slices_Repeat___int_int__s1 (n : Int) (List.replicate n (-1) ++ List.replicate (M - n) 0) = some (.inl (((n + min n (M - n) : Nat) : Int), List.replicate (n + min n (M - n)) (-1) ++ List.replicate (M - (n + min n (M - n))) 0)) := by
  unfold slices_Repeat___int_int__s1
  have hl : (List.replicate n (-1 : Int) ++ List.replicate (M - n) 0).length = M := by simp; omega
  have ht : ((List.replicate n (-1 : Int) ++ List.replicate (M - n) 0).drop (0 : Int).toNat).take ((n : Int).toNat - (0 : Int).toNat) = List.replicate n (-1) := by
    simp
  rw [ht, hl]
  rw [decide_eq_true (show (n : Int) < (M : Int) by omega), decide_eq_true (show (0 : Int) ≤ (n : Int) by omega), decide_eq_true (show (n : Int) ≤ (M : Int) by omega), decide_eq_true (show (M : Int) ≤ (M : Int) by omega), decide_eq_true (show (0 : Int) ≤ 0 by omega), decide_eq_true (show (0 : Int) < (M : Int) by omega)]
  simp only [Bool.and_self, cond_true, Int.toNat_natCast, Int.toNat_zero, Nat.sub_zero, Nat.zero_add]
  rw [show Nat.ble (n + (M - n)) M = true by rw [Nat.ble_eq]; omega, show Nat.blt 0 (M - n) = true by rw [Nat.blt_eq]; omega, show Nat.ble n M = true by rw [Nat.ble_eq]; omega, show (!(List.replicate n (-1 : Int)).isEmpty) = true by cases n <;> simp at h1 ⊢]
  simp only [Bool.and_self, cond_true, letB_eq, List.length_replicate]
  rw [cpy_rep h1 h2, W64_eq (by omega) (by omega)]
  rfl
theorem rep_loop {M : Nat} (hM : M ≤ 100000) : ∀ (m n : Nat), M - n ≤ m → 1 ≤ n → n ≤ M → loopO (fun q : Int × List Int => slices_Repeat___int_int__s1 q.1 q.2) ((n : Int), List.replicate n (-1) ++ List.replicate (M - n) 0) = some (List.replicate M (-1)) := by
  intro m
  induction m with
  | zero =>
    intro n h0 h1 h2
    have : n = M := by omega
    subst this
    refine loopO_done ?_
    show slices_Repeat___int_int__s1 (n : Int) _ = _
    unfold slices_Repeat___int_int__s1
    rw [decide_eq_false (by simp)]
    simp
  | succ m ih =>
    intro n h0 h1 h2
    rcases Nat.lt_or_ge n M with h | h
    · rw [loopO_next (rep_step h1 h hM)]
      exact ih _ (by omega) (by omega) (by omega)
    · exact ih n (by omega) h1 h2
theorem WU64_eq {n : Int} (h : 0 ≤ n ∧ n < 18446744073709551616) : WU64 n = n := by
  show IntKind.u64.wrap n = n
  rw [wu64]
  omega
theorem bAnd_m {v : Nat} (h : v < 4294967296) : bAnd .u64 (v : Int) 4294967295 = (v : Int) := by
  unfold bAnd
  have e1 : BitVec.ofInt IntKind.u64.bits (v : Int) = BitVec.ofNat 64 v := by
    show BitVec.ofInt 64 (v : Int) = _
    rw [BitVec.ofInt_natCast]
  have e2 : BitVec.ofInt IntKind.u64.bits (4294967295 : Int) = BitVec.ofNat 64 4294967295 := rfl
  rw [e1, e2]
  show IntKind.u64.wrap (((BitVec.ofNat 64 v &&& BitVec.ofNat 64 4294967295).toNat : Nat) : Int) = _
  rw [BitVec.toNat_and, BitVec.toNat_ofNat, BitVec.toNat_ofNat, Nat.mod_eq_of_lt (a := v) (by omega), show 4294967295 % 2 ^ 64 = 2 ^ 32 - 1 by decide, Nat.and_two_pow_sub_one_eq_mod, Nat.mod_eq_of_lt (by omega)]
  exact WU64_eq (by omega)
theorem bShr_0 {v : Nat} (h : v < 4294967296) : bShr .u64 (v : Int) 32 = 0 := by
  show Int.fdiv (v : Int) (2 ^ (min (32 : Int).toNat IntKind.u64.bits)) = 0
  rw [show (2 : Int) ^ (min (32 : Int).toNat IntKind.u64.bits) = 4294967296 from rfl, Int.fdiv_eq_ediv_of_nonneg _ (by omega)]
  omega
theorem mul64_one {n : Nat} (h1 : n ≤ 100000) : (bits_Mul_g 1 (n : Int)) = (0, (n : Int)) := by
  unfold bits_Mul_g bits_Mul64_g
  rw [letB_eq]
  dsimp only
  have a1 : bAnd .u64 1 4294967295 = 1 := bAnd_m (v := 1) (by omega)
  have a2 : bAnd .u64 (n : Int) 4294967295 = (n : Int) := bAnd_m (by omega)
  have a0 : bAnd .u64 0 4294967295 = 0 := bAnd_m (v := 0) (by omega)
  have s1 : bShr .u64 1 32 = 0 := bShr_0 (v := 1) (by omega)
  have s0 : bShr .u64 0 32 = 0 := bShr_0 (v := 0) (by omega)
  have s2 : bShr .u64 (n : Int) 32 = 0 := bShr_0 (by omega)
  have w0 : WU64 0 = 0 := WU64_eq (by omega)
  have wn : WU64 (n : Int) = (n : Int) := WU64_eq (by omega)
  rw [a1, a2, s1, s2]
  simp only [Int.zero_mul, Int.mul_zero, Int.one_mul, Int.zero_add, Int.add_zero, w0, wn, s2, s0, a0]
theorem repeat_eq {M : Nat} (h1 : 1 ≤ M) (hM : M ≤ 100000) : slices_Repeat___int_int__g [-1] (M : Int) = some (List.replicate M (-1)) := by
  unfold slices_Repeat___int_int__g
  rw [decide_eq_false (by omega), cond_false, letB_eq]
  rw [show WU64 ((([(-1 : Int)].length : Nat)) : Int) = 1 by rfl, WU64_eq (by omega), mul64_one hM]
  dsimp only
  rw [decide_eq_false (by omega), cond_false, decide_eq_false (by omega), cond_false, W64_eq (by omega) (by omega), mkO_eq (by omega) (by omega) (by omega), bind_some', List.length_replicate, Int.toNat_natCast]
  rw [show Nat.ble (0 + M) M = true by rw [Nat.ble_eq]; omega, show Nat.blt 0 M = true by rw [Nat.blt_eq]; omega]
  simp only [Bool.and_self, cond_true, letB_eq, List.isEmpty_cons, Bool.not_false]
  have hc : cpy (List.replicate M (0 : Int)) [-1] 0 M = List.replicate 1 (-1) ++ List.replicate (M - 1) 0 := by
    unfold cpy
    rw [show min [(-1 : Int)].length M = 1 by simp; omega]
    simp
  rw [hc, show min [(-1 : Int)].length M = 1 by simp; omega, rep_loop hM M 1 (by omega) (by omega) h1]
  rfl
/-! the rows -/
noncomputable def rowT (k : Int) (L : List (Int × Int)) (M n i : Nat) : List Int := tab (M + 1) fun r => bst k n (L.drop i) (r : Int)
theorem row_get {k : Int} {L : List (Int × Int)} {M n i : Nat} {r : Int} (h0 : 0 ≤ r) (h1 : r ≤ (M : Int)) : getI (rowT k L M n i) r = some (bst k n (L.drop i) r) := by
  have := tab_at (fun r : Nat => bst k n (L.drop i) (r : Int)) (show r.toNat < M + 1 by omega)
  rw [show ((r.toNat : Nat) : Int) = r by omega] at this
  exact this
section
variable {k : Int} {sizes prices : List Int} {M : Nat} (hk : 0 ≤ k ∧ k ≤ 20) (hM : M ≤ 10000) (hl : prices.length = sizes.length) (hs : sizes.length ≤ 32) (hR : Rng (sizes.zip prices))
include hk hM hl hs hR
theorem zip_at {i : Nat} (hi : i < sizes.length) : (sizes.zip prices).drop i = (sizes[i], prices[i]) :: (sizes.zip prices).drop (i + 1) := by
  have h : i < (sizes.zip prices).length := by rw [List.length_zip]; omega
  rw [List.drop_eq_getElem_cons h, List.getElem_zip]
theorem row_step {n i r : Nat} (hn : n ≤ 8) (hi : i ≤ sizes.length) (hr : r < M + 1) {g : Nat → Ar 9 (List Int)} {h : Nat → List Int} (hg1 : i < sizes.length → (g (i + 1)).1 = tab 9 (fun m => rowT k (sizes.zip prices) M m (i + 1))) (hg2 : (g i).1 = tab 9 h) (hh : ∀ m, m < n → h m = rowT k (sizes.zip prices) M m i) :
    resaw_sums_s3 k sizes prices (i : Int) (n : Int) (tab (sizes.length + 1) g) (List.replicate (M + 1) (-1)) (r : Int) (tab (M + 1) fun t => if t < r then bst k n ((sizes.zip prices).drop i) (t : Int) else -1) = some (.inl (((r + 1 : Nat) : Int), tab (M + 1) fun t => if t < r + 1 then bst k n ((sizes.zip prices).drop i) (t : Int) else -1)) := by
  unfold resaw_sums_s3
  rw [decide_eq_true (by rw [List.length_replicate]; omega), cond_true, W64_succ (by omega)]
  have key : ∀ v : Int, v = bst k n ((sizes.zip prices).drop i) (r : Int) → setI (tab (M + 1) fun t => if t < r then bst k n ((sizes.zip prices).drop i) (t : Int) else -1) (r : Int) v = tab (M + 1) fun t => if t < r + 1 then bst k n ((sizes.zip prices).drop i) (t : Int) else -1 := by
    intro v hv
    rw [tab_set]
    refine tab_congr fun j hj => ?_
    by_cases h1 : j = r
    · subst h1
      rw [if_pos rfl, if_pos (by omega), hv]
    · rw [if_neg h1]
      by_cases h2 : j < r
      · rw [if_pos h2, if_pos (by omega)]
      · rw [if_neg h2, if_neg (by omega)]
  cases n with
  | zero =>
    rw [show ((((0 : Nat) : Int)) == 0) = true from rfl, cond_true, tab_at _ hr, bind_some', key 0 (by rw [bst_zero])]
  | succ n =>
    rw [show ((((n + 1 : Nat) : Int)) == 0) = false by simp; omega, cond_false]
    by_cases hie : i = sizes.length
    · subst hie
      rw [show ((((sizes.length : Nat) : Int)) == ((sizes.length : Nat) : Int)) = true by simp, cond_true]
      congr 3
      refine tab_congr fun j hj => ?_
      rw [List.drop_eq_nil_of_le (by rw [List.length_zip]; omega), bst_nil]
      simp
    · have hi' : i < sizes.length := by omega
      have hq := hR (sizes[i], prices[i]) (by
        have := zip_at hk hM hl hs hR hi'
        exact List.mem_of_mem_drop (i := i) (by rw [this]; exact List.mem_cons_self ..))
      dsimp only at hq
      have hz := zip_at hk hM hl hs hR hi'
      have hc := bst_cons k n (sizes[i], prices[i]) ((sizes.zip prices).drop (i + 1)) (r : Int)
      rw [← hz] at hc
      dsimp only at hc
      have hb1 := bst_bd k n ((sizes.zip prices).drop i) ((r : Int) - sizes[i] - k) (fun q hq => hR q (List.mem_of_mem_drop hq))
      rw [show ((((i : Nat) : Int)) == ((sizes.length : Nat) : Int)) = false by simp; omega, cond_false, W64_succ (by omega), tab_at g (by omega), bind_some', hg1 hi', tab_at _ (by omega), bind_some', row_get (by omega) (by omega), bind_some', tab_at _ hr, bind_some', getI_at hi', bind_some', W64_eq (n := (r : Int) - sizes[i]) (by omega) (by omega), W64_eq (n := (r : Int) - sizes[i] - k) (by omega) (by omega), tab_at g (show i < sizes.length + 1 by omega), W64_eq (n := ((n + 1 : Nat) : Int) - 1) (by omega) (by omega), show ((n + 1 : Nat) : Int) - 1 = (n : Int) by omega]
      have hgn : getI (g i).1 (n : Int) = some (rowT k (sizes.zip prices) M n i) := by rw [hg2, tab_at _ (by omega), hh n (by omega)]
      simp only [bind_some', hgn]
      by_cases h0 : 0 ≤ (r : Int) - sizes[i] - k
      · rw [decide_eq_true h0, cond_true, row_get h0 (by omega), bind_some', bind_some']
        by_cases h1 : 0 ≤ bst k n ((sizes.zip prices).drop i) ((r : Int) - sizes[i] - k)
        · rw [decide_eq_true h1, cond_true]
          rw [if_pos ⟨h0, h1⟩] at hc
          rw [tab_set, tab_at _ hr, bind_some', bind_some', getI_at (show i < prices.length by omega), bind_some', bind_some', if_pos rfl, W64_eq (by omega) (by omega), tab_set]
          congr 3
          refine tab_congr fun j hj => ?_
          by_cases e1 : j = r
          · subst e1
            rw [if_pos rfl, if_pos (by omega), hc]
          · rw [if_neg e1, if_neg e1]
            by_cases e2 : j < r
            · rw [if_pos e2, if_pos (by omega)]
            · rw [if_neg e2, if_neg (by omega)]
        · rw [decide_eq_false h1, cond_false]
          rw [if_neg (fun h => h1 h.2)] at hc
          rw [key _ hc.symm]
      · rw [decide_eq_false h0, cond_false, bind_some', cond_false]
        rw [if_neg (fun h => h0 h.1)] at hc
        rw [key _ hc.symm]
theorem row_loop {n i : Nat} (hn : n ≤ 8) (hi : i ≤ sizes.length) {g : Nat → Ar 9 (List Int)} {h : Nat → List Int} (hg1 : i < sizes.length → (g (i + 1)).1 = tab 9 (fun m => rowT k (sizes.zip prices) M m (i + 1))) (hg2 : (g i).1 = tab 9 h) (hh : ∀ m, m < n → h m = rowT k (sizes.zip prices) M m i) :
    loopO (fun q : Int × List Int => resaw_sums_s3 k sizes prices (i : Int) (n : Int) (tab (sizes.length + 1) g) (List.replicate (M + 1) (-1)) q.1 q.2) (0, List.replicate (M + 1) (-1)) = some (rowT k (sizes.zip prices) M n i) := by
  have := loopO_upto (step := fun q : Int × List Int => resaw_sums_s3 k sizes prices (i : Int) (n : Int) (tab (sizes.length + 1) g) (List.replicate (M + 1) (-1)) q.1 q.2) (fun r => ((r : Int), tab (M + 1) fun t => if t < r then bst k n ((sizes.zip prices).drop i) (t : Int) else -1)) (M + 1) (y := rowT k (sizes.zip prices) M n i) (fun r hr => row_step hk hM hl hs hR hn hi hr hg1 hg2 hh) (by
    show resaw_sums_s3 k sizes prices (i : Int) (n : Int) _ _ ((M + 1 : Nat) : Int) _ = _
    unfold resaw_sums_s3
    rw [decide_eq_false (by rw [List.length_replicate]; omega), cond_false]
    congr 2
    refine tab_congr fun j hj => ?_
    rw [if_pos hj])
  rw [show (tab (M + 1) fun t => if t < 0 then bst k n ((sizes.zip prices).drop i) (t : Int) else -1) = List.replicate (M + 1) (-1) by
    rw [rep_tab]
    refine tab_congr fun j hj => ?_
    rw [if_neg (by omega)]] at this
  exact this
end

end Go.Proofs.Ytcimnopodmnmmaa
