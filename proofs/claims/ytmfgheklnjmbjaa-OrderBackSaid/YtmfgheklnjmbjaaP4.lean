/- P4: what functions of the program compute (written by mod.py). -/
import Derived.Test.YtmfgheklnjmbjaaP3
import Derived.KernelRfl
namespace Go.Proofs.Ytmfgheklnjmbjaa
open Go Go.Ab
set_option linter.unusedSimpArgs false
set_option linter.unusedVariables false
set_option maxRecDepth 20000


/-! fields -/
theorem bq_t {n m : Int} (h : n = m) : (n == m) = true := by simp [h]
theorem bq_f {n m : Int} (h : n ≠ m) : (n == m) = false := by simp [h]
theorem stopped_t {s : ByteArray} {a e : Nat} (h : e ≠ 0) : wire_Reader__stopped_g (wR s a e) = true := ne0_t h
theorem txt_pos {l : List Nat} {most : Int} (h : (txt l most).2.2 = 0) : 1 ≤ (txt l most).2.1 ∧ (txt l most).2.1 ≤ l.length := by
  unfold txt at h ⊢
  by_cases h1 : (cnt l most).2.2 ≠ 0
  · rw [if_pos h1] at h
    exact absurd h h1
  · rw [if_neg h1] at h ⊢
    split at h
    · simp at h
    · rename_i h2
      rw [if_neg h2]
      have := cnt_pos (l := l) (most := most) (by omega)
      dsimp only
      omega
theorem ints_pos {l : List Nat} {most low high : Int} (h : (ints l most low high).2.2 = 0) : 1 ≤ (ints l most low high).2.1 ∧ (ints l most low high).2.1 ≤ l.length := by
  unfold ints at h ⊢
  by_cases h1 : (cnt l most).2.2 ≠ 0
  · rw [if_pos h1] at h
    exact absurd h h1
  · rw [if_neg h1] at h ⊢
    by_cases h2 : (its (cnt l most).1 (l.drop (cnt l most).2.1) low high).2.2 ≠ 0
    · rw [if_pos h2] at h
      exact absurd h h2
    · rw [if_neg h2] at h ⊢
      have h3 := cnt_pos (l := l) (most := most) (by omega)
      have h4 := its_pos (m := (cnt l most).1) (l := l.drop (cnt l most).2.1) (low := low) (high := high) (by omega)
      rw [List.length_drop] at h4
      dsimp only
      omega
theorem left_eq {s : ByteArray} (hs : s.size ≤ 1000000000000) {a e : Nat} (ha : a ≤ s.size) : wire_Reader__Left_g (wR s a e) = ((s.size - a : Nat) : Int) := by
  show W64 (((s.size : Nat) : Int) - (a : Int)) = _
  rw [W64_eq (by omega) (by omega)]
  omega
theorem rleft_eq {s : ByteArray} (hs : s.size ≤ 1000000000000) {a e : Nat} (ha : a ≤ s.size) : r05_Left_g (qR s a e) = ((s.size - a : Nat) : Int) := by
  show W64 (((s.size : Nat) : Int) - (a : Int)) = _
  rw [W64_eq (by omega) (by omega)]
  omega
theorem err_eq (s : ByteArray) (a e : Nat) : wire_Reader__Err_g (wR s a e) = (e : Int) := rfl
theorem end_eq {s : ByteArray} (hs : s.size ≤ 1000000000000) {a e : Nat} (ha : a ≤ s.size) : wire_Reader__End_g (wR s a e) = if e = 0 then (if a < s.size then 4 else 0) else (e : Int) := by
  unfold wire_Reader__End_g
  rw [err_eq, left_eq hs ha]
  by_cases h : e = 0
  · subst h
    rw [if_pos rfl]
    by_cases h1 : a < s.size
    · rw [if_pos h1, decide_eq_true (by omega)]
      rfl
    · rw [if_neg h1, decide_eq_false (by omega)]
      rfl
  · rw [if_neg h, ne0_t h]
    rfl
theorem rend_eq {s : ByteArray} (hs : s.size ≤ 1000000000000) {a e : Nat} (ha : a ≤ s.size) : r05_End_g (qR s a e) = if e = 0 then (if a < s.size then 4 else 0) else (e : Int) := by
  unfold r05_End_g
  rw [rleft_eq hs ha]
  show (bif ((e : Int) == 0) then _ else (e : Int)) = _
  by_cases h : e = 0
  · subst h
    rw [if_pos rfl]
    by_cases h1 : a < s.size
    · rw [if_pos h1, decide_eq_true (by omega)]
      rfl
    · rw [if_neg h1, decide_eq_false (by omega)]
      rfl
  · rw [if_neg h, eq0_f h]
    rfl
theorem its_len : ∀ (m : Nat) (l : List Nat) (low high : Int), (its m l low high).1.length ≤ l.length
  | m, l, low, high => by
    by_cases h : (its m l low high).2.2 = 0
    · have := its_pos h
      omega
    · cases m with
      | zero => exact absurd rfl h
      | succ m =>
        rw [its] at h ⊢
        by_cases h1 : (sgn l low high).2.2 ≠ 0
        · rw [if_pos h1]
          simp
        · rw [if_neg h1] at h ⊢
          by_cases h2 : (its m (l.drop (sgn l low high).2.1) low high).2.2 ≠ 0
          · rw [if_pos h2]
            simp
          · rw [if_neg h2] at h
            exact absurd rfl h
theorem ints_len (l : List Nat) (most low high : Int) : (ints l most low high).1.length ≤ l.length := by
  unfold ints
  split
  · simp
  · split
    · simp
    · have := its_len (cnt l most).1 (l.drop (cnt l most).2.1) low high
      rw [List.length_drop] at this
      dsimp only
      omega
theorem sgn_zero {l : List Nat} {low high : Int} (h : (sgn l low high).2.2 ≠ 0) : (sgn l low high).1 = 0 := by
  unfold sgn at h ⊢
  split
  · rfl
  · split
    · rfl
    · simp_all
theorem txt_zero {l : List Nat} {most : Int} (h : (txt l most).2.2 ≠ 0) : (txt l most).1 = [] := by
  unfold txt at h ⊢
  split
  · rfl
  · split
    · rfl
    · simp_all
theorem ints_zero {l : List Nat} {most low high : Int} (h : (ints l most low high).2.2 ≠ 0) : (ints l most low high).1 = [] := by
  unfold ints at h ⊢
  split
  · rfl
  · split
    · rfl
    · simp_all


/-! what is written is read back; what is read is what would be written; what is cut short is short -/
theorem num_uv : ∀ (n : Nat) {i : Nat} (rest : List Nat), i ≤ 9 → n < 2 * 128 ^ (9 - i) → (n ≠ 0 ∨ i = 0) → num (uv n ++ rest) i = (n, (uv n).length, 0) := by
  intro n
  induction n using Nat.strongRecOn with
  | ind n ih =>
    intro i rest hi hn h0
    by_cases h : n < 128
    · have hu : uv n = [n] := by rw [uv, if_pos h]
      rw [hu]
      show num (n :: rest) i = _
      rw [num, if_neg, if_pos h, if_neg (by omega)]
      · rfl
      · rintro ⟨rfl, h1⟩
        simp at hn
        omega
    · have hi9 : i < 9 := by
        rcases Nat.lt_or_ge i 9 with h1 | h1
        · exact h1
        · have : i = 9 := by omega
          subst this
          simp at hn
          omega
      have he : 128 ^ (9 - i) = 128 * 128 ^ (9 - (i + 1)) := by
        rw [show 9 - i = 9 - (i + 1) + 1 by omega, Nat.pow_succ, Nat.mul_comm]
      have := ih (n / 128) (by omega) (i := i + 1) rest (by omega) (by omega) (.inl (by omega))
      rw [uv_big h]
      show num ((128 + n % 128) :: (uv (n / 128) ++ rest)) i = _
      rw [num, if_neg (by omega), if_neg (by omega), this, if_pos rfl]
      dsimp only
      rw [List.length_cons]
      refine Prod.ext ?_ rfl
      show 128 + n % 128 - 128 + 128 * (n / 128) = n
      omega
theorem p2128 : 2 * 128 ^ (9 - 0) = 18446744073709551616 := by decide
theorem num_back {n : Nat} (h : n < 18446744073709551616) (rest : List Nat) : num (uv n ++ rest) 0 = (n, (uv n).length, 0) := num_uv n rest (by omega) (by rw [p2128]; exact h) (.inr rfl)
theorem num_cut' : ∀ (n : Nat) {i k : Nat}, i ≤ 9 → n < 2 * 128 ^ (9 - i) → k < (uv n).length → num ((uv n).take k) i = (0, 0, 3) := by
  intro n
  induction n using Nat.strongRecOn with
  | ind n ih =>
    intro i k hi hn hk
    by_cases h : n < 128
    · have hu : uv n = [n] := by rw [uv, if_pos h]
      rw [hu] at hk ⊢
      have : k = 0 := by simpa using hk
      subst this
      rfl
    · have hi9 : i < 9 := by
        rcases Nat.lt_or_ge i 9 with h1 | h1
        · exact h1
        · have : i = 9 := by omega
          subst this
          simp at hn
          omega
      have he : 128 ^ (9 - i) = 128 * 128 ^ (9 - (i + 1)) := by
        rw [show 9 - i = 9 - (i + 1) + 1 by omega, Nat.pow_succ, Nat.mul_comm]
      rw [uv_big h] at hk ⊢
      cases k with
      | zero => rfl
      | succ k =>
        have := ih (n / 128) (by omega) (i := i + 1) (k := k) (by omega) (by omega) (by simpa using hk)
        rw [List.take_succ_cons, num, if_neg (by omega), if_neg (by omega), this]
        rfl
theorem num_cut {n k : Nat} (h : n < 18446744073709551616) (hk : k < (uv n).length) : num ((uv n).take k) 0 = (0, 0, 3) := num_cut' n (by omega) (by rw [p2128]; exact h) hk
theorem num_inv : ∀ {l : List Nat} {i : Nat}, (∀ c ∈ l, c < 256) → (num l i).2.2 = 0 → uv (num l i).1 = l.take (num l i).2.1 ∧ (0 < i → (num l i).1 ≠ 0)
  | [], i, _, h => by simp [num] at h
  | c :: l, i, hl, h => by
    have ih := @num_inv l (i + 1) (fun c hc => hl c (List.mem_cons_of_mem _ hc))
    have hc := hl c (List.mem_cons_self ..)
    rw [num] at h ⊢
    by_cases h9 : i = 9 ∧ 1 < c
    · rw [if_pos h9] at h
      simp at h
    · rw [if_neg h9] at h ⊢
      by_cases h1 : c < 128
      · rw [if_pos h1] at h ⊢
        by_cases h2 : c = 0 ∧ 0 < i
        · rw [if_pos h2] at h
          simp at h
        · rw [if_neg h2]
          dsimp only
          rw [uv, if_pos h1]
          exact ⟨rfl, fun h => by omega⟩
      · rw [if_neg h1] at h ⊢
        by_cases h2 : (num l (i + 1)).2.2 = 0
        · rw [if_pos h2]
          obtain ⟨i1, i2⟩ := ih h2
          have i2 := i2 (by omega)
          dsimp only
          rw [uv_big (by omega), List.take_succ_cons, ← i1]
          refine ⟨?_, fun _ => by omega⟩
          congr 1
          · omega
          · congr 1
            omega
        · rw [if_neg h2] at h
          exact absurd h h2
/-! signed -/
theorem sgn_back {n low high : Int} (h : I64 n) (h1 : low ≤ n) (h2 : n ≤ high) (rest : List Nat) : sgn (ub n ++ rest) low high = (n, (ub n).length, 0) := by
  unfold sgn ub
  rw [num_back (zz_lt h), if_neg (by simp)]
  dsimp only
  rw [uz_zz, if_neg (by omega)]
theorem sgn_range {n low high : Int} (h : I64 n) (h1 : n < low ∨ high < n) (rest : List Nat) : sgn (ub n ++ rest) low high = (0, 0, 9) := by
  unfold sgn ub
  rw [num_back (zz_lt h), if_neg (by simp)]
  dsimp only
  rw [uz_zz, if_pos h1]
theorem sgn_cut {n low high : Int} {k : Nat} (h : I64 n) (hk : k < (ub n).length) : (sgn ((ub n).take k) low high).2.2 = 3 := by
  unfold sgn ub
  rw [num_cut (zz_lt h) hk, if_pos (by simp)]
theorem sgn_inv {l : List Nat} {low high : Int} (hl : ∀ c ∈ l, c < 256) (h : (sgn l low high).2.2 = 0) : ub (sgn l low high).1 = l.take (sgn l low high).2.1 ∧ I64 (sgn l low high).1 := by
  unfold sgn at h ⊢
  by_cases h1 : (num l 0).2.2 ≠ 0
  · rw [if_pos h1] at h
    exact absurd h h1
  · rw [if_neg h1] at h ⊢
    split at h
    · simp at h
    · rename_i h2
      rw [if_neg h2]
      have := num_inv (l := l) (i := 0) hl (by omega)
      dsimp only
      unfold ub
      rw [zz_uz]
      exact ⟨this.1, uz_I64 (num_64 hl)⟩
/-! counts -/
theorem cnt_back {n : Nat} {most : Int} (h : n < 18446744073709551616) (hm : (n : Int) ≤ most) (rest : List Nat) : cnt (uv n ++ rest) most = (n, (uv n).length, 0) := by
  unfold cnt
  rw [num_back h, if_neg (by simp)]
  dsimp only
  rw [if_neg (by omega)]
theorem cnt_many {n : Nat} {most : Int} (h : n < 18446744073709551616) (hm : most < (n : Int)) (rest : List Nat) : cnt (uv n ++ rest) most = (0, 0, 4) := by
  unfold cnt
  rw [num_back h, if_neg (by simp)]
  dsimp only
  rw [if_pos (by omega)]
theorem cnt_cut {n k : Nat} {most : Int} (h : n < 18446744073709551616) (hk : k < (uv n).length) : cnt ((uv n).take k) most = (0, 0, 3) := by
  unfold cnt
  rw [num_cut h hk, if_pos (by simp)]
theorem cnt_inv {l : List Nat} {most : Int} (hl : ∀ c ∈ l, c < 256) (h : (cnt l most).2.2 = 0) : uv (cnt l most).1 = l.take (cnt l most).2.1 := by
  unfold cnt at h ⊢
  by_cases h1 : (num l 0).2.2 ≠ 0
  · rw [if_pos h1] at h
    exact absurd h h1
  · rw [if_neg h1] at h ⊢
    split at h
    · simp at h
    · rename_i h2
      rw [if_neg h2]
      exact (num_inv (l := l) (i := 0) hl (by omega)).1
/-! texts -/
theorem txt_back {s : ByteArray} {most : Int} (h : s.size < 18446744073709551616) (hm : (s.size : Int) ≤ most) (rest : List Nat) : txt (tb s ++ rest) most = (bl s, (tb s).length, 0) := by
  have ec : cnt (tb s ++ rest) most = (s.size, (uv s.size).length, 0) := by
    unfold tb
    rw [List.append_assoc]
    exact cnt_back h hm _
  unfold txt
  rw [ec, if_neg (by simp)]
  dsimp only
  have e1 : (tb s ++ rest).drop (uv s.size).length = bl s ++ rest := by
    unfold tb
    rw [List.append_assoc, List.drop_left' rfl]
  have e2 : (tb s ++ rest).length - (uv s.size).length = s.size + rest.length := by
    unfold tb
    rw [List.length_append, List.length_append, bl_length]
    omega
  have e3 : (tb s).length = (uv s.size).length + s.size := by
    unfold tb
    simp [bl_length]
  rw [e1, e2, if_neg (by omega), e3]
  refine Prod.ext ?_ rfl
  show (bl s ++ rest).take s.size = bl s
  rw [List.take_left' (bl_length s)]
theorem txt_many {s : ByteArray} {most : Int} (h : s.size < 18446744073709551616) (hm : most < (s.size : Int)) (rest : List Nat) : txt (tb s ++ rest) most = ([], 0, 4) := by
  unfold txt tb
  rw [List.append_assoc, cnt_many h hm, if_pos (by simp)]
theorem take_app {a b : List Nat} {k : Nat} (h : a.length ≤ k) : (a ++ b).take k = a ++ b.take (k - a.length) := by
  rw [List.take_append, List.take_of_length_le h]
theorem txt_cut {s : ByteArray} {most : Int} {k : Nat} (h : s.size < 18446744073709551616) (hm : (s.size : Int) ≤ most) (hk : k < (tb s).length) : (txt ((tb s).take k) most).2.2 = 3 := by
  have e3 : (tb s).length = (uv s.size).length + s.size := by
    unfold tb
    simp [bl_length]
  unfold txt
  by_cases h1 : k < (uv s.size).length
  · have e : (tb s).take k = (uv s.size).take k := by
      unfold tb
      rw [List.take_append_of_le_length (by omega)]
    rw [e, cnt_cut h h1, if_pos (by simp)]
  · have e : (tb s).take k = uv s.size ++ (bl s).take (k - (uv s.size).length) := by
      unfold tb
      rw [take_app (by omega)]
    rw [e, cnt_back h hm, if_neg (by simp)]
    dsimp only
    rw [if_pos]
    rw [List.length_append, List.length_take, bl_length]
    omega
theorem txt_inv {l : List Nat} {most : Int} (hl : ∀ c ∈ l, c < 256) (h : (txt l most).2.2 = 0) : tb (mkS (txt l most).1) = l.take (txt l most).2.1 ∧ (mkS (txt l most).1).size ≤ l.length := by
  unfold txt at h ⊢
  by_cases h1 : (cnt l most).2.2 ≠ 0
  · rw [if_pos h1] at h
    exact absurd h h1
  · rw [if_neg h1] at h ⊢
    split at h
    · simp at h
    · rename_i h2
      rw [if_neg h2]
      have h3 := cnt_inv (l := l) (most := most) hl (by omega)
      have h4 := cnt_pos (l := l) (most := most) (by omega)
      have e1 : ((l.drop (cnt l most).2.1).take (cnt l most).1).length = (cnt l most).1 := by
        rw [List.length_take, List.length_drop]
        omega
      dsimp only
      constructor
      · unfold tb
        rw [mkS_size, e1, h3, bl_mkS fun c hc => hl c (List.mem_of_mem_drop (List.mem_of_mem_take hc)), ← List.take_add]
      · rw [mkS_size, e1]
        omega
/-! lists -/
theorem its_back : ∀ {L : List Int} {low high : Int} (rest : List Nat), (∀ n ∈ L, I64 n ∧ low ≤ n ∧ n ≤ high) → its L.length (il L ++ rest) low high = (L, (il L).length, 0)
  | [], low, high, rest, _ => rfl
  | n :: L, low, high, rest, h => by
    have hn := h n (List.mem_cons_self ..)
    have ih := @its_back L low high rest fun m hm => h m (List.mem_cons_of_mem _ hm)
    have e : il (n :: L) = ub n ++ il L := by simp [il]
    rw [e, List.append_assoc, List.length_cons, its, sgn_back hn.1 hn.2.1 hn.2.2, if_neg (by simp)]
    dsimp only
    rw [List.drop_left' rfl, ih, if_neg (by simp), List.length_append]
theorem its_cut : ∀ {L : List Int} {low high : Int} {k : Nat}, (∀ n ∈ L, I64 n ∧ low ≤ n ∧ n ≤ high) → k < (il L).length → (its L.length ((il L).take k) low high).2.2 = 3
  | [], low, high, k, _, hk => by simp [il] at hk
  | n :: L, low, high, k, h, hk => by
    have hn := h n (List.mem_cons_self ..)
    have e : il (n :: L) = ub n ++ il L := by simp [il]
    rw [e] at hk ⊢
    rw [List.length_append] at hk
    rw [List.length_cons, its]
    by_cases h1 : k < (ub n).length
    · rw [List.take_append_of_le_length (by omega)]
      have := sgn_cut (low := low) (high := high) hn.1 h1
      rw [if_pos (by rw [this]; simp)]
      exact this
    · have ih := @its_cut L low high (k - (ub n).length) (fun m hm => h m (List.mem_cons_of_mem _ hm)) (by omega)
      rw [take_app (by omega), sgn_back hn.1 hn.2.1 hn.2.2, if_neg (by simp)]
      dsimp only
      rw [List.drop_left' rfl, if_pos (by rw [ih]; simp)]
      exact ih
theorem its_inv : ∀ {m : Nat} {l : List Nat} {low high : Int}, (∀ c ∈ l, c < 256) → (its m l low high).2.2 = 0 → il (its m l low high).1 = l.take (its m l low high).2.1 ∧ ∀ n ∈ (its m l low high).1, I64 n
  | 0, l, low, high, _, _ => by simp [its, il]
  | m + 1, l, low, high, hl, h => by
    have ih := @its_inv m (l.drop (sgn l low high).2.1) low high (fun c hc => hl c (List.mem_of_mem_drop hc))
    have hp := @sgn_inv l low high hl
    rw [its] at h ⊢
    by_cases h1 : (sgn l low high).2.2 ≠ 0
    · rw [if_pos h1] at h
      exact absurd h h1
    · rw [if_neg h1] at h ⊢
      by_cases h2 : (its m (l.drop (sgn l low high).2.1) low high).2.2 ≠ 0
      · rw [if_pos h2] at h
        exact absurd h h2
      · rw [if_neg h2] at h ⊢
        have h3 := ih (by omega)
        have h4 := hp (by omega)
        dsimp only
        constructor
        · have e : il ((sgn l low high).1 :: (its m (l.drop (sgn l low high).2.1) low high).1) = ub (sgn l low high).1 ++ il (its m (l.drop (sgn l low high).2.1) low high).1 := by simp [il]
          rw [e, h4.1, h3.1, ← List.take_add]
        · intro n hn
          rcases List.mem_cons.1 hn with rfl | hn
          · exact h4.2
          · exact h3.2 n hn
theorem ints_back {L : List Int} {most low high : Int} (hL : L.length < 18446744073709551616) (hm : (L.length : Int) ≤ most) (rest : List Nat) (h : ∀ n ∈ L, I64 n ∧ low ≤ n ∧ n ≤ high) : ints (ib L ++ rest) most low high = (L, (ib L).length, 0) := by
  unfold ints ib
  rw [List.append_assoc, cnt_back hL hm, if_neg (by simp)]
  dsimp only
  rw [List.drop_left' rfl, its_back rest h, if_neg (by simp), List.length_append]
theorem ints_cut {L : List Int} {most low high : Int} {k : Nat} (hL : L.length < 18446744073709551616) (hm : (L.length : Int) ≤ most) (h : ∀ n ∈ L, I64 n ∧ low ≤ n ∧ n ≤ high) (hk : k < (ib L).length) : (ints ((ib L).take k) most low high).2.2 = 3 := by
  unfold ints
  unfold ib at hk ⊢
  rw [List.length_append] at hk
  by_cases h1 : k < (uv L.length).length
  · rw [List.take_append_of_le_length (by omega), cnt_cut hL h1, if_pos (by simp)]
  · have := its_cut (k := k - (uv L.length).length) h (by omega)
    rw [take_app (by omega), cnt_back hL hm, if_neg (by simp)]
    dsimp only
    rw [List.drop_left' rfl, if_pos (by rw [this]; simp)]
    exact this
theorem ints_inv {l : List Nat} {most low high : Int} (hl : ∀ c ∈ l, c < 256) (h : (ints l most low high).2.2 = 0) : ib (ints l most low high).1 = l.take (ints l most low high).2.1 ∧ ∀ n ∈ (ints l most low high).1, I64 n := by
  unfold ints at h ⊢
  by_cases h1 : (cnt l most).2.2 ≠ 0
  · rw [if_pos h1] at h
    exact absurd h h1
  · rw [if_neg h1] at h ⊢
    by_cases h2 : (its (cnt l most).1 (l.drop (cnt l most).2.1) low high).2.2 ≠ 0
    · rw [if_pos h2] at h
      exact absurd h h2
    · rw [if_neg h2] at h ⊢
      have h3 := cnt_inv (l := l) (most := most) hl (by omega)
      have h4 := its_inv (m := (cnt l most).1) (l := l.drop (cnt l most).2.1) (low := low) (high := high) (fun c hc => hl c (List.mem_of_mem_drop hc)) (by omega)
      have h5 := its_pos (m := (cnt l most).1) (l := l.drop (cnt l most).2.1) (low := low) (high := high) (by omega)
      dsimp only
      refine ⟨?_, h4.2⟩
      unfold ib
      rw [h5.1, h3, h4.1, ← List.take_add]


end Go.Proofs.Ytmfgheklnjmbjaa
