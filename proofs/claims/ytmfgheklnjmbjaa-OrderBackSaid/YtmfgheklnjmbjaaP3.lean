/- P3: what functions of the program compute (written by mod.py). -/
import Derived.Test.YtmfgheklnjmbjaaP2
import Derived.KernelRfl
namespace Go.Proofs.Ytmfgheklnjmbjaa
open Go Go.Ab
set_option linter.unusedSimpArgs false
set_option linter.unusedVariables false
set_option maxRecDepth 20000


/-! reading numbers -/
/-- Value, bytes read, error. -/
def num : List Nat → Nat → Nat × Nat × Nat
  | [], _ => (0, 0, 3)
  | c :: l, i => if i = 9 ∧ 1 < c then (0, 0, 5) else if c < 128 then (if c = 0 ∧ 0 < i then (0, 0, 5) else (c, 1, 0)) else (if (num l (i + 1)).2.2 = 0 then (c - 128 + 128 * (num l (i + 1)).1, (num l (i + 1)).2.1 + 1, 0) else (0, 0, (num l (i + 1)).2.2))
theorem num_err : ∀ {l : List Nat} {i : Nat}, (num l i).2.2 ≠ 0 → (num l i).1 = 0 ∧ (num l i).2.1 = 0 ∧ ((num l i).2.2 = 3 ∨ (num l i).2.2 = 5)
  | [], i, _ => by simp [num]
  | c :: l, i, h => by
    have ih := @num_err l (i + 1)
    rw [num] at h ⊢
    split
    · simp
    · split
      · split
        · simp
        · simp_all
      · split
        · simp_all
        · rename_i h4
          exact ⟨rfl, rfl, (ih h4).2.2⟩
theorem num_lt : ∀ {l : List Nat} {i : Nat}, i ≤ 9 → (∀ c ∈ l, c < 256) → (num l i).1 < 2 * 128 ^ (9 - i)
  | [], i, _, _ => by
    rw [num]
    exact Nat.mul_pos (by omega) (Nat.pow_pos (by omega))
  | c :: l, i, hi, hl => by
    have hp : 0 < 2 * 128 ^ (9 - i) := Nat.mul_pos (by omega) (Nat.pow_pos (by omega))
    rw [num]
    split
    · exact hp
    · rename_i h1
      by_cases h9 : i = 9
      · subst h9
        have hc : c ≤ 1 := by
          rcases Nat.lt_or_ge 1 c with h | h
          · exact absurd ⟨rfl, h⟩ h1
          · exact h
        rw [if_pos (by omega)]
        split
        · exact hp
        · simp
          omega
      · have ih := @num_lt l (i + 1) (by omega) (fun c hc => hl c (List.mem_cons_of_mem _ hc))
        have he : 128 ^ (9 - i) = 128 * 128 ^ (9 - (i + 1)) := by
          rw [show 9 - i = 9 - (i + 1) + 1 by omega, Nat.pow_succ, Nat.mul_comm]
        have hp2 : 0 < 128 ^ (9 - (i + 1)) := Nat.pow_pos (by omega)
        have hc := hl c (List.mem_cons_self ..)
        split
        · split
          · exact hp
          · dsimp only
            omega
        · split
          · dsimp only
            omega
          · exact hp
theorem num_pos : ∀ {l : List Nat} {i : Nat}, (num l i).2.2 = 0 → 1 ≤ (num l i).2.1 ∧ (num l i).2.1 ≤ l.length
  | [], i, h => by simp [num] at h
  | c :: l, i, h => by
    have ih := @num_pos l (i + 1)
    rw [num] at h ⊢
    split
    · simp_all
    · split
      · split
        · simp_all
        · simp
      · split
        · rename_i h4
          have := ih h4
          simp
          omega
        · simp_all
theorem pow7 (i : Nat) : (2 : Int) ^ (7 * i) = ((128 ^ i : Nat) : Int) := by
  rw [Int.natCast_pow, Int.pow_mul]
  rfl
theorem pow128_le {i : Nat} (h : i ≤ 9) : 128 ^ i ≤ 9223372036854775808 := by
  have := Nat.pow_le_pow_right (n := 128) (by omega) h
  have e : (128 : Nat) ^ 9 = 9223372036854775808 := by decide
  omega
theorem bShl_7 {m i : Nat} (hi : i ≤ 9) (h : m * 128 ^ i < 18446744073709551616) : bShl .u64 (m : Int) ((7 * i : Nat) : Int) = ((m * 128 ^ i : Nat) : Int) := by
  show IntKind.u64.wrap ((m : Int) * 2 ^ (min (7 * i) 64)) = _
  rw [Nat.min_eq_left (by omega), pow7, ← Int.natCast_mul]
  exact WU64_eq (by omega)
theorem bOr_add {n m i : Nat} (hn : n < 128 ^ i) (hi : i ≤ 9) (h : n + m * 128 ^ i < 18446744073709551616) : bOr .u64 (n : Int) ((m * 128 ^ i : Nat) : Int) = ((n + m * 128 ^ i : Nat) : Int) := by
  show IntKind.u64.wrap ((BitVec.ofInt 64 (n : Int) ||| BitVec.ofInt 64 ((m * 128 ^ i : Nat) : Int)).toNat : Int) = _
  have e7 : 128 ^ i = 2 ^ (7 * i) := by rw [Nat.pow_mul]
  rw [BitVec.toNat_or, BitVec.ofInt_natCast, BitVec.ofInt_natCast, BitVec.toNat_ofNat, BitVec.toNat_ofNat, Nat.mod_eq_of_lt (by omega), Nat.mod_eq_of_lt (by omega)]
  have := Nat.shiftLeft_add_eq_or_of_lt (i := 7 * i) (b := n) (by rw [← e7]; exact hn) m
  rw [Nat.shiftLeft_eq, ← e7] at this
  rw [Nat.or_comm, ← this, Nat.add_comm]
  exact WU64_eq (by omega)
theorem bAnd_127 {c : Nat} (h : c < 256) : bAnd .u8 (c : Int) 127 = ((c % 128 : Nat) : Int) := by
  have : ∀ c : Fin 256, bAnd .u8 ((c.1 : Nat) : Int) 127 = ((c.1 % 128 : Nat) : Int) := by decide +kernel
  exact this ⟨c, h⟩
/-- What the reader's number gives, out of num. -/
def nout (at_ : Nat) (q : Nat × Nat × Nat) : Int × Int × Int := if q.2.2 = 0 then ((q.1 : Int), ((at_ + q.2.1 : Nat) : Int), 0) else (0, 0, (q.2.2 : Int))
def rout (at_ : Nat) (q : Nat × Nat × Nat) : Int × Int × Int := if q.2.2 = 0 then ((q.1 : Int), ((at_ + q.2.1 : Nat) : Int), 0) else (0, (at_ : Int), (q.2.2 : Int))
def numUp (n i : Nat) (q : Nat × Nat × Nat) : Nat × Nat × Nat := if q.2.2 = 0 then (n + 128 ^ i * q.1, i + q.2.1, 0) else q
theorem numUp_step {c n i : Nat} {l : List Nat} (h9 : ¬ (i = 9 ∧ 1 < c)) (h : ¬ c < 128) (hc : c < 256) : numUp n i (num (c :: l) i) = numUp (n + c % 128 * 128 ^ i) (i + 1) (num l (i + 1)) := by
  have e := num_err (l := l) (i := i + 1)
  rw [num, if_neg h9, if_neg h]
  unfold numUp
  by_cases h0 : (num l (i + 1)).2.2 = 0
  · rw [if_pos h0, if_pos rfl, if_pos h0]
    dsimp only
    have hm : c % 128 = c - 128 := by omega
    rw [hm, Nat.pow_succ]
    refine Prod.ext ?_ (Prod.ext ?_ rfl)
    · show n + 128 ^ i * (c - 128 + 128 * (num l (i + 1)).1) = n + (c - 128) * 128 ^ i + 128 ^ i * 128 * (num l (i + 1)).1
      rw [Nat.mul_add, Nat.mul_comm (c - 128), ← Nat.mul_assoc]
      omega
    · show i + ((num l (i + 1)).2.1 + 1) = i + 1 + (num l (i + 1)).2.1
      omega
  · rw [if_neg h0]
    dsimp only
    rw [if_neg h0, if_neg h0]
    obtain ⟨e1, e2, _⟩ := e h0
    exact Prod.ext e1.symm (Prod.ext e2.symm rfl)
theorem wire_num_loop (r : Twire_Reader) (hs : r.s.size ≤ 4611686018427387904) (at_ : Nat) : ∀ (l : List Nat) (i n : Nat), l = (bl r.s).drop (at_ + i) → at_ + i ≤ r.s.size → i ≤ 9 → n < 128 ^ i →
    loopO (fun q : Int × Int => wire_Reader__number_s1 r (at_ : Int) q.1 q.2) ((n : Int), (i : Int)) = some (nout at_ (numUp n i (num l i)))
  | [], i, n, hl, hat, hi, hn => by
    refine loopO_done ?_
    have hlen : (bl r.s).length ≤ at_ + i := List.drop_eq_nil_iff.1 hl.symm
    rw [bl_length] at hlen
    simp only [wire_Reader__number_s1]
    rw [W64_eq (by omega) (by omega), decide_eq_true (by omega)]
    rfl
  | c :: l, i, n, hl, hat, hi, hn => by
    have hlt : at_ + i < (bl r.s).length := by
      rcases Nat.lt_or_ge (at_ + i) (bl r.s).length with h | h
      · exact h
      · rw [List.drop_eq_nil_of_le h] at hl
        exact absurd hl (by simp)
    have hcl := List.drop_eq_getElem_cons hlt
    rw [← hl] at hcl
    obtain ⟨hc, hl'⟩ := List.cons.inj hcl
    have hc256 : c < 256 := by rw [hc]; exact bl_lt (List.getElem_mem hlt)
    have hsz := hlt
    rw [bl_length] at hsz
    have hb : bytO r.s ((at_ : Int) + (i : Int)) = some (c : Int) := by
      rw [hc]
      exact bytO_bl hlt
    have h7 : W64 (7 * (i : Int)) = ((7 * i : Nat) : Int) := by rw [W64_eq (by omega) (by omega)]; omega
    have hp := pow128_le hi
    by_cases h9 : i = 9 ∧ 1 < c
    · refine loopO_done ?_
      simp only [wire_Reader__number_s1]
      rw [W64_eq (by omega) (by omega), decide_eq_false (by omega), cond_false, hb, bind_some', show ((i : Int) == 9) = true by simp; omega, cond_true, decide_eq_true (by omega), cond_true, num, if_pos h9]
      rfl
    · have hmul : n + c % 128 * 128 ^ i < 18446744073709551616 := by
        by_cases h : i = 9
        · have : c % 128 ≤ 1 := by omega
          have := Nat.mul_le_mul_right (128 ^ i) this
          omega
        · have hp8 := Nat.pow_le_pow_right (n := 128) (i := i) (j := 8) (by omega) (by omega)
          have e8 : (128 : Nat) ^ 8 = 72057594037927936 := by decide
          have : c % 128 ≤ 127 := by omega
          have := Nat.mul_le_mul_right (128 ^ i) this
          omega
      have hval : bOr .u64 (n : Int) (bShl .u64 (WU64 (bAnd .u8 (c : Int) 127)) ((7 * i : Nat) : Int)) = ((n + c % 128 * 128 ^ i : Nat) : Int) := by
        rw [bAnd_127 hc256, WU64_eq (n := ((c % 128 : Nat) : Int)) (by omega), bShl_7 hi (by omega), bOr_add hn hi hmul]
      have hstep : wire_Reader__number_s1 r (at_ : Int) (n : Int) (i : Int) = bif decide (128 ≤ (c : Int)) then some (.inl (((n + c % 128 * 128 ^ i : Nat) : Int), ((i + 1 : Nat) : Int))) else (bif ((c : Int) == 0) then (bif decide (0 < (i : Int)) then some (.inr (0, 0, 5)) else some (.inr (((n + c % 128 * 128 ^ i : Nat) : Int), ((at_ + i + 1 : Nat) : Int), 0))) else some (.inr (((n + c % 128 * 128 ^ i : Nat) : Int), ((at_ + i + 1 : Nat) : Int), 0))) := by
        unfold wire_Reader__number_s1
        have hm : (bif ((i : Int) == 9) then (bif (decide (1 < (c : Int))) then some (Sum.inl (Sum.inr (0, 0, 5))) else some (Sum.inr ())) else some (Sum.inr ()) : Option (((Int × Int) ⊕ (Int × Int × Int)) ⊕ Unit)) = some (.inr ()) := by
          by_cases h : i = 9
          · rw [show ((i : Int) == 9) = true by simp; omega, cond_true, decide_eq_false (by omega)]
            rfl
          · rw [show ((i : Int) == 9) = false by simp; omega]
            rfl
        rw [W64_eq (n := (at_ : Int) + i) (by omega) (by omega), decide_eq_false (by omega), cond_false, hb, bind_some', hm, bind_some', h7, W64_succ (by omega), W64_eq (n := (at_ : Int) + i + 1) (by omega) (by omega)]
        rw [Sum.elim_inr, decide_eq_true (p := (0 : Int) ≤ _) (by omega), cond_true, hval, show (at_ : Int) + i + 1 = ((at_ + i + 1 : Nat) : Int) by omega]
      by_cases h128 : c < 128
      · refine loopO_done ?_
        dsimp only
        rw [hstep, decide_eq_false (by omega), cond_false]
        rw [num, if_neg h9, if_pos h128]
        by_cases h0 : c = 0 ∧ 0 < i
        · rw [if_pos h0, show ((c : Int) == 0) = true by simp; omega, cond_true, decide_eq_true (by omega)]
          rfl
        · rw [if_neg h0]
          have e1 : numUp n i (c, 1, 0) = (n + c % 128 * 128 ^ i, i + 1, 0) := by
            unfold numUp
            rw [if_pos rfl, Nat.mod_eq_of_lt h128, Nat.mul_comm]
          rw [e1]
          by_cases hc0 : c = 0
          · rw [show ((c : Int) == 0) = true by simp; omega, cond_true, decide_eq_false (by omega)]
            rfl
          · rw [show ((c : Int) == 0) = false by simp; omega]
            rfl
      · have hi9 : i < 9 := by omega
        rw [loopO_next (x' := (((n + c % 128 * 128 ^ i : Nat) : Int), ((i + 1 : Nat) : Int))) (by dsimp only; rw [hstep, decide_eq_true (by omega)]; rfl)]
        rw [wire_num_loop r hs at_ l (i + 1) (n + c % 128 * 128 ^ i) (by rw [hl']; congr 1) (by omega) (by omega) (by
          have : c % 128 ≤ 127 := by omega
          have := Nat.mul_le_mul_right (128 ^ i) this
          rw [Nat.pow_succ]
          omega)]
        rw [numUp_step h9 h128 hc256]
theorem numUp_zero (q : Nat × Nat × Nat) : numUp 0 0 q = q := by
  unfold numUp
  split
  · rename_i h
    refine Prod.ext (by simp) (Prod.ext (by simp) h.symm)
  · rfl
theorem wire_num {r : Twire_Reader} (hs : r.s.size ≤ 4611686018427387904) {at_ : Nat} (h : at_ ≤ r.s.size) : wire_Reader__number_g r (at_ : Int) = some (nout at_ (num ((bl r.s).drop at_) 0)) := by
  unfold wire_Reader__number_g
  have := wire_num_loop r hs at_ _ 0 0 rfl (by omega) (by omega) (by simp)
  rw [numUp_zero] at this
  exact this
theorem r05_num_loop (s : ByteArray) (hs : s.size ≤ 4611686018427387904) (at_ : Nat) : ∀ (l : List Nat) (i n : Nat), l = (bl s).drop (at_ + i) → at_ + i ≤ s.size → i ≤ 9 → n < 128 ^ i →
    loopO (fun q : Int × Int × Int => r05_number_s1 s (at_ : Int) q.1 q.2.1 q.2.2) ((n : Int), ((128 ^ i : Nat) : Int), (i : Int)) = some (.inl (rout at_ (numUp n i (num l i))))
  | [], i, n, hl, hat, hi, hn => by
    refine loopO_done ?_
    have hlen : (bl s).length ≤ at_ + i := List.drop_eq_nil_iff.1 hl.symm
    rw [bl_length] at hlen
    simp only [r05_number_s1]
    rw [decide_eq_true (by omega), cond_true, W64_eq (by omega) (by omega), decide_eq_true (by omega)]
    rfl
  | c :: l, i, n, hl, hat, hi, hn => by
    have hlt : at_ + i < (bl s).length := by
      rcases Nat.lt_or_ge (at_ + i) (bl s).length with h | h
      · exact h
      · rw [List.drop_eq_nil_of_le h] at hl
        exact absurd hl (by simp)
    have hcl := List.drop_eq_getElem_cons hlt
    rw [← hl] at hcl
    obtain ⟨hc, hl'⟩ := List.cons.inj hcl
    have hc256 : c < 256 := by rw [hc]; exact bl_lt (List.getElem_mem hlt)
    have hsz := hlt
    rw [bl_length] at hsz
    have hb : bytO s ((at_ : Int) + (i : Int)) = some (c : Int) := by
      rw [hc]
      exact bytO_bl hlt
    have hp := pow128_le hi
    have hwc : WU64 (c : Int) = c := WU64_eq (by omega)
    by_cases h9 : i = 9 ∧ 1 < c
    · refine loopO_done ?_
      simp only [r05_number_s1]
      rw [decide_eq_true (p := (i : Int) < 10) (by omega), cond_true, W64_eq (by omega) (by omega), decide_eq_false (by omega), cond_false, hb, bind_some', show ((i : Int) == 9) = true by simp; omega, cond_true, hwc, decide_eq_true (by omega), cond_true, num, if_pos h9]
      rfl
    · have hmul : n + c % 128 * 128 ^ i < 18446744073709551616 := by
        by_cases h : i = 9
        · have : c % 128 ≤ 1 := by omega
          have := Nat.mul_le_mul_right (128 ^ i) this
          omega
        · have hp8 := Nat.pow_le_pow_right (n := 128) (i := i) (j := 8) (by omega) (by omega)
          have e8 : (128 : Nat) ^ 8 = 72057594037927936 := by decide
          have : c % 128 ≤ 127 := by omega
          have := Nat.mul_le_mul_right (128 ^ i) this
          omega
      have hval : WU64 ((n : Int) + WU64 (Int.tmod (c : Int) 128 * ((128 ^ i : Nat) : Int))) = ((n + c % 128 * 128 ^ i : Nat) : Int) := by
        have e1 : Int.tmod (c : Int) 128 = ((c % 128 : Nat) : Int) := by rw [Int.tmod_eq_emod_of_nonneg (by omega)]; rfl
        rw [e1, ← Int.natCast_mul, WU64_eq (n := ((c % 128 * 128 ^ i : Nat) : Int)) (by omega), ← Int.natCast_add, WU64_eq (by omega)]
      have hstep : r05_number_s1 s (at_ : Int) (n : Int) ((128 ^ i : Nat) : Int) (i : Int) = bif decide ((c : Int) < 128) then (bif ((c : Int) == 0) then (bif decide (0 < (i : Int)) then some (.inr (.inl (0, (at_ : Int), 5))) else some (.inr (.inl (((n + c % 128 * 128 ^ i : Nat) : Int), ((at_ + i + 1 : Nat) : Int), 0)))) else some (.inr (.inl (((n + c % 128 * 128 ^ i : Nat) : Int), ((at_ + i + 1 : Nat) : Int), 0)))) else some (.inl (((n + c % 128 * 128 ^ i : Nat) : Int), WU64 (((128 ^ i : Nat) : Int) * 128), ((i + 1 : Nat) : Int))) := by
        unfold r05_number_s1
        have hm : (bif ((i : Int) == 9) then (bif (decide (1 < (c : Int))) then some (Sum.inl (Sum.inr (Sum.inl (0, (at_ : Int), 5)))) else some (Sum.inr ())) else some (Sum.inr ()) : Option (((Int × Int × Int) ⊕ ((Int × Int × Int) ⊕ Unit)) ⊕ Unit)) = some (.inr ()) := by
          by_cases h : i = 9
          · rw [show ((i : Int) == 9) = true by simp; omega, cond_true, decide_eq_false (by omega)]
            rfl
          · rw [show ((i : Int) == 9) = false by simp; omega]
            rfl
        rw [decide_eq_true (p := (i : Int) < 10) (by omega), cond_true, W64_eq (n := (at_ : Int) + i) (by omega) (by omega), decide_eq_false (p := ((s.size : Nat) : Int) ≤ _) (by omega), cond_false, hb, bind_some', hwc, hm, bind_some', W64_succ (by omega), W64_eq (n := (at_ : Int) + i + 1) (by omega) (by omega)]
        rw [Sum.elim_inr, hval, show (at_ : Int) + i + 1 = ((at_ + i + 1 : Nat) : Int) by omega]
      by_cases h128 : c < 128
      · refine loopO_done ?_
        dsimp only
        rw [hstep, decide_eq_true (p := (c : Int) < 128) (by omega), cond_true]
        rw [num, if_neg h9, if_pos h128]
        by_cases h0 : c = 0 ∧ 0 < i
        · rw [if_pos h0, show ((c : Int) == 0) = true by simp; omega, cond_true, decide_eq_true (by omega)]
          rfl
        · rw [if_neg h0]
          have e1 : numUp n i (c, 1, 0) = (n + c % 128 * 128 ^ i, i + 1, 0) := by
            unfold numUp
            rw [if_pos rfl, Nat.mod_eq_of_lt h128, Nat.mul_comm]
          rw [e1]
          by_cases hc0 : c = 0
          · rw [show ((c : Int) == 0) = true by simp; omega, cond_true, decide_eq_false (by omega)]
            rfl
          · rw [show ((c : Int) == 0) = false by simp; omega]
            rfl
      · have hi9 : i < 9 := by omega
        have hp8 := Nat.pow_le_pow_right (n := 128) (i := i) (j := 8) (by omega) (by omega)
        have e8 : (128 : Nat) ^ 8 = 72057594037927936 := by decide
        rw [loopO_next (x' := (((n + c % 128 * 128 ^ i : Nat) : Int), ((128 ^ (i + 1) : Nat) : Int), ((i + 1 : Nat) : Int))) (by
          dsimp only
          rw [hstep, decide_eq_false (by omega), cond_false, WU64_eq (by omega), Nat.pow_succ]
          rfl)]
        rw [r05_num_loop s hs at_ l (i + 1) (n + c % 128 * 128 ^ i) (by rw [hl']; congr 1) (by omega) (by omega) (by
          have : c % 128 ≤ 127 := by omega
          have := Nat.mul_le_mul_right (128 ^ i) this
          rw [Nat.pow_succ]
          omega)]
        rw [numUp_step h9 h128 hc256]
theorem r05_num {s : ByteArray} (hs : s.size ≤ 4611686018427387904) {at_ : Nat} (h : at_ ≤ s.size) : r05_number_g s (at_ : Int) = some (rout at_ (num ((bl s).drop at_) 0)) := by
  unfold r05_number_g
  have := r05_num_loop s hs at_ _ 0 0 rfl (by omega) (by omega) (by simp)
  rw [numUp_zero] at this
  have e : (((0 : Nat) : Int), ((128 ^ 0 : Nat) : Int), ((0 : Nat) : Int)) = ((0 : Int), (1 : Int), (0 : Int)) := rfl
  rw [e] at this
  rw [this]
  rfl



/-! reading fields -/
def uz (v : Nat) : Int := if v % 2 = 1 then -((v / 2 : Nat) : Int) - 1 else ((v / 2 : Nat) : Int)
theorem uz_zz (n : Int) : uz (zz n) = n := by
  unfold uz zz
  split <;> split <;> omega
theorem zz_uz (v : Nat) : zz (uz v) = v := by
  unfold uz zz
  split <;> split <;> omega
theorem uz_I64 {v : Nat} (h : v < 18446744073709551616) : I64 (uz v) := by
  unfold uz I64
  split <;> omega
/-- Value, bytes read, error. -/
def sgn (l : List Nat) (low high : Int) : Int × Nat × Nat := if (num l 0).2.2 ≠ 0 then (0, 0, (num l 0).2.2) else if uz (num l 0).1 < low ∨ high < uz (num l 0).1 then (0, 0, 9) else (uz (num l 0).1, (num l 0).2.1, 0)
def cnt (l : List Nat) (most : Int) : Nat × Nat × Nat := if (num l 0).2.2 ≠ 0 then (0, 0, (num l 0).2.2) else if most < 0 ∨ most < ((num l 0).1 : Int) then (0, 0, 4) else ((num l 0).1, (num l 0).2.1, 0)
def txt (l : List Nat) (most : Int) : List Nat × Nat × Nat := if (cnt l most).2.2 ≠ 0 then ([], 0, (cnt l most).2.2) else if l.length - (cnt l most).2.1 < (cnt l most).1 then ([], 0, 3) else ((l.drop (cnt l most).2.1).take (cnt l most).1, (cnt l most).2.1 + (cnt l most).1, 0)
def its : Nat → List Nat → Int → Int → List Int × Nat × Nat
  | 0, _, _, _ => ([], 0, 0)
  | m + 1, l, low, high => if (sgn l low high).2.2 ≠ 0 then ([], 0, (sgn l low high).2.2) else if (its m (l.drop (sgn l low high).2.1) low high).2.2 ≠ 0 then ([], 0, (its m (l.drop (sgn l low high).2.1) low high).2.2) else ((sgn l low high).1 :: (its m (l.drop (sgn l low high).2.1) low high).1, (sgn l low high).2.1 + (its m (l.drop (sgn l low high).2.1) low high).2.1, 0)
def ints (l : List Nat) (most low high : Int) : List Int × Nat × Nat := if (cnt l most).2.2 ≠ 0 then ([], 0, (cnt l most).2.2) else if (its (cnt l most).1 (l.drop (cnt l most).2.1) low high).2.2 ≠ 0 then ([], 0, (its (cnt l most).1 (l.drop (cnt l most).2.1) low high).2.2) else ((its (cnt l most).1 (l.drop (cnt l most).2.1) low high).1, (cnt l most).2.1 + (its (cnt l most).1 (l.drop (cnt l most).2.1) low high).2.1, 0)
theorem num_64 {l : List Nat} (hl : ∀ c ∈ l, c < 256) : (num l 0).1 < 18446744073709551616 := by
  have := num_lt (l := l) (i := 0) (by omega) hl
  have e : (2 : Nat) * 128 ^ (9 - 0) = 18446744073709551616 := by decide
  omega
theorem bl_drop_lt {s : ByteArray} {k c : Nat} (h : c ∈ (bl s).drop k) : c < 256 := bl_lt (List.mem_of_mem_drop h)
def wR (s : ByteArray) (a e : Nat) : Twire_Reader := ⟨s, (a : Int), (e : Int)⟩
def qR (s : ByteArray) (a e : Nat) : Tsawmillref05_Reader := ⟨s, (a : Int), (e : Int)⟩
def nat_ (a k e : Nat) : Nat := if e = 0 then a + k else a
/-! the parts -/
theorem bAnd1 {v : Nat} (h : v < 18446744073709551616) : bAnd .u64 (v : Int) 1 = ((v % 2 : Nat) : Int) := by
  show IntKind.u64.wrap ((BitVec.ofInt 64 (v : Int) &&& BitVec.ofInt 64 1).toNat : Int) = _
  rw [BitVec.toNat_and, BitVec.ofInt_natCast, BitVec.toNat_ofNat, show (BitVec.ofInt 64 1).toNat = 1 by decide, Nat.mod_eq_of_lt (by omega), Nat.and_one_is_mod]
  exact WU64_eq (by omega)
theorem bShr1 (n : Nat) : bShr .u64 (n : Int) 1 = ((n / 2 : Nat) : Int) := by
  show Int.fdiv (n : Int) (2 ^ (min 1 64)) = _
  rw [Int.fdiv_eq_ediv_of_nonneg _ (by decide)]
  have : (2 : Int) ^ (min 1 64) = 2 := by decide
  rw [this]
  omega
theorem bNot_i64 {m : Nat} (h : m < 9223372036854775808) : bNot .i64 (m : Int) = -(m : Int) - 1 := by
  show IntKind.i64.wrap ((BitVec.ofInt 64 (-1) ^^^ BitVec.ofInt 64 (m : Int)).toNat : Int) = _
  have e : BitVec.ofInt 64 (-1) = BitVec.allOnes 64 := by decide
  rw [e, BitVec.allOnes_xor, BitVec.toNat_not, BitVec.ofInt_natCast, BitVec.toNat_ofNat, w64]
  have : m % 2 ^ 64 = m := Nat.mod_eq_of_lt (by omega)
  rw [this]
  split <;> omega
def nout' {α : Type} (a : Nat) (f : α → Int) (q : α × Nat × Nat) : Int × Int × Int := if q.2.2 = 0 then (f q.1, ((a + q.2.1 : Nat) : Int), 0) else (0, 0, (q.2.2 : Int))
def rout' {α : Type} (a : Nat) (f : α → Int) (q : α × Nat × Nat) : Int × Int × Int := if q.2.2 = 0 then (f q.1, ((a + q.2.1 : Nat) : Int), 0) else (0, (a : Int), (q.2.2 : Int))
theorem ne0_t {e : Nat} (h : e ≠ 0) : ((e : Int) != 0) = true := by simp; omega
theorem ne0_f : ((0 : Int) != 0) = false := rfl
theorem sgn_e {l : List Nat} {low high : Int} (h : (num l 0).2.2 ≠ 0) : sgn l low high = (0, 0, (num l 0).2.2) := by rw [sgn, if_pos h]
theorem cnt_e {l : List Nat} {most : Int} (h : (num l 0).2.2 ≠ 0) : cnt l most = (0, 0, (num l 0).2.2) := by rw [cnt, if_pos h]
theorem sgn_err {l : List Nat} {low high : Int} (h : (sgn l low high).2.2 ≠ 0) : (sgn l low high).1 = 0 ∧ (sgn l low high).2.1 = 0 := by
  unfold sgn at h ⊢
  split
  · exact ⟨rfl, rfl⟩
  · split
    · exact ⟨rfl, rfl⟩
    · simp_all
section
variable {s : ByteArray} (hs : s.size ≤ 1000000000000) {a : Nat} (ha : a ≤ s.size)
include hs ha
theorem wire_num' (b e : Nat) : wire_Reader__number_g (wR s b e) (a : Int) = some (nout a (num ((bl s).drop a) 0)) := wire_num (r := wR s b e) (show s.size ≤ _ by omega) ha
theorem wire_signed (b e : Nat) (low high : Int) : wire_Reader__signed_g (wR s b e) (a : Int) low high = some (nout' a id (sgn ((bl s).drop a) low high)) := by
  unfold wire_Reader__signed_g
  rw [wire_num' hs ha, bind_some']
  have h64 := num_64 (l := (bl s).drop a) fun _ => bl_drop_lt
  by_cases h : (num ((bl s).drop a) 0).2.2 = 0
  · have en : nout a (num ((bl s).drop a) 0) = ((((num ((bl s).drop a) 0).1 : Nat) : Int), ((a + (num ((bl s).drop a) 0).2.1 : Nat) : Int), 0) := by rw [nout, if_pos h]
    rw [en]
    dsimp only
    rw [ne0_f, cond_false]
    generalize hv : (num ((bl s).drop a) 0).1 = v at *
    have hu : (bif ((bAnd .u64 (v : Int) 1) == 1) then (bNot .i64 (W64 (bShr .u64 (v : Int) 1))) else (W64 (bShr .u64 (v : Int) 1)) : Int) = uz v := by
      rw [bAnd1 h64, bShr1, W64_eq (by omega) (by omega), bNot_i64 (by omega)]
      unfold uz
      by_cases h2 : v % 2 = 1
      · rw [if_pos h2, h2]
        rfl
      · rw [if_neg h2, show v % 2 = 0 by omega]
        rfl
    rw [letB_eq, hu]
    unfold sgn
    rw [if_neg (by omega), hv]
    by_cases h1 : uz v < low
    · rw [decide_eq_true h1, cond_true, if_pos (.inl h1)]
      rfl
    · rw [decide_eq_false h1, cond_false]
      by_cases h2 : high < uz v
      · rw [decide_eq_true h2, cond_true, if_pos (.inr h2)]
        rfl
      · rw [decide_eq_false h2, cond_false, if_neg (by omega)]
        rfl
  · have en : nout a (num ((bl s).drop a) 0) = (0, 0, (((num ((bl s).drop a) 0).2.2 : Nat) : Int)) := by rw [nout, if_neg h]
    rw [en]
    dsimp only
    rw [ne0_t h, cond_true, sgn_e h, nout', if_neg h]
theorem r05_sgn (low high : Int) : r05_signed_g s (a : Int) low high = some (rout' a id (sgn ((bl s).drop a) low high)) := by
  unfold r05_signed_g
  rw [r05_num (by omega) ha, bind_some']
  have h64 := num_64 (l := (bl s).drop a) fun _ => bl_drop_lt
  by_cases h : (num ((bl s).drop a) 0).2.2 = 0
  · have en : rout a (num ((bl s).drop a) 0) = ((((num ((bl s).drop a) 0).1 : Nat) : Int), ((a + (num ((bl s).drop a) 0).2.1 : Nat) : Int), 0) := by rw [rout, if_pos h]
    rw [en]
    dsimp only
    rw [ne0_f, cond_false]
    generalize hv : (num ((bl s).drop a) 0).1 = v at *
    have e1 : Int.tmod (v : Int) 2 = ((v % 2 : Nat) : Int) := by rw [Int.tmod_eq_emod_of_nonneg (by omega)]; rfl
    have e2 : WU64 (Int.tdiv (v : Int) 2) = ((v / 2 : Nat) : Int) := by
      rw [Int.tdiv_eq_ediv_of_nonneg (by omega), WU64_eq (by omega)]
      rfl
    have hu : (bif ((Int.tmod (v : Int) 2) == 1) then (W64 ((W64 (0 - (W64 (WU64 (Int.tdiv (v : Int) 2))))) - 1)) else (W64 (WU64 (Int.tdiv (v : Int) 2))) : Int) = uz v := by
      rw [e1, e2, W64_eq (n := ((v / 2 : Nat) : Int)) (by omega) (by omega), W64_eq (n := 0 - _) (by omega) (by omega), W64_eq (by omega) (by omega)]
      unfold uz
      by_cases h2 : v % 2 = 1
      · rw [if_pos h2, h2]
        show (0 - ((v / 2 : Nat) : Int)) - 1 = _
        omega
      · rw [if_neg h2, show v % 2 = 0 by omega]
        rfl
    rw [letB_eq, hu]
    unfold sgn
    rw [if_neg (by omega), hv]
    by_cases h1 : uz v < low
    · rw [decide_eq_true h1, cond_true, if_pos (.inl h1)]
      rfl
    · rw [decide_eq_false h1, cond_false]
      by_cases h2 : high < uz v
      · rw [decide_eq_true h2, cond_true, if_pos (.inr h2)]
        rfl
      · rw [decide_eq_false h2, cond_false, if_neg (by omega)]
        rfl
  · have en : rout a (num ((bl s).drop a) 0) = (0, (a : Int), (((num ((bl s).drop a) 0).2.2 : Nat) : Int)) := by rw [rout, if_neg h]
    rw [en]
    dsimp only
    rw [ne0_t h, cond_true, sgn_e h, rout', if_neg h]
theorem wire_counted (b e : Nat) {most : Int} (hm : I64 most) : wire_Reader__counted_g (wR s b e) (a : Int) most = some (nout' a (fun v => ((v : Nat) : Int)) (cnt ((bl s).drop a) most)) := by
  unfold I64 at hm
  unfold wire_Reader__counted_g
  rw [wire_num' hs ha, bind_some']
  by_cases h : (num ((bl s).drop a) 0).2.2 = 0
  · have en : nout a (num ((bl s).drop a) 0) = ((((num ((bl s).drop a) 0).1 : Nat) : Int), ((a + (num ((bl s).drop a) 0).2.1 : Nat) : Int), 0) := by rw [nout, if_pos h]
    rw [en]
    dsimp only
    rw [ne0_f, cond_false]
    unfold cnt
    rw [if_neg (by omega)]
    by_cases h1 : most < 0
    · rw [decide_eq_true h1, cond_true, if_pos (.inl h1)]
      rfl
    · rw [decide_eq_false h1, cond_false, WU64_eq (by omega)]
      by_cases h2 : most < (((num ((bl s).drop a) 0).1 : Nat) : Int)
      · rw [decide_eq_true h2, cond_true, if_pos (.inr h2)]
        rfl
      · rw [decide_eq_false h2, cond_false, if_neg (by omega)]
        rfl
  · have en : nout a (num ((bl s).drop a) 0) = (0, 0, (((num ((bl s).drop a) 0).2.2 : Nat) : Int)) := by rw [nout, if_neg h]
    rw [en]
    dsimp only
    rw [ne0_t h, cond_true, cnt_e h, nout', if_neg h]
end



/-! reading texts and lists -/
theorem sgn_pos {l : List Nat} {low high : Int} (h : (sgn l low high).2.2 = 0) : 1 ≤ (sgn l low high).2.1 ∧ (sgn l low high).2.1 ≤ l.length := by
  unfold sgn at h ⊢
  by_cases h1 : (num l 0).2.2 ≠ 0
  · rw [if_pos h1] at h
    exact absurd h h1
  · rw [if_neg h1] at h ⊢
    split at h
    · simp at h
    · rename_i h2
      rw [if_neg h2]
      exact num_pos (by omega)
theorem cnt_pos {l : List Nat} {most : Int} (h : (cnt l most).2.2 = 0) : 1 ≤ (cnt l most).2.1 ∧ (cnt l most).2.1 ≤ l.length ∧ 0 ≤ most ∧ ((cnt l most).1 : Int) ≤ most := by
  unfold cnt at h ⊢
  by_cases h1 : (num l 0).2.2 ≠ 0
  · rw [if_pos h1] at h
    exact absurd h h1
  · rw [if_neg h1] at h ⊢
    split at h
    · simp at h
    · rename_i h2
      rw [if_neg h2]
      have := num_pos (l := l) (i := 0) (by omega)
      dsimp only
      omega
theorem its_pos : ∀ {m : Nat} {l : List Nat} {low high : Int}, (its m l low high).2.2 = 0 → (its m l low high).1.length = m ∧ m ≤ (its m l low high).2.1 ∧ (its m l low high).2.1 ≤ l.length
  | 0, l, low, high, _ => by simp [its]
  | m + 1, l, low, high, h => by
    have ih := @its_pos m (l.drop (sgn l low high).2.1) low high
    have hp := @sgn_pos l low high
    rw [its] at h ⊢
    by_cases h1 : (sgn l low high).2.2 ≠ 0
    · rw [if_pos h1] at h
      exact absurd h h1
    · rw [if_neg h1] at h ⊢
      by_cases h2 : (its m (l.drop (sgn l low high).2.1) low high).2.2 ≠ 0
      · rw [if_pos h2] at h
        exact absurd h h2
      · rw [if_neg h2] at h ⊢
        have h3 := ih (by omega)
        have h4 := hp (by omega)
        rw [List.length_drop] at h3
        dsimp only
        rw [List.length_cons]
        omega
theorem drop_len {s : ByteArray} {a : Nat} : ((bl s).drop a).length = s.size - a := by rw [List.length_drop, bl_length]
theorem eq0_t : ((0 : Int) == 0) = true := rfl
theorem eq0_f {e : Nat} (h : e ≠ 0) : ((e : Int) == 0) = false := by simp; omega
theorem mkS_extract {s : ByteArray} {a n : Nat} : s.extract a (a + n) = mkS (((bl s).drop a).take n) := by
  rw [← mkS_bl (s.extract a (a + n)), bl_extract, Nat.add_sub_cancel_left]
section
variable {s : ByteArray} (hs : s.size ≤ 1000000000000) {a : Nat} (ha : a ≤ s.size)
include hs ha
theorem wire_rText {most : Int} (hm : I64 most) : wire_Reader__Text_g (wR s a 0) most = some (mkS (txt ((bl s).drop a) most).1, wR s (nat_ a (txt ((bl s).drop a) most).2.1 (txt ((bl s).drop a) most).2.2) (txt ((bl s).drop a) most).2.2) := by
  unfold wire_Reader__Text_g
  rw [show wire_Reader__stopped_g (wR s a 0) = false from rfl, cond_false, show (wR s a 0).at_ = (a : Int) from rfl, wire_counted hs ha _ _ hm, bind_some', letB_eq]
  have hp := @cnt_pos ((bl s).drop a) most
  rw [drop_len] at hp
  unfold I64 at hm
  unfold txt
  rw [drop_len]
  rw [show (wR s a 0).s = s from rfl]
  by_cases h : (cnt ((bl s).drop a) most).2.2 = 0
  · obtain ⟨p1, p2, p3, p4⟩ := hp h
    have en : nout' a (fun v => ((v : Nat) : Int)) (cnt ((bl s).drop a) most) = ((((cnt ((bl s).drop a) most).1 : Nat) : Int), ((a + (cnt ((bl s).drop a) most).2.1 : Nat) : Int), 0) := by rw [nout', if_pos h]
    rw [if_neg (by omega), en]
    dsimp only
    rw [eq0_t, cond_true]
    rw [W64_eq (n := ((s.size : Nat) : Int) - _) (by omega) (by omega), WU64_eq (by omega)]
    by_cases h2 : s.size - a - (cnt ((bl s).drop a) most).2.1 < (cnt ((bl s).drop a) most).1
    · rw [decide_eq_true (by omega), cond_true, if_pos h2]
      rfl
    · rw [decide_eq_false (by omega), cond_false, if_neg h2, ne0_f, cond_false, letB_eq, W64_eq (n := (((cnt ((bl s).drop a) most).1 : Nat) : Int)) (by omega) (by omega), W64_eq (by omega) (by omega)]
      show Option.bind (ssubO s _ _) _ = _
      rw [ssubO_eq (by omega) (by omega) (by omega), bind_some']
      refine congrArg some (Prod.ext ?_ ?_)
      · show s.extract _ _ = mkS (((List.drop _ (List.drop _ _))).take _)
        rw [List.drop_drop, ← mkS_extract]
        congr 1
      · show (⟨s, _, 0⟩ : Twire_Reader) = wR s _ 0
        unfold wR nat_
        rw [if_pos rfl]
        congr 1
        show ((a + (cnt ((bl s).drop a) most).2.1 : Nat) : Int) + (((cnt ((bl s).drop a) most).1 : Nat) : Int) = ((a + ((cnt ((bl s).drop a) most).2.1 + (cnt ((bl s).drop a) most).1) : Nat) : Int)
        omega
  · have en : nout' a (fun v => ((v : Nat) : Int)) (cnt ((bl s).drop a) most) = (0, 0, (((cnt ((bl s).drop a) most).2.2 : Nat) : Int)) := by rw [nout', if_neg h]
    rw [if_pos h, en]
    dsimp only
    rw [eq0_f h, cond_false, ne0_t h, cond_true, letB_eq]
    unfold wire_Reader__done_g nat_
    rw [ne0_t h, cond_true, if_neg h]
    rfl
theorem r05_rText {most : Int} (hm : I64 most) : r05_ReadText_g (qR s a 0) most = some (qR s (nat_ a (txt ((bl s).drop a) most).2.1 (txt ((bl s).drop a) most).2.2) (txt ((bl s).drop a) most).2.2, mkS (txt ((bl s).drop a) most).1) := by
  unfold r05_ReadText_g
  rw [show ((qR s a 0).E != 0) = false from rfl, cond_false, show (qR s a 0).S_ = s from rfl, show (qR s a 0).At = (a : Int) from rfl, r05_num (by omega) ha, bind_some']
  have hp := @num_pos ((bl s).drop a) 0
  rw [drop_len] at hp
  unfold I64 at hm
  unfold txt
  rw [drop_len]
  by_cases h : (num ((bl s).drop a) 0).2.2 = 0
  · obtain ⟨p1, p2⟩ := hp h
    have en : rout a (num ((bl s).drop a) 0) = ((((num ((bl s).drop a) 0).1 : Nat) : Int), ((a + (num ((bl s).drop a) 0).2.1 : Nat) : Int), 0) := by rw [rout, if_pos h]
    rw [en]
    dsimp only
    rw [ne0_f, cond_false]
    by_cases h1 : most < 0 ∨ most < (((num ((bl s).drop a) 0).1 : Nat) : Int)
    · have ec : cnt ((bl s).drop a) most = (0, 0, 4) := by rw [cnt, if_neg (by omega), if_pos h1]
      rw [ec, if_pos (by simp)]
      by_cases h2 : most < 0
      · rw [decide_eq_true h2, cond_true]
        rfl
      · rw [decide_eq_false h2, cond_false, WU64_eq (n := most) (by omega), decide_eq_true (by omega), cond_true]
        rfl
    · have ec : cnt ((bl s).drop a) most = ((num ((bl s).drop a) 0).1, (num ((bl s).drop a) 0).2.1, 0) := by rw [cnt, if_neg (by omega), if_neg h1]
      rw [ec, if_neg (by simp), decide_eq_false (p := most < 0) (by omega), cond_false, WU64_eq (n := most) (by omega), decide_eq_false (p := most < _) (by omega), cond_false]
      dsimp only
      rw [W64_eq (n := ((s.size : Nat) : Int) - _) (by omega) (by omega), WU64_eq (by omega)]
      by_cases h2 : s.size - a - (num ((bl s).drop a) 0).2.1 < (num ((bl s).drop a) 0).1
      · rw [decide_eq_true (by omega), cond_true, if_pos h2]
        rfl
      · rw [decide_eq_false (by omega), cond_false, if_neg h2, W64_eq (n := (((num ((bl s).drop a) 0).1 : Nat) : Int)) (by omega) (by omega), W64_eq (by omega) (by omega)]
        rw [ssubO_eq (by omega) (by omega) (by omega), bind_some']
        refine congrArg some (Prod.ext ?_ ?_)
        · show (⟨s, _, 0⟩ : Tsawmillref05_Reader) = qR s _ 0
          unfold qR nat_
          rw [if_pos rfl]
          congr 1
          show ((a + (num ((bl s).drop a) 0).2.1 : Nat) : Int) + (((num ((bl s).drop a) 0).1 : Nat) : Int) = ((a + ((num ((bl s).drop a) 0).2.1 + (num ((bl s).drop a) 0).1) : Nat) : Int)
          omega
        · show s.extract _ _ = mkS (((List.drop _ (List.drop _ _))).take _)
          rw [List.drop_drop, ← mkS_extract]
          congr 1
  · have en : rout a (num ((bl s).drop a) 0) = (0, (a : Int), (((num ((bl s).drop a) 0).2.2 : Nat) : Int)) := by rw [rout, if_neg h]
    rw [en, cnt_e h, if_pos h]
    dsimp only
    rw [ne0_t h, cond_true]
    unfold nat_
    rw [if_neg h]
    rfl
end
theorem nout'_ok {α : Type} {a : Nat} {f : α → Int} {q : α × Nat × Nat} (h : q.2.2 = 0) : nout' a f q = (f q.1, ((a + q.2.1 : Nat) : Int), 0) := by rw [nout', if_pos h]
theorem nout'_err {α : Type} {a : Nat} {f : α → Int} {q : α × Nat × Nat} (h : q.2.2 ≠ 0) : nout' a f q = (0, 0, (q.2.2 : Int)) := by rw [nout', if_neg h]
theorem rout'_ok {α : Type} {a : Nat} {f : α → Int} {q : α × Nat × Nat} (h : q.2.2 = 0) : rout' a f q = (f q.1, ((a + q.2.1 : Nat) : Int), 0) := by rw [rout', if_pos h]
theorem rout'_err {α : Type} {a : Nat} {f : α → Int} {q : α × Nat × Nat} (h : q.2.2 ≠ 0) : rout' a f q = (0, (a : Int), (q.2.2 : Int)) := by rw [rout', if_neg h]
theorem wire_ints_loop {s : ByteArray} (hs : s.size ≤ 1000000000000) (b e : Nat) (low high : Int) (cv : Int × Int × Int) (hcv : cv.1 < 18446744073709551616) : ∀ (m i a : Nat) (l1 : List Int), cv.1 = ((i + m : Nat) : Int) → a ≤ s.size → l1.length ≤ a →
    ∃ x, loopO (fun q : Int × Int × List Int × Int => wire_Reader__Ints_s1 (wR s b e) low high cv q.1 q.2.1 q.2.2.1 q.2.2.2) ((a : Int), 0, l1, (i : Int)) = some x ∧
      ((its m ((bl s).drop a) low high).2.2 = 0 → x = (((a + (its m ((bl s).drop a) low high).2.1 : Nat) : Int), 0, l1 ++ (its m ((bl s).drop a) low high).1)) ∧ ((its m ((bl s).drop a) low high).2.2 ≠ 0 → x.2.1 = ((its m ((bl s).drop a) low high).2.2 : Int))
  | 0, i, a, l1, hc, ha, hl => by
    refine ⟨((a : Int), 0, l1), loopO_done ?_, fun _ => ?_, fun h => absurd rfl h⟩
    · unfold wire_Reader__Ints_s1
      dsimp only
      rw [decide_eq_false (by omega)]
      rfl
    · simp [its]
  | m + 1, i, a, l1, hc, ha, hl => by
    by_cases h : (sgn ((bl s).drop a) low high).2.2 = 0
    · have hp := sgn_pos h
      rw [drop_len] at hp
      have hstep : wire_Reader__Ints_s1 (wR s b e) low high cv (a : Int) 0 l1 (i : Int) = some (.inl (((a + (sgn ((bl s).drop a) low high).2.1 : Nat) : Int), 0, l1 ++ [(sgn ((bl s).drop a) low high).1], ((i + 1 : Nat) : Int))) := by
        unfold wire_Reader__Ints_s1
        rw [decide_eq_true (by omega), cond_true, eq0_t, cond_true, wire_signed hs ha, bind_some', nout'_ok h, appO_eq (by simp; omega) (by simp; omega), bind_some', WU64_eq (by omega)]
        rfl
      obtain ⟨x, h1, h2, h3⟩ := wire_ints_loop hs b e low high cv hcv m (i + 1) (a + (sgn ((bl s).drop a) low high).2.1) (l1 ++ [(sgn ((bl s).drop a) low high).1]) (by omega) (by omega) (by simp; omega)
      refine ⟨x, (loopO_next (x' := (((a + (sgn ((bl s).drop a) low high).2.1 : Nat) : Int), 0, l1 ++ [(sgn ((bl s).drop a) low high).1], ((i + 1 : Nat) : Int))) hstep).trans h1, ?_, ?_⟩
      · intro h4
        rw [its, if_neg (by omega)] at h4 ⊢
        rw [List.drop_drop] at h4 ⊢
        by_cases h5 : (its m ((bl s).drop (a + (sgn ((bl s).drop a) low high).2.1)) low high).2.2 ≠ 0
        · rw [if_pos h5] at h4
          exact absurd h4 h5
        · rw [if_neg h5, h2 (by omega)]
          simp only [List.append_assoc, List.singleton_append, Nat.add_assoc]
      · intro h4
        rw [its, if_neg (by omega)] at h4 ⊢
        rw [List.drop_drop] at h4 ⊢
        by_cases h5 : (its m ((bl s).drop (a + (sgn ((bl s).drop a) low high).2.1)) low high).2.2 ≠ 0
        · rw [if_pos h5]
          exact h3 h5
        · rw [if_neg h5] at h4
          exact absurd rfl h4
    · have hstep : wire_Reader__Ints_s1 (wR s b e) low high cv (a : Int) 0 l1 (i : Int) = some (.inl (0, (((sgn ((bl s).drop a) low high).2.2 : Nat) : Int), l1 ++ [0], ((i + 1 : Nat) : Int))) := by
        unfold wire_Reader__Ints_s1
        rw [decide_eq_true (by omega), cond_true, eq0_t, cond_true, wire_signed hs ha, bind_some', nout'_err h, appO_eq (by simp; omega) (by simp; omega), bind_some', WU64_eq (by omega)]
        rfl
      have he : (its (m + 1) ((bl s).drop a) low high).2.2 = (sgn ((bl s).drop a) low high).2.2 := by rw [its, if_pos h]
      refine ⟨_, (loopO_next (x' := (0, (((sgn ((bl s).drop a) low high).2.2 : Nat) : Int), l1 ++ [0], ((i + 1 : Nat) : Int))) hstep).trans (loopO_done (y := (0, (((sgn ((bl s).drop a) low high).2.2 : Nat) : Int), l1 ++ [0])) ?_), ?_, ?_⟩
      · unfold wire_Reader__Ints_s1
        dsimp only
        rw [eq0_f h, cond_false]
        by_cases h6 : ((i + 1 : Nat) : Int) < cv.1
        · rw [decide_eq_true h6]
          rfl
        · rw [decide_eq_false h6]
          rfl
      · rw [he]
        intro h4
        exact absurd h4 h
      · rw [he]
        intro _
        rfl
theorem r05_ints_loop {s : ByteArray} (hs : s.size ≤ 1000000000000) (b e : Nat) (low high : Int) (nv : Int × Int × Int) (hnv : nv.1 < 18446744073709551616) : ∀ (m a : Nat) (l1 : List Int), nv.1 = ((l1.length + m : Nat) : Int) → a ≤ s.size → l1.length ≤ a →
    ∃ x, loopO (fun q : Int × List Int => r05_ReadInts_s1 (qR s b e) low high nv q.1 q.2) ((a : Int), l1) = some x ∧
      ((its m ((bl s).drop a) low high).2.2 = 0 → x = .inr (((a + (its m ((bl s).drop a) low high).2.1 : Nat) : Int), l1 ++ (its m ((bl s).drop a) low high).1)) ∧ ((its m ((bl s).drop a) low high).2.2 ≠ 0 → x = .inl (qR s b (its m ((bl s).drop a) low high).2.2, []))
  | 0, a, l1, hc, ha, hl => by
    refine ⟨.inr ((a : Int), l1), loopO_done ?_, fun _ => ?_, fun h => absurd rfl h⟩
    · unfold r05_ReadInts_s1
      dsimp only
      rw [WU64_eq (by omega), decide_eq_false (by omega)]
      rfl
    · simp [its]
  | m + 1, a, l1, hc, ha, hl => by
    by_cases h : (sgn ((bl s).drop a) low high).2.2 = 0
    · have hp := sgn_pos h
      rw [drop_len] at hp
      have hstep : r05_ReadInts_s1 (qR s b e) low high nv (a : Int) l1 = some (.inl (((a + (sgn ((bl s).drop a) low high).2.1 : Nat) : Int), l1 ++ [(sgn ((bl s).drop a) low high).1])) := by
        unfold r05_ReadInts_s1
        rw [WU64_eq (by omega), decide_eq_true (by omega), cond_true, show (qR s b e).S_ = s from rfl, r05_sgn hs ha, bind_some', rout'_ok h]
        dsimp only
        rw [ne0_f, cond_false, appO_eq (by simp; omega) (by simp; omega), bind_some']
        rfl
      obtain ⟨x, h1, h2, h3⟩ := r05_ints_loop hs b e low high nv hnv m (a + (sgn ((bl s).drop a) low high).2.1) (l1 ++ [(sgn ((bl s).drop a) low high).1]) (by simp; omega) (by omega) (by simp; omega)
      refine ⟨x, (loopO_next (x' := (((a + (sgn ((bl s).drop a) low high).2.1 : Nat) : Int), l1 ++ [(sgn ((bl s).drop a) low high).1])) hstep).trans h1, ?_, ?_⟩
      · intro h4
        rw [its, if_neg (by omega)] at h4 ⊢
        rw [List.drop_drop] at h4 ⊢
        by_cases h5 : (its m ((bl s).drop (a + (sgn ((bl s).drop a) low high).2.1)) low high).2.2 ≠ 0
        · rw [if_pos h5] at h4
          exact absurd h4 h5
        · rw [if_neg h5, h2 (by omega)]
          simp only [List.append_assoc, List.singleton_append, Nat.add_assoc]
      · intro h4
        rw [its, if_neg (by omega)] at h4 ⊢
        rw [List.drop_drop] at h4 ⊢
        by_cases h5 : (its m ((bl s).drop (a + (sgn ((bl s).drop a) low high).2.1)) low high).2.2 ≠ 0
        · rw [if_pos h5]
          exact h3 h5
        · rw [if_neg h5] at h4
          exact absurd rfl h4
    · have he : (its (m + 1) ((bl s).drop a) low high).2.2 = (sgn ((bl s).drop a) low high).2.2 := by rw [its, if_pos h]
      refine ⟨.inl (qR s b (sgn ((bl s).drop a) low high).2.2, []), loopO_done ?_, ?_, ?_⟩
      · unfold r05_ReadInts_s1
        dsimp only
        rw [WU64_eq (by omega), decide_eq_true (by omega), cond_true, show (qR s b e).S_ = s from rfl, r05_sgn hs ha, bind_some', rout'_err h]
        dsimp only
        rw [ne0_t h]
        rfl
      · rw [he]
        intro h4
        exact absurd h4 h
      · rw [he]
        intro _
        rfl
section
variable {s : ByteArray} (hs : s.size ≤ 1000000000000) {a : Nat} (ha : a ≤ s.size)
include hs ha
theorem wire_rInts {most : Int} (low high : Int) (hm : I64 most) : wire_Reader__Ints_g (wR s a 0) most low high = some ((ints ((bl s).drop a) most low high).1, wR s (nat_ a (ints ((bl s).drop a) most low high).2.1 (ints ((bl s).drop a) most low high).2.2) (ints ((bl s).drop a) most low high).2.2) := by
  unfold wire_Reader__Ints_g
  rw [show wire_Reader__stopped_g (wR s a 0) = false from rfl, cond_false, show (wR s a 0).at_ = (a : Int) from rfl, wire_counted hs ha _ _ hm, bind_some']
  unfold I64 at hm
  unfold ints
  by_cases h : (cnt ((bl s).drop a) most).2.2 = 0
  · obtain ⟨p1, p2, p3, p4⟩ := cnt_pos h
    rw [drop_len] at p2
    rw [nout'_ok h, if_neg (by omega)]
    obtain ⟨x, h1, h2, h3⟩ := wire_ints_loop hs a 0 low high ((((cnt ((bl s).drop a) most).1 : Nat) : Int), ((a + (cnt ((bl s).drop a) most).2.1 : Nat) : Int), 0) (by dsimp only; omega) (cnt ((bl s).drop a) most).1 0 (a + (cnt ((bl s).drop a) most).2.1) [] (by simp) (by omega) (by simp)
    dsimp only
    have e0 : ((0 : Nat) : Int) = 0 := rfl
    rw [e0] at h1
    rw [h1, bind_some', letB_eq]
    rw [List.drop_drop]
    by_cases h5 : (its (cnt ((bl s).drop a) most).1 ((bl s).drop (a + (cnt ((bl s).drop a) most).2.1)) low high).2.2 = 0
    · rw [if_neg (by omega), h2 h5]
      dsimp only
      rw [ne0_f, cond_false]
      refine congrArg some (Prod.ext (by simp) ?_)
      show (⟨s, _, 0⟩ : Twire_Reader) = wR s _ 0
      unfold wR nat_
      rw [if_pos rfl, Nat.add_assoc]
      rfl
    · rw [if_pos h5, h3 h5, ne0_t h5, cond_true]
      unfold wire_Reader__done_g nat_
      rw [ne0_t h5, cond_true, if_neg h5]
      rfl
  · rw [nout'_err h, if_pos h]
    rw [loopO_done (y := (0, (((cnt ((bl s).drop a) most).2.2 : Nat) : Int), [])) (by
      unfold wire_Reader__Ints_s1
      rfl), bind_some', letB_eq]
    dsimp only
    rw [ne0_t h, cond_true]
    unfold wire_Reader__done_g nat_
    rw [ne0_t h, cond_true, if_neg h]
    rfl
theorem r05_rInts {most : Int} (low high : Int) (hm : I64 most) : r05_ReadInts_g (qR s a 0) most low high = some (qR s (nat_ a (ints ((bl s).drop a) most low high).2.1 (ints ((bl s).drop a) most low high).2.2) (ints ((bl s).drop a) most low high).2.2, (ints ((bl s).drop a) most low high).1) := by
  unfold r05_ReadInts_g
  rw [show ((qR s a 0).E != 0) = false from rfl, cond_false, show (qR s a 0).S_ = s from rfl, show (qR s a 0).At = (a : Int) from rfl, r05_num (by omega) ha, bind_some']
  have hp := @num_pos ((bl s).drop a) 0
  rw [drop_len] at hp
  unfold I64 at hm
  unfold ints
  by_cases h : (num ((bl s).drop a) 0).2.2 = 0
  · obtain ⟨p1, p2⟩ := hp h
    have en : rout a (num ((bl s).drop a) 0) = ((((num ((bl s).drop a) 0).1 : Nat) : Int), ((a + (num ((bl s).drop a) 0).2.1 : Nat) : Int), 0) := by rw [rout, if_pos h]
    rw [en]
    dsimp only
    rw [ne0_f, cond_false]
    by_cases h1 : most < 0 ∨ most < (((num ((bl s).drop a) 0).1 : Nat) : Int)
    · have ec : cnt ((bl s).drop a) most = (0, 0, 4) := by rw [cnt, if_neg (by omega), if_pos h1]
      rw [ec, if_pos (by simp)]
      by_cases h2 : most < 0
      · rw [decide_eq_true h2, cond_true]
        rfl
      · rw [decide_eq_false h2, cond_false, WU64_eq (n := most) (by omega), decide_eq_true (by omega), cond_true]
        rfl
    · have ec : cnt ((bl s).drop a) most = ((num ((bl s).drop a) 0).1, (num ((bl s).drop a) 0).2.1, 0) := by rw [cnt, if_neg (by omega), if_neg h1]
      rw [ec, if_neg (by simp), decide_eq_false (p := most < 0) (by omega), cond_false, WU64_eq (n := most) (by omega), decide_eq_false (p := most < _) (by omega), cond_false]
      dsimp only
      obtain ⟨x, h1, h2, h3⟩ := r05_ints_loop hs a 0 low high ((((num ((bl s).drop a) 0).1 : Nat) : Int), ((a + (num ((bl s).drop a) 0).2.1 : Nat) : Int), 0) (by dsimp only; omega) (num ((bl s).drop a) 0).1 (a + (num ((bl s).drop a) 0).2.1) [] (by simp) (by omega) (by simp)
      rw [h1, bind_some', List.drop_drop]
      by_cases h5 : (its (num ((bl s).drop a) 0).1 ((bl s).drop (a + (num ((bl s).drop a) 0).2.1)) low high).2.2 = 0
      · rw [if_neg (by omega), h2 h5, Sum.elim_inr]
        refine congrArg some (Prod.ext ?_ (by simp))
        show (⟨s, _, 0⟩ : Tsawmillref05_Reader) = qR s _ 0
        unfold qR nat_
        rw [if_pos rfl, Nat.add_assoc]
        rfl
      · rw [if_pos h5, h3 h5, Sum.elim_inl]
        unfold nat_
        rw [if_neg h5]
  · have en : rout a (num ((bl s).drop a) 0) = (0, (a : Int), (((num ((bl s).drop a) 0).2.2 : Nat) : Int)) := by rw [rout, if_neg h]
    rw [en, cnt_e h, if_pos h]
    dsimp only
    rw [ne0_t h, cond_true]
    unfold nat_
    rw [if_neg h]
    rfl
end


end Go.Proofs.Ytmfgheklnjmbjaa
