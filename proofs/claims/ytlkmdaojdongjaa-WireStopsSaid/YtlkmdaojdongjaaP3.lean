/- P3: what functions of the program compute (written by mod.py). -/
import Derived.Test.YtlkmdaojdongjaaP2
import Derived.KernelRfl
namespace Go.Proofs.Ytlkmdaojdongjaa
open Go Go.Ab
set_option linter.unusedSimpArgs false
set_option linter.unusedVariables false
set_option maxRecDepth 20000

/-! reading numbers -/
/-- Value, bytes read, error. -/
def num : List Nat → Nat → Nat × Nat × Nat
  | [], _ => (0, 0, 3)
  | c :: l, i => if i = 9 ∧ 1 < c then (0, 0, 5) else if c < 128 then (if c = 0 ∧ 0 < i then (0, 0, 5) else (c, 1, 0)) else (if (num l (i + 1)).2.2 = 0 then (c - 128 + 128 * (num l (i + 1)).1, (num l (i + 1)).2.1 + 1, 0) else (0, 0, (num l (i + 1)).2.2))
theorem num_err : ∀ {l : List Nat} {i : Nat}, (num l i).2.2 ≠ 0 → (num l i).1 = 0 ∧ (num l i).2.1 = 0 ∧ ((num l i).2.2 = 3 ∨ (num l i).2.2 = 5)
  | [], i, _ => by simp [num]
  | c :: l, i, h => by
    have ih := @num_err l (i + 1)
    rw [num] at h ⊢
    split
    · simp
    · split
      · split
        · simp
        · simp_all
      · split
        · simp_all
        · rename_i h4
          exact ⟨rfl, rfl, (ih h4).2.2⟩
theorem num_lt : ∀ {l : List Nat} {i : Nat}, i ≤ 9 → (∀ c ∈ l, c < 256) → (num l i).1 < 2 * 128 ^ (9 - i)
  | [], i, _, _ => by
    rw [num]
    exact Nat.mul_pos (by omega) (Nat.pow_pos (by omega))
  | c :: l, i, hi, hl => by
    have hp : 0 < 2 * 128 ^ (9 - i) := Nat.mul_pos (by omega) (Nat.pow_pos (by omega))
    rw [num]
    split
    · exact hp
    · rename_i h1
      by_cases h9 : i = 9
      · subst h9
        have hc : c ≤ 1 := by
          rcases Nat.lt_or_ge 1 c with h | h
          · exact absurd ⟨rfl, h⟩ h1
          · exact h
        rw [if_pos (by omega)]
        split
        · exact hp
        · simp
          omega
      · have ih := @num_lt l (i + 1) (by omega) (fun c hc => hl c (List.mem_cons_of_mem _ hc))
        have he : 128 ^ (9 - i) = 128 * 128 ^ (9 - (i + 1)) := by
          rw [show 9 - i = 9 - (i + 1) + 1 by omega, Nat.pow_succ, Nat.mul_comm]
        have hp2 : 0 < 128 ^ (9 - (i + 1)) := Nat.pow_pos (by omega)
        have hc := hl c (List.mem_cons_self ..)
        split
        · split
          · exact hp
          · dsimp only
            omega
        · split
          · dsimp only
            omega
          · exact hp
theorem num_pos : ∀ {l : List Nat} {i : Nat}, (num l i).2.2 = 0 → 1 ≤ (num l i).2.1 ∧ (num l i).2.1 ≤ l.length
  | [], i, h => by simp [num] at h
  | c :: l, i, h => by
    have ih := @num_pos l (i + 1)
    rw [num] at h ⊢
    split
    · simp_all
    · split
      · split
        · simp_all
        · simp
      · split
        · rename_i h4
          have := ih h4
          simp
          omega
        · simp_all
theorem pow7 (i : Nat) : (2 : Int) ^ (7 * i) = ((128 ^ i : Nat) : Int) := by
  rw [Int.natCast_pow, Int.pow_mul]
  rfl
theorem pow128_le {i : Nat} (h : i ≤ 9) : 128 ^ i ≤ 9223372036854775808 := by
  have := Nat.pow_le_pow_right (n := 128) (by omega) h
  have e : (128 : Nat) ^ 9 = 9223372036854775808 := by decide
  omega
theorem bShl_7 {m i : Nat} (hi : i ≤ 9) (h : m * 128 ^ i < 18446744073709551616) : bShl .u64 (m : Int) ((7 * i : Nat) : Int) = ((m * 128 ^ i : Nat) : Int) := by
  show IntKind.u64.wrap ((m : Int) * 2 ^ (min (7 * i) 64)) = _
  rw [Nat.min_eq_left (by omega), pow7, ← Int.natCast_mul]
  exact WU64_eq (by omega)
theorem bOr_add {n m i : Nat} (hn : n < 128 ^ i) (hi : i ≤ 9) (h : n + m * 128 ^ i < 18446744073709551616) : bOr .u64 (n : Int) ((m * 128 ^ i : Nat) : Int) = ((n + m * 128 ^ i : Nat) : Int) := by
  show IntKind.u64.wrap ((BitVec.ofInt 64 (n : Int) ||| BitVec.ofInt 64 ((m * 128 ^ i : Nat) : Int)).toNat : Int) = _
  have e7 : 128 ^ i = 2 ^ (7 * i) := by rw [Nat.pow_mul]
  rw [BitVec.toNat_or, BitVec.ofInt_natCast, BitVec.ofInt_natCast, BitVec.toNat_ofNat, BitVec.toNat_ofNat, Nat.mod_eq_of_lt (by omega), Nat.mod_eq_of_lt (by omega)]
  have := Nat.shiftLeft_add_eq_or_of_lt (i := 7 * i) (b := n) (by rw [← e7]; exact hn) m
  rw [Nat.shiftLeft_eq, ← e7] at this
  rw [Nat.or_comm, ← this, Nat.add_comm]
  exact WU64_eq (by omega)
theorem bAnd_127 {c : Nat} (h : c < 256) : bAnd .u8 (c : Int) 127 = ((c % 128 : Nat) : Int) := by
  have : ∀ c : Fin 256, bAnd .u8 ((c.1 : Nat) : Int) 127 = ((c.1 % 128 : Nat) : Int) := by decide +kernel
  exact this ⟨c, h⟩
/-- What the reader's number gives, out of num. -/
def nout (at_ : Nat) (q : Nat × Nat × Nat) : Int × Int × Int := if q.2.2 = 0 then ((q.1 : Int), ((at_ + q.2.1 : Nat) : Int), 0) else (0, 0, (q.2.2 : Int))
def rout (at_ : Nat) (q : Nat × Nat × Nat) : Int × Int × Int := if q.2.2 = 0 then ((q.1 : Int), ((at_ + q.2.1 : Nat) : Int), 0) else (0, (at_ : Int), (q.2.2 : Int))
def numUp (n i : Nat) (q : Nat × Nat × Nat) : Nat × Nat × Nat := if q.2.2 = 0 then (n + 128 ^ i * q.1, i + q.2.1, 0) else q
theorem numUp_step {c n i : Nat} {l : List Nat} (h9 : ¬ (i = 9 ∧ 1 < c)) (h : ¬ c < 128) (hc : c < 256) : numUp n i (num (c :: l) i) = numUp (n + c % 128 * 128 ^ i) (i + 1) (num l (i + 1)) := by
  have e := num_err (l := l) (i := i + 1)
  rw [num, if_neg h9, if_neg h]
  unfold numUp
  by_cases h0 : (num l (i + 1)).2.2 = 0
  · rw [if_pos h0, if_pos rfl, if_pos h0]
    dsimp only
    have hm : c % 128 = c - 128 := by omega
    rw [hm, Nat.pow_succ]
    refine Prod.ext ?_ (Prod.ext ?_ rfl)
    · show n + 128 ^ i * (c - 128 + 128 * (num l (i + 1)).1) = n + (c - 128) * 128 ^ i + 128 ^ i * 128 * (num l (i + 1)).1
      rw [Nat.mul_add, Nat.mul_comm (c - 128), ← Nat.mul_assoc]
      omega
    · show i + ((num l (i + 1)).2.1 + 1) = i + 1 + (num l (i + 1)).2.1
      omega
  · rw [if_neg h0]
    dsimp only
    rw [if_neg h0, if_neg h0]
    obtain ⟨e1, e2, _⟩ := e h0
    exact Prod.ext e1.symm (Prod.ext e2.symm rfl)
theorem wire_num_loop (r : Twire_Reader) (hs : r.s.size ≤ 4611686018427387904) (at_ : Nat) : ∀ (l : List Nat) (i n : Nat), l = (bl r.s).drop (at_ + i) → at_ + i ≤ r.s.size → i ≤ 9 → n < 128 ^ i →
    loopO (fun q : Int × Int => wire_Reader__number_s1 r (at_ : Int) q.1 q.2) ((n : Int), (i : Int)) = some (nout at_ (numUp n i (num l i)))
  | [], i, n, hl, hat, hi, hn => by
    refine loopO_done ?_
    have hlen : (bl r.s).length ≤ at_ + i := List.drop_eq_nil_iff.1 hl.symm
    rw [bl_length] at hlen
    simp only [wire_Reader__number_s1]
    rw [W64_eq (by omega) (by omega), decide_eq_true (by omega)]
    rfl
  | c :: l, i, n, hl, hat, hi, hn => by
    have hlt : at_ + i < (bl r.s).length := by
      rcases Nat.lt_or_ge (at_ + i) (bl r.s).length with h | h
      · exact h
      · rw [List.drop_eq_nil_of_le h] at hl
        exact absurd hl (by simp)
    have hcl := List.drop_eq_getElem_cons hlt
    rw [← hl] at hcl
    obtain ⟨hc, hl'⟩ := List.cons.inj hcl
    have hc256 : c < 256 := by rw [hc]; exact bl_lt (List.getElem_mem hlt)
    have hsz := hlt
    rw [bl_length] at hsz
    have hb : bytO r.s ((at_ : Int) + (i : Int)) = some (c : Int) := by
      rw [hc]
      exact bytO_bl hlt
    have h7 : W64 (7 * (i : Int)) = ((7 * i : Nat) : Int) := by rw [W64_eq (by omega) (by omega)]; omega
    have hp := pow128_le hi
    by_cases h9 : i = 9 ∧ 1 < c
    · refine loopO_done ?_
      simp only [wire_Reader__number_s1]
      rw [W64_eq (by omega) (by omega), decide_eq_false (by omega), cond_false, hb, bind_some', show ((i : Int) == 9) = true by simp; omega, cond_true, decide_eq_true (by omega), cond_true, num, if_pos h9]
      rfl
    · have hmul : n + c % 128 * 128 ^ i < 18446744073709551616 := by
        by_cases h : i = 9
        · have : c % 128 ≤ 1 := by omega
          have := Nat.mul_le_mul_right (128 ^ i) this
          omega
        · have hp8 := Nat.pow_le_pow_right (n := 128) (i := i) (j := 8) (by omega) (by omega)
          have e8 : (128 : Nat) ^ 8 = 72057594037927936 := by decide
          have : c % 128 ≤ 127 := by omega
          have := Nat.mul_le_mul_right (128 ^ i) this
          omega
      have hval : bOr .u64 (n : Int) (bShl .u64 (WU64 (bAnd .u8 (c : Int) 127)) ((7 * i : Nat) : Int)) = ((n + c % 128 * 128 ^ i : Nat) : Int) := by
        rw [bAnd_127 hc256, WU64_eq (n := ((c % 128 : Nat) : Int)) (by omega), bShl_7 hi (by omega), bOr_add hn hi hmul]
      have hstep : wire_Reader__number_s1 r (at_ : Int) (n : Int) (i : Int) = bif decide (128 ≤ (c : Int)) then some (.inl (((n + c % 128 * 128 ^ i : Nat) : Int), ((i + 1 : Nat) : Int))) else (bif ((c : Int) == 0) then (bif decide (0 < (i : Int)) then some (.inr (0, 0, 5)) else some (.inr (((n + c % 128 * 128 ^ i : Nat) : Int), ((at_ + i + 1 : Nat) : Int), 0))) else some (.inr (((n + c % 128 * 128 ^ i : Nat) : Int), ((at_ + i + 1 : Nat) : Int), 0))) := by
        unfold wire_Reader__number_s1
        have hm : (bif ((i : Int) == 9) then (bif (decide (1 < (c : Int))) then some (Sum.inl (Sum.inr (0, 0, 5))) else some (Sum.inr ())) else some (Sum.inr ()) : Option (((Int × Int) ⊕ (Int × Int × Int)) ⊕ Unit)) = some (.inr ()) := by
          by_cases h : i = 9
          · rw [show ((i : Int) == 9) = true by simp; omega, cond_true, decide_eq_false (by omega)]
            rfl
          · rw [show ((i : Int) == 9) = false by simp; omega]
            rfl
        rw [W64_eq (n := (at_ : Int) + i) (by omega) (by omega), decide_eq_false (by omega), cond_false, hb, bind_some', hm, bind_some', h7, W64_succ (by omega), W64_eq (n := (at_ : Int) + i + 1) (by omega) (by omega)]
        rw [Sum.elim_inr, decide_eq_true (p := (0 : Int) ≤ _) (by omega), cond_true, hval, show (at_ : Int) + i + 1 = ((at_ + i + 1 : Nat) : Int) by omega]
      by_cases h128 : c < 128
      · refine loopO_done ?_
        dsimp only
        rw [hstep, decide_eq_false (by omega), cond_false]
        rw [num, if_neg h9, if_pos h128]
        by_cases h0 : c = 0 ∧ 0 < i
        · rw [if_pos h0, show ((c : Int) == 0) = true by simp; omega, cond_true, decide_eq_true (by omega)]
          rfl
        · rw [if_neg h0]
          have e1 : numUp n i (c, 1, 0) = (n + c % 128 * 128 ^ i, i + 1, 0) := by
            unfold numUp
            rw [if_pos rfl, Nat.mod_eq_of_lt h128, Nat.mul_comm]
          rw [e1]
          by_cases hc0 : c = 0
          · rw [show ((c : Int) == 0) = true by simp; omega, cond_true, decide_eq_false (by omega)]
            rfl
          · rw [show ((c : Int) == 0) = false by simp; omega]
            rfl
      · have hi9 : i < 9 := by omega
        rw [loopO_next (x' := (((n + c % 128 * 128 ^ i : Nat) : Int), ((i + 1 : Nat) : Int))) (by dsimp only; rw [hstep, decide_eq_true (by omega)]; rfl)]
        rw [wire_num_loop r hs at_ l (i + 1) (n + c % 128 * 128 ^ i) (by rw [hl']; congr 1) (by omega) (by omega) (by
          have : c % 128 ≤ 127 := by omega
          have := Nat.mul_le_mul_right (128 ^ i) this
          rw [Nat.pow_succ]
          omega)]
        rw [numUp_step h9 h128 hc256]
theorem numUp_zero (q : Nat × Nat × Nat) : numUp 0 0 q = q := by
  unfold numUp
  split
  · rename_i h
    refine Prod.ext (by simp) (Prod.ext (by simp) h.symm)
  · rfl
theorem wire_num {r : Twire_Reader} (hs : r.s.size ≤ 4611686018427387904) {at_ : Nat} (h : at_ ≤ r.s.size) : wire_Reader__number_g r (at_ : Int) = some (nout at_ (num ((bl r.s).drop at_) 0)) := by
  unfold wire_Reader__number_g
  have := wire_num_loop r hs at_ _ 0 0 rfl (by omega) (by omega) (by simp)
  rw [numUp_zero] at this
  exact this
theorem r05_num_loop (s : ByteArray) (hs : s.size ≤ 4611686018427387904) (at_ : Nat) : ∀ (l : List Nat) (i n : Nat), l = (bl s).drop (at_ + i) → at_ + i ≤ s.size → i ≤ 9 → n < 128 ^ i →
    loopO (fun q : Int × Int × Int => r05_number_s1 s (at_ : Int) q.1 q.2.1 q.2.2) ((n : Int), ((128 ^ i : Nat) : Int), (i : Int)) = some (.inl (rout at_ (numUp n i (num l i))))
  | [], i, n, hl, hat, hi, hn => by
    refine loopO_done ?_
    have hlen : (bl s).length ≤ at_ + i := List.drop_eq_nil_iff.1 hl.symm
    rw [bl_length] at hlen
    simp only [r05_number_s1]
    rw [decide_eq_true (by omega), cond_true, W64_eq (by omega) (by omega), decide_eq_true (by omega)]
    rfl
  | c :: l, i, n, hl, hat, hi, hn => by
    have hlt : at_ + i < (bl s).length := by
      rcases Nat.lt_or_ge (at_ + i) (bl s).length with h | h
      · exact h
      · rw [List.drop_eq_nil_of_le h] at hl
        exact absurd hl (by simp)
    have hcl := List.drop_eq_getElem_cons hlt
    rw [← hl] at hcl
    obtain ⟨hc, hl'⟩ := List.cons.inj hcl
    have hc256 : c < 256 := by rw [hc]; exact bl_lt (List.getElem_mem hlt)
    have hsz := hlt
    rw [bl_length] at hsz
    have hb : bytO s ((at_ : Int) + (i : Int)) = some (c : Int) := by
      rw [hc]
      exact bytO_bl hlt
    have hp := pow128_le hi
    have hwc : WU64 (c : Int) = c := WU64_eq (by omega)
    by_cases h9 : i = 9 ∧ 1 < c
    · refine loopO_done ?_
      simp only [r05_number_s1]
      rw [decide_eq_true (p := (i : Int) < 10) (by omega), cond_true, W64_eq (by omega) (by omega), decide_eq_false (by omega), cond_false, hb, bind_some', show ((i : Int) == 9) = true by simp; omega, cond_true, hwc, decide_eq_true (by omega), cond_true, num, if_pos h9]
      rfl
    · have hmul : n + c % 128 * 128 ^ i < 18446744073709551616 := by
        by_cases h : i = 9
        · have : c % 128 ≤ 1 := by omega
          have := Nat.mul_le_mul_right (128 ^ i) this
          omega
        · have hp8 := Nat.pow_le_pow_right (n := 128) (i := i) (j := 8) (by omega) (by omega)
          have e8 : (128 : Nat) ^ 8 = 72057594037927936 := by decide
          have : c % 128 ≤ 127 := by omega
          have := Nat.mul_le_mul_right (128 ^ i) this
          omega
      have hval : WU64 ((n : Int) + WU64 (Int.tmod (c : Int) 128 * ((128 ^ i : Nat) : Int))) = ((n + c % 128 * 128 ^ i : Nat) : Int) := by
        have e1 : Int.tmod (c : Int) 128 = ((c % 128 : Nat) : Int) := by rw [Int.tmod_eq_emod_of_nonneg (by omega)]; rfl
        rw [e1, ← Int.natCast_mul, WU64_eq (n := ((c % 128 * 128 ^ i : Nat) : Int)) (by omega), ← Int.natCast_add, WU64_eq (by omega)]
      have hstep : r05_number_s1 s (at_ : Int) (n : Int) ((128 ^ i : Nat) : Int) (i : Int) = bif decide ((c : Int) < 128) then (bif ((c : Int) == 0) then (bif decide (0 < (i : Int)) then some (.inr (.inl (0, (at_ : Int), 5))) else some (.inr (.inl (((n + c % 128 * 128 ^ i : Nat) : Int), ((at_ + i + 1 : Nat) : Int), 0)))) else some (.inr (.inl (((n + c % 128 * 128 ^ i : Nat) : Int), ((at_ + i + 1 : Nat) : Int), 0)))) else some (.inl (((n + c % 128 * 128 ^ i : Nat) : Int), WU64 (((128 ^ i : Nat) : Int) * 128), ((i + 1 : Nat) : Int))) := by
        unfold r05_number_s1
        have hm : (bif ((i : Int) == 9) then (bif (decide (1 < (c : Int))) then some (Sum.inl (Sum.inr (Sum.inl (0, (at_ : Int), 5)))) else some (Sum.inr ())) else some (Sum.inr ()) : Option (((Int × Int × Int) ⊕ ((Int × Int × Int) ⊕ Unit)) ⊕ Unit)) = some (.inr ()) := by
          by_cases h : i = 9
          · rw [show ((i : Int) == 9) = true by simp; omega, cond_true, decide_eq_false (by omega)]
            rfl
          · rw [show ((i : Int) == 9) = false by simp; omega]
            rfl
        rw [decide_eq_true (p := (i : Int) < 10) (by omega), cond_true, W64_eq (n := (at_ : Int) + i) (by omega) (by omega), decide_eq_false (p := ((s.size : Nat) : Int) ≤ _) (by omega), cond_false, hb, bind_some', hwc, hm, bind_some', W64_succ (by omega), W64_eq (n := (at_ : Int) + i + 1) (by omega) (by omega)]
        rw [Sum.elim_inr, hval, show (at_ : Int) + i + 1 = ((at_ + i + 1 : Nat) : Int) by omega]
      by_cases h128 : c < 128
      · refine loopO_done ?_
        dsimp only
        rw [hstep, decide_eq_true (p := (c : Int) < 128) (by omega), cond_true]
        rw [num, if_neg h9, if_pos h128]
        by_cases h0 : c = 0 ∧ 0 < i
        · rw [if_pos h0, show ((c : Int) == 0) = true by simp; omega, cond_true, decide_eq_true (by omega)]
          rfl
        · rw [if_neg h0]
          have e1 : numUp n i (c, 1, 0) = (n + c % 128 * 128 ^ i, i + 1, 0) := by
            unfold numUp
            rw [if_pos rfl, Nat.mod_eq_of_lt h128, Nat.mul_comm]
          rw [e1]
          by_cases hc0 : c = 0
          · rw [show ((c : Int) == 0) = true by simp; omega, cond_true, decide_eq_false (by omega)]
            rfl
          · rw [show ((c : Int) == 0) = false by simp; omega]
            rfl
      · have hi9 : i < 9 := by omega
        have hp8 := Nat.pow_le_pow_right (n := 128) (i := i) (j := 8) (by omega) (by omega)
        have e8 : (128 : Nat) ^ 8 = 72057594037927936 := by decide
        rw [loopO_next (x' := (((n + c % 128 * 128 ^ i : Nat) : Int), ((128 ^ (i + 1) : Nat) : Int), ((i + 1 : Nat) : Int))) (by
          dsimp only
          rw [hstep, decide_eq_false (by omega), cond_false, WU64_eq (by omega), Nat.pow_succ]
          rfl)]
        rw [r05_num_loop s hs at_ l (i + 1) (n + c % 128 * 128 ^ i) (by rw [hl']; congr 1) (by omega) (by omega) (by
          have : c % 128 ≤ 127 := by omega
          have := Nat.mul_le_mul_right (128 ^ i) this
          rw [Nat.pow_succ]
          omega)]
        rw [numUp_step h9 h128 hc256]
theorem r05_num {s : ByteArray} (hs : s.size ≤ 4611686018427387904) {at_ : Nat} (h : at_ ≤ s.size) : r05_number_g s (at_ : Int) = some (rout at_ (num ((bl s).drop at_) 0)) := by
  unfold r05_number_g
  have := r05_num_loop s hs at_ _ 0 0 rfl (by omega) (by omega) (by simp)
  rw [numUp_zero] at this
  have e : (((0 : Nat) : Int), ((128 ^ 0 : Nat) : Int), ((0 : Nat) : Int)) = ((0 : Int), (1 : Int), (0 : Int)) := rfl
  rw [e] at this
  rw [this]
  rfl

end Go.Proofs.Ytlkmdaojdongjaa
