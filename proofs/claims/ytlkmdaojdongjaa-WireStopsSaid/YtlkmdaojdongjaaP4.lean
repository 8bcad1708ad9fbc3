/- P4: what functions of the program compute (written by mod.py). -/
import Derived.Test.YtlkmdaojdongjaaP3
import Derived.KernelRfl
namespace Go.Proofs.Ytlkmdaojdongjaa
open Go Go.Ab
set_option linter.unusedSimpArgs false
set_option linter.unusedVariables false
set_option maxRecDepth 20000

/-! reading fields -/
def uz (v : Nat) : Int := if v % 2 = 1 then -((v / 2 : Nat) : Int) - 1 else ((v / 2 : Nat) : Int)
theorem uz_zz (n : Int) : uz (zz n) = n := by
  unfold uz zz
  split <;> split <;> omega
theorem zz_uz (v : Nat) : zz (uz v) = v := by
  unfold uz zz
  split <;> split <;> omega
theorem uz_I64 {v : Nat} (h : v < 18446744073709551616) : I64 (uz v) := by
  unfold uz I64
  split <;> omega
/-- Value, bytes read, error. -/
def sgn (l : List Nat) (low high : Int) : Int × Nat × Nat := if (num l 0).2.2 ≠ 0 then (0, 0, (num l 0).2.2) else if uz (num l 0).1 < low ∨ high < uz (num l 0).1 then (0, 0, 9) else (uz (num l 0).1, (num l 0).2.1, 0)
def cnt (l : List Nat) (most : Int) : Nat × Nat × Nat := if (num l 0).2.2 ≠ 0 then (0, 0, (num l 0).2.2) else if most < 0 ∨ most < ((num l 0).1 : Int) then (0, 0, 4) else ((num l 0).1, (num l 0).2.1, 0)
def txt (l : List Nat) (most : Int) : List Nat × Nat × Nat := if (cnt l most).2.2 ≠ 0 then ([], 0, (cnt l most).2.2) else if l.length - (cnt l most).2.1 < (cnt l most).1 then ([], 0, 3) else ((l.drop (cnt l most).2.1).take (cnt l most).1, (cnt l most).2.1 + (cnt l most).1, 0)
def its : Nat → List Nat → Int → Int → List Int × Nat × Nat
  | 0, _, _, _ => ([], 0, 0)
  | m + 1, l, low, high => if (sgn l low high).2.2 ≠ 0 then ([], 0, (sgn l low high).2.2) else if (its m (l.drop (sgn l low high).2.1) low high).2.2 ≠ 0 then ([], 0, (its m (l.drop (sgn l low high).2.1) low high).2.2) else ((sgn l low high).1 :: (its m (l.drop (sgn l low high).2.1) low high).1, (sgn l low high).2.1 + (its m (l.drop (sgn l low high).2.1) low high).2.1, 0)
def ints (l : List Nat) (most low high : Int) : List Int × Nat × Nat := if (cnt l most).2.2 ≠ 0 then ([], 0, (cnt l most).2.2) else if (its (cnt l most).1 (l.drop (cnt l most).2.1) low high).2.2 ≠ 0 then ([], 0, (its (cnt l most).1 (l.drop (cnt l most).2.1) low high).2.2) else ((its (cnt l most).1 (l.drop (cnt l most).2.1) low high).1, (cnt l most).2.1 + (its (cnt l most).1 (l.drop (cnt l most).2.1) low high).2.1, 0)
theorem num_64 {l : List Nat} (hl : ∀ c ∈ l, c < 256) : (num l 0).1 < 18446744073709551616 := by
  have := num_lt (l := l) (i := 0) (by omega) hl
  have e : (2 : Nat) * 128 ^ (9 - 0) = 18446744073709551616 := by decide
  omega
theorem bl_drop_lt {s : ByteArray} {k c : Nat} (h : c ∈ (bl s).drop k) : c < 256 := bl_lt (List.mem_of_mem_drop h)
def wR (s : ByteArray) (a e : Nat) : Twire_Reader := ⟨s, (a : Int), (e : Int)⟩
def qR (s : ByteArray) (a e : Nat) : Tsawmillref05_Reader := ⟨s, (a : Int), (e : Int)⟩
def nat_ (a k e : Nat) : Nat := if e = 0 then a + k else a
/-! the parts -/
theorem bAnd1 {v : Nat} (h : v < 18446744073709551616) : bAnd .u64 (v : Int) 1 = ((v % 2 : Nat) : Int) := by
  show IntKind.u64.wrap ((BitVec.ofInt 64 (v : Int) &&& BitVec.ofInt 64 1).toNat : Int) = _
  rw [BitVec.toNat_and, BitVec.ofInt_natCast, BitVec.toNat_ofNat, show (BitVec.ofInt 64 1).toNat = 1 by decide, Nat.mod_eq_of_lt (by omega), Nat.and_one_is_mod]
  exact WU64_eq (by omega)
theorem bShr1 (n : Nat) : bShr .u64 (n : Int) 1 = ((n / 2 : Nat) : Int) := by
  show Int.fdiv (n : Int) (2 ^ (min 1 64)) = _
  rw [Int.fdiv_eq_ediv_of_nonneg _ (by decide)]
  have : (2 : Int) ^ (min 1 64) = 2 := by decide
  rw [this]
  omega
theorem bNot_i64 {m : Nat} (h : m < 9223372036854775808) : bNot .i64 (m : Int) = -(m : Int) - 1 := by
  show IntKind.i64.wrap ((BitVec.ofInt 64 (-1) ^^^ BitVec.ofInt 64 (m : Int)).toNat : Int) = _
  have e : BitVec.ofInt 64 (-1) = BitVec.allOnes 64 := by decide
  rw [e, BitVec.allOnes_xor, BitVec.toNat_not, BitVec.ofInt_natCast, BitVec.toNat_ofNat, w64]
  have : m % 2 ^ 64 = m := Nat.mod_eq_of_lt (by omega)
  rw [this]
  split <;> omega
def nout' {α : Type} (a : Nat) (f : α → Int) (q : α × Nat × Nat) : Int × Int × Int := if q.2.2 = 0 then (f q.1, ((a + q.2.1 : Nat) : Int), 0) else (0, 0, (q.2.2 : Int))
def rout' {α : Type} (a : Nat) (f : α → Int) (q : α × Nat × Nat) : Int × Int × Int := if q.2.2 = 0 then (f q.1, ((a + q.2.1 : Nat) : Int), 0) else (0, (a : Int), (q.2.2 : Int))
theorem ne0_t {e : Nat} (h : e ≠ 0) : ((e : Int) != 0) = true := by simp; omega
theorem ne0_f : ((0 : Int) != 0) = false := rfl
theorem sgn_e {l : List Nat} {low high : Int} (h : (num l 0).2.2 ≠ 0) : sgn l low high = (0, 0, (num l 0).2.2) := by rw [sgn, if_pos h]
theorem cnt_e {l : List Nat} {most : Int} (h : (num l 0).2.2 ≠ 0) : cnt l most = (0, 0, (num l 0).2.2) := by rw [cnt, if_pos h]
theorem sgn_err {l : List Nat} {low high : Int} (h : (sgn l low high).2.2 ≠ 0) : (sgn l low high).1 = 0 ∧ (sgn l low high).2.1 = 0 := by
  unfold sgn at h ⊢
  split
  · exact ⟨rfl, rfl⟩
  · split
    · exact ⟨rfl, rfl⟩
    · simp_all
section
variable {s : ByteArray} (hs : s.size ≤ 1000000000000) {a : Nat} (ha : a ≤ s.size)
include hs ha
theorem wire_num' (b e : Nat) : wire_Reader__number_g (wR s b e) (a : Int) = some (nout a (num ((bl s).drop a) 0)) := wire_num (r := wR s b e) (show s.size ≤ _ by omega) ha
theorem wire_signed (b e : Nat) (low high : Int) : wire_Reader__signed_g (wR s b e) (a : Int) low high = some (nout' a id (sgn ((bl s).drop a) low high)) := by
  unfold wire_Reader__signed_g
  rw [wire_num' hs ha, bind_some']
  have h64 := num_64 (l := (bl s).drop a) fun _ => bl_drop_lt
  by_cases h : (num ((bl s).drop a) 0).2.2 = 0
  · have en : nout a (num ((bl s).drop a) 0) = ((((num ((bl s).drop a) 0).1 : Nat) : Int), ((a + (num ((bl s).drop a) 0).2.1 : Nat) : Int), 0) := by rw [nout, if_pos h]
    rw [en]
    dsimp only
    rw [ne0_f, cond_false]
    generalize hv : (num ((bl s).drop a) 0).1 = v at *
    have hu : (bif ((bAnd .u64 (v : Int) 1) == 1) then (bNot .i64 (W64 (bShr .u64 (v : Int) 1))) else (W64 (bShr .u64 (v : Int) 1)) : Int) = uz v := by
      rw [bAnd1 h64, bShr1, W64_eq (by omega) (by omega), bNot_i64 (by omega)]
      unfold uz
      by_cases h2 : v % 2 = 1
      · rw [if_pos h2, h2]
        rfl
      · rw [if_neg h2, show v % 2 = 0 by omega]
        rfl
    rw [letB_eq, hu]
    unfold sgn
    rw [if_neg (by omega), hv]
    by_cases h1 : uz v < low
    · rw [decide_eq_true h1, cond_true, if_pos (.inl h1)]
      rfl
    · rw [decide_eq_false h1, cond_false]
      by_cases h2 : high < uz v
      · rw [decide_eq_true h2, cond_true, if_pos (.inr h2)]
        rfl
      · rw [decide_eq_false h2, cond_false, if_neg (by omega)]
        rfl
  · have en : nout a (num ((bl s).drop a) 0) = (0, 0, (((num ((bl s).drop a) 0).2.2 : Nat) : Int)) := by rw [nout, if_neg h]
    rw [en]
    dsimp only
    rw [ne0_t h, cond_true, sgn_e h, nout', if_neg h]
theorem r05_sgn (low high : Int) : r05_signed_g s (a : Int) low high = some (rout' a id (sgn ((bl s).drop a) low high)) := by
  unfold r05_signed_g
  rw [r05_num (by omega) ha, bind_some']
  have h64 := num_64 (l := (bl s).drop a) fun _ => bl_drop_lt
  by_cases h : (num ((bl s).drop a) 0).2.2 = 0
  · have en : rout a (num ((bl s).drop a) 0) = ((((num ((bl s).drop a) 0).1 : Nat) : Int), ((a + (num ((bl s).drop a) 0).2.1 : Nat) : Int), 0) := by rw [rout, if_pos h]
    rw [en]
    dsimp only
    rw [ne0_f, cond_false]
    generalize hv : (num ((bl s).drop a) 0).1 = v at *
    have e1 : Int.tmod (v : Int) 2 = ((v % 2 : Nat) : Int) := by rw [Int.tmod_eq_emod_of_nonneg (by omega)]; rfl
    have e2 : WU64 (Int.tdiv (v : Int) 2) = ((v / 2 : Nat) : Int) := by
      rw [Int.tdiv_eq_ediv_of_nonneg (by omega), WU64_eq (by omega)]
      rfl
    have hu : (bif ((Int.tmod (v : Int) 2) == 1) then (W64 ((W64 (0 - (W64 (WU64 (Int.tdiv (v : Int) 2))))) - 1)) else (W64 (WU64 (Int.tdiv (v : Int) 2))) : Int) = uz v := by
      rw [e1, e2, W64_eq (n := ((v / 2 : Nat) : Int)) (by omega) (by omega), W64_eq (n := 0 - _) (by omega) (by omega), W64_eq (by omega) (by omega)]
      unfold uz
      by_cases h2 : v % 2 = 1
      · rw [if_pos h2, h2]
        show (0 - ((v / 2 : Nat) : Int)) - 1 = _
        omega
      · rw [if_neg h2, show v % 2 = 0 by omega]
        rfl
    rw [letB_eq, hu]
    unfold sgn
    rw [if_neg (by omega), hv]
    by_cases h1 : uz v < low
    · rw [decide_eq_true h1, cond_true, if_pos (.inl h1)]
      rfl
    · rw [decide_eq_false h1, cond_false]
      by_cases h2 : high < uz v
      · rw [decide_eq_true h2, cond_true, if_pos (.inr h2)]
        rfl
      · rw [decide_eq_false h2, cond_false, if_neg (by omega)]
        rfl
  · have en : rout a (num ((bl s).drop a) 0) = (0, (a : Int), (((num ((bl s).drop a) 0).2.2 : Nat) : Int)) := by rw [rout, if_neg h]
    rw [en]
    dsimp only
    rw [ne0_t h, cond_true, sgn_e h, rout', if_neg h]
theorem wire_counted (b e : Nat) {most : Int} (hm : I64 most) : wire_Reader__counted_g (wR s b e) (a : Int) most = some (nout' a (fun v => ((v : Nat) : Int)) (cnt ((bl s).drop a) most)) := by
  unfold I64 at hm
  unfold wire_Reader__counted_g
  rw [wire_num' hs ha, bind_some']
  by_cases h : (num ((bl s).drop a) 0).2.2 = 0
  · have en : nout a (num ((bl s).drop a) 0) = ((((num ((bl s).drop a) 0).1 : Nat) : Int), ((a + (num ((bl s).drop a) 0).2.1 : Nat) : Int), 0) := by rw [nout, if_pos h]
    rw [en]
    dsimp only
    rw [ne0_f, cond_false]
    unfold cnt
    rw [if_neg (by omega)]
    by_cases h1 : most < 0
    · rw [decide_eq_true h1, cond_true, if_pos (.inl h1)]
      rfl
    · rw [decide_eq_false h1, cond_false, WU64_eq (by omega)]
      by_cases h2 : most < (((num ((bl s).drop a) 0).1 : Nat) : Int)
      · rw [decide_eq_true h2, cond_true, if_pos (.inr h2)]
        rfl
      · rw [decide_eq_false h2, cond_false, if_neg (by omega)]
        rfl
  · have en : nout a (num ((bl s).drop a) 0) = (0, 0, (((num ((bl s).drop a) 0).2.2 : Nat) : Int)) := by rw [nout, if_neg h]
    rw [en]
    dsimp only
    rw [ne0_t h, cond_true, cnt_e h, nout', if_neg h]
theorem wire_rUint : wire_Reader__Uint_g (wR s a 0) = some (((num ((bl s).drop a) 0).1 : Int), wR s (nat_ a (num ((bl s).drop a) 0).2.1 (num ((bl s).drop a) 0).2.2) (num ((bl s).drop a) 0).2.2) := by
  unfold wire_Reader__Uint_g
  rw [show wire_Reader__stopped_g (wR s a 0) = false from rfl, cond_false, show (wR s a 0).at_ = (a : Int) from rfl, wire_num' hs ha, bind_some', letB_eq]
  unfold nout nat_ wire_Reader__done_g
  by_cases h : (num ((bl s).drop a) 0).2.2 = 0
  · rw [if_pos h, if_pos h, h]
    rfl
  · rw [if_neg h, if_neg h, (num_err h).1]
    dsimp only
    rw [ne0_t h]
    rfl
theorem r05_rUint : r05_ReadUint_g (qR s a 0) = some (qR s (nat_ a (num ((bl s).drop a) 0).2.1 (num ((bl s).drop a) 0).2.2) (num ((bl s).drop a) 0).2.2, ((num ((bl s).drop a) 0).1 : Int)) := by
  unfold r05_ReadUint_g
  rw [show ((qR s a 0).E != 0) = false from rfl, cond_false, show (qR s a 0).S_ = s from rfl, show (qR s a 0).At = (a : Int) from rfl, r05_num (by omega) ha, bind_some']
  unfold rout nat_ r05_fail_g
  by_cases h : (num ((bl s).drop a) 0).2.2 = 0
  · rw [if_pos h, if_pos h, h]
    rfl
  · rw [if_neg h, if_neg h, (num_err h).1]
    dsimp only
    rw [ne0_t h]
    rfl
theorem wire_rInt (low high : Int) : wire_Reader__Int_g (wR s a 0) low high = some ((sgn ((bl s).drop a) low high).1, wR s (nat_ a (sgn ((bl s).drop a) low high).2.1 (sgn ((bl s).drop a) low high).2.2) (sgn ((bl s).drop a) low high).2.2) := by
  unfold wire_Reader__Int_g
  rw [show wire_Reader__stopped_g (wR s a 0) = false from rfl, cond_false, show (wR s a 0).at_ = (a : Int) from rfl, wire_signed hs ha, bind_some', letB_eq]
  have he := sgn_err (l := (bl s).drop a) (low := low) (high := high)
  generalize sgn ((bl s).drop a) low high = q at *
  unfold nout' nat_ wire_Reader__done_g
  by_cases h : q.2.2 = 0
  · rw [if_pos h, if_pos h, h]
    rfl
  · rw [if_neg h, if_neg h, (he h).1]
    dsimp only
    rw [ne0_t h]
    rfl
theorem r05_rInt (low high : Int) : r05_ReadInt_g (qR s a 0) low high = some (qR s (nat_ a (sgn ((bl s).drop a) low high).2.1 (sgn ((bl s).drop a) low high).2.2) (sgn ((bl s).drop a) low high).2.2, (sgn ((bl s).drop a) low high).1) := by
  unfold r05_ReadInt_g
  rw [show ((qR s a 0).E != 0) = false from rfl, cond_false, show (qR s a 0).S_ = s from rfl, show (qR s a 0).At = (a : Int) from rfl, r05_sgn hs ha, bind_some']
  have he := sgn_err (l := (bl s).drop a) (low := low) (high := high)
  generalize sgn ((bl s).drop a) low high = q at *
  unfold rout' nat_ r05_fail_g
  by_cases h : q.2.2 = 0
  · rw [if_pos h, if_pos h, h]
    rfl
  · rw [if_neg h, if_neg h, (he h).1]
    dsimp only
    rw [ne0_t h]
    rfl
end

end Go.Proofs.Ytlkmdaojdongjaa
