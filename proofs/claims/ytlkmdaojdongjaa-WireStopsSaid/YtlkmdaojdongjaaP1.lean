/- P1: what functions of the program compute (written by mod.py). -/
import Derived.Test.YtlkmdaojdongjaaA1
import Derived.KernelRfl
namespace Go.Proofs.Ytlkmdaojdongjaa
open Go Go.Ab
set_option linter.unusedSimpArgs false
set_option linter.unusedVariables false
set_option maxRecDepth 20000

theorem W64_eq {n : Int} (h1 : -9223372036854775808 ≤ n) (h2 : n ≤ 9223372036854775807) : W64 n = n := w64_id' h1 h2
theorem W64_succ {k : Nat} (h : k < 9223372036854775807) : W64 ((k : Int) + 1) = ((k + 1 : Nat) : Int) := by
  rw [W64_eq (by omega) (by omega)]
  rfl
theorem bind_some' {α β : Type} (a : α) (f : α → Option β) : (some a).bind f = f a := rfl
section
variable {X Y : Type} {step : X → Option (X ⊕ Y)}
/-- A loop that runs k rounds. -/
theorem loopO_upto (st : Nat → X) (k : Nat) {y : Y} (h : ∀ j, j < k → step (st j) = some (.inl (st (j + 1)))) (he : step (st k) = some (.inr y)) : loopO step (st 0) = some y := by
  have : ∀ j, j ≤ k → loopO step (st (k - j)) = some y := by
    intro j
    induction j with
    | zero => intro _; exact loopO_done he
    | succ j ih =>
      intro hj
      rw [loopO_next (h (k - (j + 1)) (by omega)), show k - (j + 1) + 1 = k - j by omega]
      exact ih (by omega)
  simpa using this k (Nat.le_refl _)
/-- A loop over a list that ends at the first element with a property. -/
theorem loopO_find {α : Type} (l : List α) (st : Nat → X) (p : α → Bool) (out : α → Y) (fin : Y)
    (h1 : ∀ j (hj : j < l.length), p l[j] = false → step (st j) = some (.inl (st (j + 1)))) (h2 : ∀ j (hj : j < l.length), p l[j] = true → step (st j) = some (.inr (out l[j]))) (h3 : step (st l.length) = some (.inr fin)) :
    loopO step (st 0) = some ((l.find? p).elim fin out) := by
  cases hf : l.find? p with
  | none =>
    rw [List.find?_eq_none] at hf
    refine loopO_upto st l.length (fun j hj => h1 j hj ?_) h3
    have := hf l[j] (List.getElem_mem hj)
    simpa using this
  | some a =>
    rw [List.find?_eq_some_iff_getElem] at hf
    obtain ⟨hp, i, hi, hia, hlt⟩ := hf
    refine loopO_upto st i (fun j hj => h1 j (by omega) ?_) ?_
    · simpa using hlt j hj
    · subst hia
      exact h2 i hi hp
/-- A loop over a list that folds it; I holds of what is folded. -/
theorem loopO_foldI {α S : Type} (l : List α) (f : S → α → S) (s0 : S) (mk : S → Nat → X) (out : S → Y) (I : Nat → S → Prop) (h0 : I 0 s0) (hI : ∀ j s (hj : j < l.length), I j s → I (j + 1) (f s l[j]))
    (h : ∀ s j (hj : j < l.length), I j s → step (mk s j) = some (.inl (mk (f s l[j]) (j + 1)))) (he : ∀ s, I l.length s → step (mk s l.length) = some (.inr (out s))) : loopO step (mk s0 0) = some (out (l.foldl f s0)) := by
  have hF : ∀ j, j ≤ l.length → I j ((l.take j).foldl f s0) := by
    intro j
    induction j with
    | zero => intro _; simpa using h0
    | succ j ih =>
      intro hj
      rw [List.take_succ_eq_append_getElem (by omega), List.foldl_append]
      exact hI j _ (by omega) (ih (by omega))
  have := loopO_upto (step := step) (fun j => mk ((l.take j).foldl f s0) j) l.length (y := out (l.foldl f s0)) (fun j hj => by
    rw [h _ j hj (hF j (by omega)), List.take_succ_eq_append_getElem hj, List.foldl_append]
    rfl) (by
    have := he _ (hF l.length (Nat.le_refl _))
    rw [List.take_length] at this ⊢
    exact this)
  simpa using this
theorem loopO_fold {α S : Type} (l : List α) (f : S → α → S) (s0 : S) (mk : S → Nat → X) (out : S → Y)
    (h : ∀ s j (hj : j < l.length), step (mk s j) = some (.inl (mk (f s l[j]) (j + 1)))) (he : ∀ s, step (mk s l.length) = some (.inr (out s))) : loopO step (mk s0 0) = some (out (l.foldl f s0)) :=
  loopO_foldI l f s0 mk out (fun _ _ => True) trivial (fun _ _ _ _ => trivial) (fun s j hj _ => h s j hj) (fun s _ => he s)
end
theorem getI_at {α : Type} {l : List α} {j : Nat} (h : j < l.length) : getI l (j : Int) = some l[j] := getI_lt h
theorem lt_nat {j n : Nat} (h : j < n) : decide ((j : Int) < (n : Int)) = true := decide_eq_true (by omega)
theorem nlt_nat (n : Nat) : decide ((n : Int) < (n : Int)) = false := decide_eq_false (by omega)
theorem loopO_findN {X Y : Type} {step : X → Option (X ⊕ Y)} (n : Nat) (st : Nat → X) (p : Nat → Bool) (out : Nat → Y) (fin : Y)
    (h1 : ∀ j, j < n → p j = false → step (st j) = some (.inl (st (j + 1)))) (h2 : ∀ j, j < n → p j = true → step (st j) = some (.inr (out j))) (h3 : step (st n) = some (.inr fin)) :
    loopO step (st 0) = some (((List.range n).find? p).elim fin out) := by
  refine loopO_find (List.range n) st p out fin (fun j hj hp => ?_) (fun j hj hp => ?_) (by simpa using h3)
  · rw [List.length_range] at hj
    exact h1 j hj (by simpa using hp)
  · rw [List.length_range] at hj
    have := h2 j hj (by simpa using hp)
    simpa using this
/-- A loop that looks for the first bad one. -/
theorem loopO_allN {X β : Type} {step : X → Option (X ⊕ (β ⊕ Unit))} (n : Nat) (st : Nat → X) (p : Nat → Bool) (b : β)
    (h : ∀ j, j < n → step (st j) = bif p j then some (.inl (st (j + 1))) else some (.inr (.inl b))) (h3 : step (st n) = some (.inr (.inr ()))) :
    loopO step (st 0) = some (bif (List.range n).all p then .inr () else .inl b) := by
  rw [loopO_findN n st (fun j => !p j) (fun _ => .inl b) (.inr ()) (fun j hj hp => ?_) (fun j hj hp => ?_) h3]
  · cases hf : (List.range n).find? (fun j => !p j) with
    | none =>
      rw [List.find?_eq_none] at hf
      have : (List.range n).all p = true := by
        rw [List.all_eq_true]
        intro x hx
        simpa using hf x hx
      rw [this]
      rfl
    | some a =>
      have h1 := List.find?_some hf
      have h2 := List.mem_of_find?_eq_some hf
      have : (List.range n).all p = false := by
        rw [List.all_eq_false]
        exact ⟨a, h2, by simpa using h1⟩
      rw [this]
      rfl
  · have hp' : p j = true := by simpa using hp
    rw [h j hj, hp']
    rfl
  · have hp' : p j = false := by simpa using hp
    rw [h j hj, hp']
    rfl

/-! numbers as bytes -/
/-- The bytes of a string. -/
def bl (s : ByteArray) : List Nat := s.data.toList.map UInt8.toNat
def mkS (l : List Nat) : ByteArray := ⟨(l.map UInt8.ofNat).toArray⟩
theorem bl_lt {s : ByteArray} {c : Nat} (h : c ∈ bl s) : c < 256 := by
  obtain ⟨u, _, rfl⟩ := List.mem_map.1 h
  exact u.toNat_lt
theorem bl_mkS {l : List Nat} (h : ∀ c ∈ l, c < 256) : bl (mkS l) = l := by
  unfold bl mkS
  simp only [List.map_map]
  have : ∀ c ∈ l, (UInt8.toNat ∘ UInt8.ofNat) c = c := by
    intro c hc
    have := h c hc
    simp only [Function.comp, UInt8.toNat_ofNat']
    omega
  exact (List.map_congr_left this).trans (List.map_id' _)
theorem bl_inj {a b : ByteArray} (h : bl a = bl b) : a = b := by
  have h2 : a.data.toList = b.data.toList := List.map_inj_right (f := UInt8.toNat) (fun x y h => UInt8.toNat_inj.1 h) |>.1 h
  cases a
  cases b
  simp only at h2
  rw [Array.toList_inj] at h2
  rw [h2]
theorem mkS_bl (s : ByteArray) : mkS (bl s) = s := bl_inj (bl_mkS fun _ h => bl_lt h)
theorem bl_length (s : ByteArray) : (bl s).length = s.size := by simp [bl]
theorem bl_append (a b : ByteArray) : bl (a ++ b) = bl a ++ bl b := by
  unfold bl
  rw [ByteArray.data_append, Array.toList_append, List.map_append]
theorem byteAt_bl (s : ByteArray) (n : Nat) : byteAt s n = (((bl s)[n]?.getD 0 : Nat) : Int) := by
  unfold byteAt bl
  rw [List.getElem?_map, Array.getElem?_toList]
  cases s.data[n]? <;> rfl
theorem bytO_bl {s : ByteArray} {n : Nat} (h : n < (bl s).length) : bytO s (n : Int) = some (((bl s)[n] : Nat) : Int) := by
  rw [bytO_eq (by rw [← bl_length]; exact h), byteAt_bl]
  simp [h]
theorem bEq_dec (a b : ByteArray) : bEq a b = decide (a = b) := by
  rw [Bool.eq_iff_iff, bEq_iff, decide_eq_true_eq]
theorem bl_extract {s : ByteArray} {a b : Nat} : bl (s.extract a b) = ((bl s).drop a).take (b - a) := by
  unfold bl
  rw [ByteArray.data_extract, Array.toList_extract, List.map_take, List.map_drop]
theorem mkS_append (a b : List Nat) : mkS (a ++ b) = mkS a ++ mkS b := by
  apply ByteArray.ext
  rw [ByteArray.data_append]
  simp [mkS]
theorem mkS_size (l : List Nat) : (mkS l).size = l.length := by
  show (mkS l).data.size = _
  simp [mkS]
theorem b2s_mkS {l : List Int} : b2s l = mkS (l.map Int.toNat) := by
  rw [b2s_data]
  unfold mkS
  rw [List.map_map]
  rfl
/-- The encoding of a number. -/
def uv (n : Nat) : List Nat := if n < 128 then [n] else (128 + n % 128) :: uv (n / 128)
termination_by n
decreasing_by omega
theorem uv_big {n : Nat} (h : ¬ n < 128) : uv n = (128 + n % 128) :: uv (n / 128) := by
  rw [uv, if_neg h]
theorem uv_lt (n : Nat) : ∀ c ∈ uv n, c < 256 := by
  induction n using Nat.strongRecOn with
  | ind n ih =>
    rw [uv]
    split
    · intro c hc
      rw [List.mem_singleton] at hc
      omega
    · intro c hc
      rcases List.mem_cons.1 hc with rfl | hc
      · omega
      · exact ih (n / 128) (by omega) c hc
theorem uv_pos (n : Nat) : 1 ≤ (uv n).length := by
  rw [uv]
  split <;> simp
theorem uv_len {k : Nat} : ∀ {n : Nat}, n < 128 ^ (k + 1) → (uv n).length ≤ k + 1 := by
  induction k with
  | zero => intro n h; rw [uv, if_pos (by simpa using h)]; simp
  | succ k ih =>
    intro n h
    rw [uv]
    split
    · simp
    · have := ih (n := n / 128) (by rw [Nat.div_lt_iff_lt_mul (by omega)]; rw [Nat.pow_succ] at h; exact h)
      simp
      omega
theorem u64_of {n : Int} (h : 0 ≤ n ∧ n < 18446744073709551616) : ∃ m : Nat, n = m ∧ m < 18446744073709551616 := ⟨n.toNat, by omega, by omega⟩
theorem bOr_u8 {c : Nat} (h : c < 256) : bOr .u8 (c : Int) 128 = ((c % 128 + 128 : Nat) : Int) := by
  have : ∀ c : Fin 256, bOr .u8 ((c.1 : Nat) : Int) 128 = ((c.1 % 128 + 128 : Nat) : Int) := by decide +kernel
  exact this ⟨c, h⟩
theorem WU8_nat (n : Nat) : WU8 (n : Int) = ((n % 256 : Nat) : Int) := by
  unfold WU8
  simp [IntKind.wrap, IntKind.signed, IntKind.bits]
theorem WU64_nat (n : Nat) : WU64 (n : Int) = ((n % 18446744073709551616 : Nat) : Int) := by
  unfold WU64
  rw [wu64]
  omega
theorem WU64_eq {n : Int} (h : 0 ≤ n ∧ n < 18446744073709551616) : WU64 n = n := by
  unfold WU64
  rw [wu64]
  omega
theorem bShr7 (n : Nat) : bShr .u64 (n : Int) 7 = ((n / 128 : Nat) : Int) := by
  show Int.fdiv (n : Int) (2 ^ (min 7 64)) = _
  rw [Int.fdiv_eq_ediv_of_nonneg _ (by decide)]
  have : (2 : Int) ^ (min 7 64) = 128 := by decide
  rw [this]
  omega
/-- The bytes of a number but for the last, and the last. -/
theorem wire_uint_loop : ∀ (k n : Nat), n < 128 ^ (k + 1) → ∀ (acc : List Int), acc.length + k + 1 ≤ 100 → ∃ (m : Nat) (xs : List Int), loopO (fun q : Int × List Int => wire_Uint_s1 q.1 q.2) ((n : Int), acc) = some ((m : Int), xs) ∧ m < 128 ∧ xs.length ≤ acc.length + k ∧ xs ++ [(m : Int)] = acc ++ (uv n).map (fun c => ((c : Nat) : Int)) := by
  intro k
  induction k with
  | zero =>
    intro n hn acc _
    have hn : n < 128 := by simpa using hn
    refine ⟨n, acc, loopO_done ?_, hn, by omega, ?_⟩
    · simp only [wire_Uint_s1]
      rw [decide_eq_false (by omega)]
      rfl
    · rw [uv, if_pos hn]
      rfl
  | succ k ih =>
    intro n hn acc hacc
    by_cases h : n < 128
    · refine ⟨n, acc, loopO_done ?_, h, by omega, ?_⟩
      · simp only [wire_Uint_s1]
        rw [decide_eq_false (by omega)]
        rfl
      · rw [uv, if_pos h]
        rfl
    · have hs : wire_Uint_s1 (n : Int) acc = some (Sum.inl (((n / 128 : Nat) : Int), acc ++ [((n % 128 + 128 : Nat) : Int)])) := by
        unfold wire_Uint_s1
        rw [decide_eq_true (by omega), cond_true, WU8_nat, bOr_u8 (by omega), appO_eq (by simp; omega) (by simp; omega), bShr7]
        have : n % 256 % 128 = n % 128 := by omega
        rw [this]
        rfl
      obtain ⟨m, xs, h1, h2, h3, h4⟩ := ih (n / 128) (by rw [Nat.div_lt_iff_lt_mul (by omega)]; rw [Nat.pow_succ] at hn; exact hn) (acc ++ [((n % 128 + 128 : Nat) : Int)]) (by simp; omega)
      refine ⟨m, xs, ?_, h2, by rw [List.length_append] at h3; simp at h3; omega, ?_⟩
      · rw [loopO_next (x' := (((n / 128 : Nat) : Int), acc ++ [((n % 128 + 128 : Nat) : Int)])) hs]
        exact h1
      · rw [h4, uv_big h, List.map_cons, List.append_assoc]
        rw [show n % 128 + 128 = 128 + n % 128 by omega]
        rfl
theorem lt_128_10 {n : Nat} (h : n < 18446744073709551616) : n < 128 ^ (9 + 1) := by
  have : (128 : Nat) ^ (9 + 1) = 1180591620717411303424 := by decide
  omega
theorem wire_uint {n : Nat} (h : n < 18446744073709551616) : wire_Uint_g (n : Int) = some (mkS (uv n)) := by
  obtain ⟨m, xs, h1, h2, h3, h4⟩ := wire_uint_loop 9 n (lt_128_10 h) [] (by simp)
  unfold wire_Uint_g
  rw [h1, bind_some', WU8_nat, Nat.mod_eq_of_lt (by omega), appO_eq (by simp at h3 ⊢; omega) (by simp at h3 ⊢; omega), bind_some', h4, b2s_mkS]
  simp [List.map_map, Function.comp_def]
theorem r05_uint_r : ∀ (k n : Nat), n < 18446744073709551616 → n < 128 ^ (k + 1) → k ≤ 20 → r05_Uint_r (k + 1) (n : Int) = some (mkS (uv n))
  | 0, n, h64, hn, _ => by
    have hn : n < 128 := by simpa using hn
    rw [r05_Uint_r]
    dsimp only
    rw [decide_eq_true (by omega), cond_true, WU8_nat, Nat.mod_eq_of_lt (by omega), b2s_mkS, uv, if_pos hn]
    rfl
  | k + 1, n, h64, hn, hk => by
    rw [r05_Uint_r]
    dsimp only
    by_cases h : n < 128
    · rw [decide_eq_true (by omega), cond_true, WU8_nat, Nat.mod_eq_of_lt (by omega), b2s_mkS, uv, if_pos h]
      rfl
    · have e1 : Int.tmod (n : Int) 128 = ((n % 128 : Nat) : Int) := by rw [Int.tmod_eq_emod_of_nonneg (by omega)]; rfl
      have e2 : WU64 (Int.tdiv (n : Int) 128) = ((n / 128 : Nat) : Int) := by
        rw [Int.tdiv_eq_ediv_of_nonneg (by omega), WU64_eq (by omega)]
        rfl
      have hlen := uv_len (k := k + 1) hn
      have ih := r05_uint_r k (n / 128) (by omega) (by rw [Nat.div_lt_iff_lt_mul (by omega)]; rw [Nat.pow_succ] at hn; exact hn) (by omega)
      rw [decide_eq_false (by omega), cond_false, e1, WU64_eq (n := 128 + _) (by omega), show (128 : Int) + ((n % 128 : Nat) : Int) = ((128 + n % 128 : Nat) : Int) by omega, WU8_nat, Nat.mod_eq_of_lt (by omega), e2, ih, bind_some', b2s_mkS]
      have hl2 : (uv n).length = (uv (n / 128)).length + 1 := by rw [uv_big h]; rfl
      rw [catO_eq (by rw [mkS_size, mkS_size]; simp; omega), bind_some', ← mkS_append]
      rw [uv_big h]
      rfl
theorem r05_uint {n : Nat} (h : n < 18446744073709551616) : r05_Uint_g (n : Int) = some (mkS (uv n)) := r05_Uint_g_of _ (r05_uint_r 9 n h (lt_128_10 h) (by omega))
/-- Signed numbers as unsigned ones. -/
def zz (n : Int) : Nat := if 0 ≤ n then (2 * n).toNat else (-2 * n - 1).toNat
theorem zz_lt {n : Int} (h : I64 n) : zz n < 18446744073709551616 := by
  unfold I64 at h
  unfold zz
  split <;> omega
theorem r05_zigzag {n : Int} (h : I64 n) : r05_Zigzag_g n = ((zz n : Nat) : Int) := by
  unfold I64 at h
  unfold r05_Zigzag_g zz
  by_cases h0 : 0 ≤ n
  · rw [decide_eq_true h0, cond_true, WU64_eq (n := n) (by omega), WU64_eq (by omega), if_pos h0]
    omega
  · rw [decide_eq_false h0, cond_false, W64_eq (n := n + 1) (by omega) (by omega), W64_eq (n := 0 - _) (by omega) (by omega), WU64_eq (n := 0 - _) (by omega), WU64_eq (n := 2 * _) (by omega), WU64_eq (by omega), if_neg h0]
    omega
theorem bShl1 {n : Nat} (h : n < 9223372036854775808) : bShl .u64 (n : Int) 1 = ((2 * n : Nat) : Int) := by
  show IntKind.u64.wrap ((n : Int) * 2 ^ (min 1 64)) = _
  rw [wu64]
  have : (2 : Int) ^ (min 1 64) = 2 := by decide
  rw [this]
  omega
theorem bNot_u64 {n : Int} (h : -9223372036854775808 ≤ n ∧ n < 0) : bNot .u64 (WU64 n) = -n - 1 := by
  have hw : WU64 n = n + 18446744073709551616 := by
    unfold WU64
    rw [wu64]
    omega
  rw [hw]
  obtain ⟨m, hm⟩ : ∃ m : Nat, n + 18446744073709551616 = m := ⟨(n + 18446744073709551616).toNat, by omega⟩
  rw [hm]
  show IntKind.u64.wrap ((BitVec.ofInt 64 18446744073709551615 ^^^ BitVec.ofInt 64 (m : Int)).toNat : Int) = _
  have e : BitVec.ofInt 64 18446744073709551615 = BitVec.allOnes 64 := by decide
  rw [e, BitVec.allOnes_xor, BitVec.toNat_not, BitVec.ofInt_natCast, BitVec.toNat_ofNat, wu64]
  have : m % 2 ^ 64 = m := Nat.mod_eq_of_lt (by omega)
  rw [this]
  omega
theorem bOr1 {n : Nat} (h : n < 9223372036854775808) : bOr .u64 ((2 * n : Nat) : Int) 1 = ((2 * n + 1 : Nat) : Int) := by
  show IntKind.u64.wrap ((BitVec.ofInt 64 ((2 * n : Nat) : Int) ||| BitVec.ofInt 64 1).toNat : Int) = _
  rw [BitVec.toNat_or, BitVec.ofInt_natCast, BitVec.toNat_ofNat, show (BitVec.ofInt 64 1).toNat = 1 by decide, Nat.mod_eq_of_lt (by omega), wu64]
  have : 2 * n ||| 1 = 2 * n + 1 := by
    have := Nat.shiftLeft_add_eq_or_of_lt (i := 1) (b := 1) (by omega) n
    rw [Nat.shiftLeft_eq] at this
    rw [Nat.mul_comm] at this
    simpa using this.symm
  rw [this]
  omega
theorem wire_int {n : Int} (h : I64 n) : wire_Int_g n = some (mkS (uv (zz n))) := by
  have hz := zz_lt h
  have h' := h
  unfold I64 at h'
  unfold wire_Int_g
  by_cases h0 : n < 0
  · rw [decide_eq_true h0, cond_true, bNot_u64 (by omega)]
    have e : -n - 1 = (((-n - 1).toNat : Nat) : Int) := by omega
    rw [e, bShl1 (by omega), bOr1 (by omega), wire_uint (by omega), bind_some']
    congr 3
    unfold zz
    rw [if_neg (by omega)]
    omega
  · rw [decide_eq_false h0, cond_false, WU64_eq (by omega)]
    have e : n = ((n.toNat : Nat) : Int) := by omega
    have ez : zz n = 2 * n.toNat := by
      unfold zz
      rw [if_pos (by omega)]
      omega
    rw [ez, e, bShl1 (by omega), wire_uint (by omega), bind_some', Int.toNat_natCast]
theorem r05_int {n : Int} (h : I64 n) : r05_Int_g n = some (mkS (uv (zz n))) := by
  unfold r05_Int_g
  rw [r05_zigzag h, r05_uint (zz_lt h)]
  rfl
theorem aw05 : l05_awake_g = some true := l05_awake_le 300 true (by kernel_rfl)
theorem wireNumbers_true (n i : Int) (hn : 0 ≤ n ∧ n < 18446744073709551616) (hi : I64 i) : l05_WireNumbers_g n i = some true := by
  obtain ⟨m, rfl, hm⟩ := u64_of hn
  unfold l05_WireNumbers_g
  rw [wire_uint hm, r05_uint hm, wire_int hi, r05_int hi, aw05]
  simp only [bind_some', bEq_dec, decide_true, cond_true]

end Go.Proofs.Ytlkmdaojdongjaa
