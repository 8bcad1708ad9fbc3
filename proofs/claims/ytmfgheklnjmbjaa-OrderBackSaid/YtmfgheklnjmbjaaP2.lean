/- P2: what functions of the program compute (written by mod.py). -/
import Derived.Test.YtmfgheklnjmbjaaP1
import Derived.KernelRfl
namespace Go.Proofs.Ytmfgheklnjmbjaa
open Go Go.Ab
set_option linter.unusedSimpArgs false
set_option linter.unusedVariables false
set_option maxRecDepth 20000


/-! numbers as bytes -/
/-- The bytes of a string. -/
def bl (s : ByteArray) : List Nat := s.data.toList.map UInt8.toNat
def mkS (l : List Nat) : ByteArray := ⟨(l.map UInt8.ofNat).toArray⟩
theorem bl_lt {s : ByteArray} {c : Nat} (h : c ∈ bl s) : c < 256 := by
  obtain ⟨u, _, rfl⟩ := List.mem_map.1 h
  exact u.toNat_lt
theorem bl_mkS {l : List Nat} (h : ∀ c ∈ l, c < 256) : bl (mkS l) = l := by
  unfold bl mkS
  simp only [List.map_map]
  have : ∀ c ∈ l, (UInt8.toNat ∘ UInt8.ofNat) c = c := by
    intro c hc
    have := h c hc
    simp only [Function.comp, UInt8.toNat_ofNat']
    omega
  exact (List.map_congr_left this).trans (List.map_id' _)
theorem bl_inj {a b : ByteArray} (h : bl a = bl b) : a = b := by
  have h2 : a.data.toList = b.data.toList := List.map_inj_right (f := UInt8.toNat) (fun x y h => UInt8.toNat_inj.1 h) |>.1 h
  cases a
  cases b
  simp only at h2
  rw [Array.toList_inj] at h2
  rw [h2]
theorem mkS_bl (s : ByteArray) : mkS (bl s) = s := bl_inj (bl_mkS fun _ h => bl_lt h)
theorem bl_length (s : ByteArray) : (bl s).length = s.size := by simp [bl]
theorem bl_append (a b : ByteArray) : bl (a ++ b) = bl a ++ bl b := by
  unfold bl
  rw [ByteArray.data_append, Array.toList_append, List.map_append]
theorem byteAt_bl (s : ByteArray) (n : Nat) : byteAt s n = (((bl s)[n]?.getD 0 : Nat) : Int) := by
  unfold byteAt bl
  rw [List.getElem?_map, Array.getElem?_toList]
  cases s.data[n]? <;> rfl
theorem bytO_bl {s : ByteArray} {n : Nat} (h : n < (bl s).length) : bytO s (n : Int) = some (((bl s)[n] : Nat) : Int) := by
  rw [bytO_eq (by rw [← bl_length]; exact h), byteAt_bl]
  simp [h]
theorem bEq_dec (a b : ByteArray) : bEq a b = decide (a = b) := by
  rw [Bool.eq_iff_iff, bEq_iff, decide_eq_true_eq]
theorem bl_extract {s : ByteArray} {a b : Nat} : bl (s.extract a b) = ((bl s).drop a).take (b - a) := by
  unfold bl
  rw [ByteArray.data_extract, Array.toList_extract, List.map_take, List.map_drop]
theorem mkS_append (a b : List Nat) : mkS (a ++ b) = mkS a ++ mkS b := by
  apply ByteArray.ext
  rw [ByteArray.data_append]
  simp [mkS]
theorem mkS_size (l : List Nat) : (mkS l).size = l.length := by
  show (mkS l).data.size = _
  simp [mkS]
theorem b2s_mkS {l : List Int} : b2s l = mkS (l.map Int.toNat) := by
  rw [b2s_data]
  unfold mkS
  rw [List.map_map]
  rfl
/-- The encoding of a number. -/
def uv (n : Nat) : List Nat := if n < 128 then [n] else (128 + n % 128) :: uv (n / 128)
termination_by n
decreasing_by omega
theorem uv_big {n : Nat} (h : ¬ n < 128) : uv n = (128 + n % 128) :: uv (n / 128) := by
  rw [uv, if_neg h]
theorem uv_lt (n : Nat) : ∀ c ∈ uv n, c < 256 := by
  induction n using Nat.strongRecOn with
  | ind n ih =>
    rw [uv]
    split
    · intro c hc
      rw [List.mem_singleton] at hc
      omega
    · intro c hc
      rcases List.mem_cons.1 hc with rfl | hc
      · omega
      · exact ih (n / 128) (by omega) c hc
theorem uv_pos (n : Nat) : 1 ≤ (uv n).length := by
  rw [uv]
  split <;> simp
theorem uv_len {k : Nat} : ∀ {n : Nat}, n < 128 ^ (k + 1) → (uv n).length ≤ k + 1 := by
  induction k with
  | zero => intro n h; rw [uv, if_pos (by simpa using h)]; simp
  | succ k ih =>
    intro n h
    rw [uv]
    split
    · simp
    · have := ih (n := n / 128) (by rw [Nat.div_lt_iff_lt_mul (by omega)]; rw [Nat.pow_succ] at h; exact h)
      simp
      omega
theorem u64_of {n : Int} (h : 0 ≤ n ∧ n < 18446744073709551616) : ∃ m : Nat, n = m ∧ m < 18446744073709551616 := ⟨n.toNat, by omega, by omega⟩
theorem bOr_u8 {c : Nat} (h : c < 256) : bOr .u8 (c : Int) 128 = ((c % 128 + 128 : Nat) : Int) := by
  have : ∀ c : Fin 256, bOr .u8 ((c.1 : Nat) : Int) 128 = ((c.1 % 128 + 128 : Nat) : Int) := by decide +kernel
  exact this ⟨c, h⟩
theorem WU8_nat (n : Nat) : WU8 (n : Int) = ((n % 256 : Nat) : Int) := by
  unfold WU8
  simp [IntKind.wrap, IntKind.signed, IntKind.bits]
theorem WU64_nat (n : Nat) : WU64 (n : Int) = ((n % 18446744073709551616 : Nat) : Int) := by
  unfold WU64
  rw [wu64]
  omega
theorem WU64_eq {n : Int} (h : 0 ≤ n ∧ n < 18446744073709551616) : WU64 n = n := by
  unfold WU64
  rw [wu64]
  omega
theorem bShr7 (n : Nat) : bShr .u64 (n : Int) 7 = ((n / 128 : Nat) : Int) := by
  show Int.fdiv (n : Int) (2 ^ (min 7 64)) = _
  rw [Int.fdiv_eq_ediv_of_nonneg _ (by decide)]
  have : (2 : Int) ^ (min 7 64) = 128 := by decide
  rw [this]
  omega
/-- The bytes of a number but for the last, and the last. -/
theorem wire_uint_loop : ∀ (k n : Nat), n < 128 ^ (k + 1) → ∀ (acc : List Int), acc.length + k + 1 ≤ 100 → ∃ (m : Nat) (xs : List Int), loopO (fun q : Int × List Int => wire_Uint_s1 q.1 q.2) ((n : Int), acc) = some ((m : Int), xs) ∧ m < 128 ∧ xs.length ≤ acc.length + k ∧ xs ++ [(m : Int)] = acc ++ (uv n).map (fun c => ((c : Nat) : Int)) := by
  intro k
  induction k with
  | zero =>
    intro n hn acc _
    have hn : n < 128 := by simpa using hn
    refine ⟨n, acc, loopO_done ?_, hn, by omega, ?_⟩
    · simp only [wire_Uint_s1]
      rw [decide_eq_false (by omega)]
      rfl
    · rw [uv, if_pos hn]
      rfl
  | succ k ih =>
    intro n hn acc hacc
    by_cases h : n < 128
    · refine ⟨n, acc, loopO_done ?_, h, by omega, ?_⟩
      · simp only [wire_Uint_s1]
        rw [decide_eq_false (by omega)]
        rfl
      · rw [uv, if_pos h]
        rfl
    · have hs : wire_Uint_s1 (n : Int) acc = some (Sum.inl (((n / 128 : Nat) : Int), acc ++ [((n % 128 + 128 : Nat) : Int)])) := by
        unfold wire_Uint_s1
        rw [decide_eq_true (by omega), cond_true, WU8_nat, bOr_u8 (by omega), appO_eq (by simp; omega) (by simp; omega), bShr7]
        have : n % 256 % 128 = n % 128 := by omega
        rw [this]
        rfl
      obtain ⟨m, xs, h1, h2, h3, h4⟩ := ih (n / 128) (by rw [Nat.div_lt_iff_lt_mul (by omega)]; rw [Nat.pow_succ] at hn; exact hn) (acc ++ [((n % 128 + 128 : Nat) : Int)]) (by simp; omega)
      refine ⟨m, xs, ?_, h2, by rw [List.length_append] at h3; simp at h3; omega, ?_⟩
      · rw [loopO_next (x' := (((n / 128 : Nat) : Int), acc ++ [((n % 128 + 128 : Nat) : Int)])) hs]
        exact h1
      · rw [h4, uv_big h, List.map_cons, List.append_assoc]
        rw [show n % 128 + 128 = 128 + n % 128 by omega]
        rfl
theorem lt_128_10 {n : Nat} (h : n < 18446744073709551616) : n < 128 ^ (9 + 1) := by
  have : (128 : Nat) ^ (9 + 1) = 1180591620717411303424 := by decide
  omega
theorem wire_uint {n : Nat} (h : n < 18446744073709551616) : wire_Uint_g (n : Int) = some (mkS (uv n)) := by
  obtain ⟨m, xs, h1, h2, h3, h4⟩ := wire_uint_loop 9 n (lt_128_10 h) [] (by simp)
  unfold wire_Uint_g
  rw [h1, bind_some', WU8_nat, Nat.mod_eq_of_lt (by omega), appO_eq (by simp at h3 ⊢; omega) (by simp at h3 ⊢; omega), bind_some', h4, b2s_mkS]
  simp [List.map_map, Function.comp_def]
theorem r05_uint_r : ∀ (k n : Nat), n < 18446744073709551616 → n < 128 ^ (k + 1) → k ≤ 20 → r05_Uint_r (k + 1) (n : Int) = some (mkS (uv n))
  | 0, n, h64, hn, _ => by
    have hn : n < 128 := by simpa using hn
    rw [r05_Uint_r]
    dsimp only
    rw [decide_eq_true (by omega), cond_true, WU8_nat, Nat.mod_eq_of_lt (by omega), b2s_mkS, uv, if_pos hn]
    rfl
  | k + 1, n, h64, hn, hk => by
    rw [r05_Uint_r]
    dsimp only
    by_cases h : n < 128
    · rw [decide_eq_true (by omega), cond_true, WU8_nat, Nat.mod_eq_of_lt (by omega), b2s_mkS, uv, if_pos h]
      rfl
    · have e1 : Int.tmod (n : Int) 128 = ((n % 128 : Nat) : Int) := by rw [Int.tmod_eq_emod_of_nonneg (by omega)]; rfl
      have e2 : WU64 (Int.tdiv (n : Int) 128) = ((n / 128 : Nat) : Int) := by
        rw [Int.tdiv_eq_ediv_of_nonneg (by omega), WU64_eq (by omega)]
        rfl
      have hlen := uv_len (k := k + 1) hn
      have ih := r05_uint_r k (n / 128) (by omega) (by rw [Nat.div_lt_iff_lt_mul (by omega)]; rw [Nat.pow_succ] at hn; exact hn) (by omega)
      rw [decide_eq_false (by omega), cond_false, e1, WU64_eq (n := 128 + _) (by omega), show (128 : Int) + ((n % 128 : Nat) : Int) = ((128 + n % 128 : Nat) : Int) by omega, WU8_nat, Nat.mod_eq_of_lt (by omega), e2, ih, bind_some', b2s_mkS]
      have hl2 : (uv n).length = (uv (n / 128)).length + 1 := by rw [uv_big h]; rfl
      rw [catO_eq (by rw [mkS_size, mkS_size]; simp; omega), bind_some', ← mkS_append]
      rw [uv_big h]
      rfl
theorem r05_uint {n : Nat} (h : n < 18446744073709551616) : r05_Uint_g (n : Int) = some (mkS (uv n)) := r05_Uint_g_of _ (r05_uint_r 9 n h (lt_128_10 h) (by omega))
/-- Signed numbers as unsigned ones. -/
def zz (n : Int) : Nat := if 0 ≤ n then (2 * n).toNat else (-2 * n - 1).toNat
theorem zz_lt {n : Int} (h : I64 n) : zz n < 18446744073709551616 := by
  unfold I64 at h
  unfold zz
  split <;> omega
theorem r05_zigzag {n : Int} (h : I64 n) : r05_Zigzag_g n = ((zz n : Nat) : Int) := by
  unfold I64 at h
  unfold r05_Zigzag_g zz
  by_cases h0 : 0 ≤ n
  · rw [decide_eq_true h0, cond_true, WU64_eq (n := n) (by omega), WU64_eq (by omega), if_pos h0]
    omega
  · rw [decide_eq_false h0, cond_false, W64_eq (n := n + 1) (by omega) (by omega), W64_eq (n := 0 - _) (by omega) (by omega), WU64_eq (n := 0 - _) (by omega), WU64_eq (n := 2 * _) (by omega), WU64_eq (by omega), if_neg h0]
    omega
theorem bShl1 {n : Nat} (h : n < 9223372036854775808) : bShl .u64 (n : Int) 1 = ((2 * n : Nat) : Int) := by
  show IntKind.u64.wrap ((n : Int) * 2 ^ (min 1 64)) = _
  rw [wu64]
  have : (2 : Int) ^ (min 1 64) = 2 := by decide
  rw [this]
  omega
theorem bNot_u64 {n : Int} (h : -9223372036854775808 ≤ n ∧ n < 0) : bNot .u64 (WU64 n) = -n - 1 := by
  have hw : WU64 n = n + 18446744073709551616 := by
    unfold WU64
    rw [wu64]
    omega
  rw [hw]
  obtain ⟨m, hm⟩ : ∃ m : Nat, n + 18446744073709551616 = m := ⟨(n + 18446744073709551616).toNat, by omega⟩
  rw [hm]
  show IntKind.u64.wrap ((BitVec.ofInt 64 18446744073709551615 ^^^ BitVec.ofInt 64 (m : Int)).toNat : Int) = _
  have e : BitVec.ofInt 64 18446744073709551615 = BitVec.allOnes 64 := by decide
  rw [e, BitVec.allOnes_xor, BitVec.toNat_not, BitVec.ofInt_natCast, BitVec.toNat_ofNat, wu64]
  have : m % 2 ^ 64 = m := Nat.mod_eq_of_lt (by omega)
  rw [this]
  omega
theorem bOr1 {n : Nat} (h : n < 9223372036854775808) : bOr .u64 ((2 * n : Nat) : Int) 1 = ((2 * n + 1 : Nat) : Int) := by
  show IntKind.u64.wrap ((BitVec.ofInt 64 ((2 * n : Nat) : Int) ||| BitVec.ofInt 64 1).toNat : Int) = _
  rw [BitVec.toNat_or, BitVec.ofInt_natCast, BitVec.toNat_ofNat, show (BitVec.ofInt 64 1).toNat = 1 by decide, Nat.mod_eq_of_lt (by omega), wu64]
  have : 2 * n ||| 1 = 2 * n + 1 := by
    have := Nat.shiftLeft_add_eq_or_of_lt (i := 1) (b := 1) (by omega) n
    rw [Nat.shiftLeft_eq] at this
    rw [Nat.mul_comm] at this
    simpa using this.symm
  rw [this]
  omega
theorem wire_int {n : Int} (h : I64 n) : wire_Int_g n = some (mkS (uv (zz n))) := by
  have hz := zz_lt h
  have h' := h
  unfold I64 at h'
  unfold wire_Int_g
  by_cases h0 : n < 0
  · rw [decide_eq_true h0, cond_true, bNot_u64 (by omega)]
    have e : -n - 1 = (((-n - 1).toNat : Nat) : Int) := by omega
    rw [e, bShl1 (by omega), bOr1 (by omega), wire_uint (by omega), bind_some']
    congr 3
    unfold zz
    rw [if_neg (by omega)]
    omega
  · rw [decide_eq_false h0, cond_false, WU64_eq (by omega)]
    have e : n = ((n.toNat : Nat) : Int) := by omega
    have ez : zz n = 2 * n.toNat := by
      unfold zz
      rw [if_pos (by omega)]
      omega
    rw [ez, e, bShl1 (by omega), wire_uint (by omega), bind_some', Int.toNat_natCast]
theorem r05_int {n : Int} (h : I64 n) : r05_Int_g n = some (mkS (uv (zz n))) := by
  unfold r05_Int_g
  rw [r05_zigzag h, r05_uint (zz_lt h)]
  rfl


/-! texts and lists of numbers as bytes -/
def ub (n : Int) : List Nat := uv (zz n)
def il (l : List Int) : List Nat := l.flatMap ub
theorem uv_le {n : Nat} (h : n < 18446744073709551616) : (uv n).length ≤ 10 := uv_len (lt_128_10 h)
theorem ub_le {n : Int} (h : I64 n) : (ub n).length ≤ 10 := uv_le (zz_lt h)
theorem il_len : ∀ {l : List Int}, (∀ n ∈ l, I64 n) → (il l).length ≤ 10 * l.length
  | [], _ => by simp [il]
  | n :: l, h => by
    have h1 := ub_le (h n (List.mem_cons_self ..))
    have h2 := il_len (l := l) fun m hm => h m (List.mem_cons_of_mem _ hm)
    unfold il at h2 ⊢
    rw [List.flatMap_cons, List.length_append, List.length_cons]
    omega
theorem il_lt {l : List Int} {c : Nat} (h : c ∈ il l) : c < 256 := by
  obtain ⟨n, _, hc⟩ := List.mem_flatMap.1 h
  exact uv_lt _ c hc
theorem il_append (a b : List Int) : il (a ++ b) = il a ++ il b := by simp [il]
theorem il_one (n : Int) : il [n] = ub n := by simp [il]
def cI (l : List Nat) : List Int := l.map (fun c => ((c : Nat) : Int))
theorem cI_length (l : List Nat) : (cI l).length = l.length := by simp [cI]
theorem sbytes_bl (s : ByteArray) : sbytes s = cI (bl s) := by
  unfold sbytes cI bl
  rw [List.map_map]
  rfl
theorem b2s_cI (l : List Nat) : b2s (cI l) = mkS l := by
  rw [b2s_mkS]
  unfold cI
  simp [List.map_map, Function.comp_def]
theorem strO_cI {l : List Nat} (h : l ≠ []) (hc : ∀ c ∈ l, c < 256) : strO (cI l) = some (mkS l) := by
  unfold strO
  have h1 : (!(cI l).isEmpty) = true := by
    cases l with
    | nil => exact absurd rfl h
    | cons a l => rfl
  have h2 : (cI l).all (fun n => decide (0 ≤ n) && decide (n < 256)) = true := by
    rw [List.all_eq_true]
    intro n hn
    obtain ⟨c, hcl, rfl⟩ := List.mem_map.1 hn
    have := hc c hcl
    simp
    omega
  rw [h1, h2, b2s_cI]
  rfl
theorem ws_s {b : List Nat} {s : ByteArray} (h : b.length + s.size ≤ 100000000000000) : __strings_Builder__WriteString_s_g (cI b) s = some ((s.size : Int), cI (b ++ bl s)) := by
  unfold __strings_Builder__WriteString_s_g __strings_Builder__copyCheck_s_g
  rw [letB_eq, sbytes_bl, appO_eq (by rw [cI_length, cI_length, bl_length]; omega) (by rw [cI_length, cI_length, bl_length]; omega), bind_some']
  simp [cI]
theorem ws_n {s : ByteArray} (h : s.size ≤ 100000000000000) : __strings_Builder__WriteString_n_g [] s = some ((s.size : Int), cI (bl s)) := by
  unfold __strings_Builder__WriteString_n_g __strings_Builder__copyCheck_n_g
  rw [letB_eq, sbytes_bl, appO_eq (by rw [cI_length, bl_length]; simp; omega) (by rw [cI_length, bl_length]; simp; omega), bind_some']
  rfl
theorem sb_s {b : List Nat} (h0 : b ≠ []) (hc : ∀ c ∈ b, c < 256) (h : b.length ≤ 100000000000000) : __strings_Builder__String_s_g (cI b) = some (mkS b) := by
  unfold __strings_Builder__String_s_g
  have h1 : ((cI b).length != 0) = true := by
    rw [cI_length]
    cases b with
    | nil => exact absurd rfl h0
    | cons a l => rfl
  rw [h1, cond_true, Nat.ble_eq_true_of_le (by rw [cI_length]; omega), cond_true, strO_cI h0 hc, bind_some']
theorem bl_uv (n : Nat) : bl (mkS (uv n)) = uv n := bl_mkS (uv_lt n)
theorem bl_ub (n : Int) : bl (mkS (ub n)) = ub n := bl_uv _
/-- The bytes of a text. -/
def tb (s : ByteArray) : List Nat := uv s.size ++ bl s
def ib (l : List Int) : List Nat := uv l.length ++ il l
theorem tb_lt {s : ByteArray} {c : Nat} (h : c ∈ tb s) : c < 256 := by
  rcases List.mem_append.1 h with h | h
  · exact uv_lt _ _ h
  · exact bl_lt h
theorem ib_lt {l : List Int} {c : Nat} (h : c ∈ ib l) : c < 256 := by
  rcases List.mem_append.1 h with h | h
  · exact uv_lt _ _ h
  · exact il_lt h
theorem mkS_tb (s : ByteArray) : mkS (tb s) = mkS (uv s.size) ++ s := by
  unfold tb
  rw [mkS_append, mkS_bl]
theorem wire_text {s : ByteArray} (h : s.size ≤ 1000000000000) : wire_Text_g s = some (mkS (tb s)) := by
  have := uv_le (n := s.size) (by omega)
  unfold wire_Text_g
  rw [WU64_eq (by omega), wire_uint (by omega), bind_some', catO_eq (by rw [mkS_size]; omega), bind_some', mkS_tb]
theorem r05_text {s : ByteArray} (h : s.size ≤ 1000000000000) : r05_Text_g s = some (mkS (tb s)) := by
  have := uv_le (n := s.size) (by omega)
  unfold r05_Text_g
  rw [WU64_eq (by omega), r05_uint (by omega), bind_some', catO_eq (by rw [mkS_size]; omega), bind_some', mkS_tb]
theorem il_take {l : List Int} {j : Nat} (hj : j < l.length) : il (l.take (j + 1)) = il (l.take j) ++ ub l[j] := by
  rw [List.take_succ_eq_append_getElem hj, il_append, il_one]
theorem il_take_len {l : List Int} (hl : ∀ n ∈ l, I64 n) (j : Nat) : (il (l.take j)).length ≤ 10 * l.length := by
  have := il_len (l := l.take j) fun n hn => hl n (List.mem_of_mem_take hn)
  rw [List.length_take] at this
  omega
theorem ib_ne (l : List Int) : ib l ≠ [] := by
  unfold ib
  have := uv_pos l.length
  cases h : uv l.length with
  | nil => rw [h] at this; simp at this
  | cons a b => simp
theorem wire_ints {l : List Int} (h : l.length ≤ 1000000000000) (hl : ∀ n ∈ l, I64 n) : wire_Ints_g l = some (mkS (ib l)) := by
  have hu := uv_le (n := l.length) (by omega)
  unfold wire_Ints_g
  rw [WU64_eq (by omega), wire_uint (by omega), bind_some', ws_n (by rw [mkS_size]; omega), bind_some', bl_uv]
  have hloop : loopO (fun q : Int × List Int => wire_Ints_s1 l q.1 q.2) (0, cI (uv l.length)) = some (cI (ib l)) := by
    have := loopO_upto (step := fun q : Int × List Int => wire_Ints_s1 l q.1 q.2) (fun j => ((j : Int), cI (uv l.length ++ il (l.take j)))) l.length (y := cI (ib l)) (fun j hj => ?_) ?_
    · simpa [il] using this
    · have h1 := il_take_len hl j
      have h2 := ub_le (hl _ (List.getElem_mem hj))
      unfold wire_Ints_s1
      rw [lt_nat hj, cond_true, getI_at hj, bind_some', wire_int (hl _ (List.getElem_mem hj)), bind_some', ws_s (by rw [mkS_size, List.length_append]; unfold ub at h2; omega), bind_some', W64_succ (by omega)]
      dsimp only
      rw [il_take hj, bl_uv, List.append_assoc]
      rfl
    · unfold wire_Ints_s1
      rw [nlt_nat, cond_false, List.take_length]
      rfl
  rw [hloop, bind_some', sb_s (ib_ne l) (fun _ => ib_lt) (by unfold ib; rw [List.length_append]; have := il_len hl; omega), bind_some']
theorem r05_ints {l : List Int} (h : l.length ≤ 1000000000000) (hl : ∀ n ∈ l, I64 n) : r05_Ints_g l = some (mkS (ib l)) := by
  have hu := uv_le (n := l.length) (by omega)
  unfold r05_Ints_g
  rw [WU64_eq (by omega), r05_uint (by omega), bind_some']
  have hloop : loopO (fun q : ByteArray × Int => r05_Ints_s1 l q.1 q.2) (mkS (uv l.length), 0) = some (mkS (ib l)) := by
    have := loopO_upto (step := fun q : ByteArray × Int => r05_Ints_s1 l q.1 q.2) (fun j => (mkS (uv l.length ++ il (l.take j)), (j : Int))) l.length (y := mkS (ib l)) (fun j hj => ?_) ?_
    · simpa [il] using this
    · have h1 := il_take_len hl j
      have h2 := ub_le (hl _ (List.getElem_mem hj))
      unfold r05_Ints_s1
      rw [lt_nat hj, cond_true, getI_at hj, bind_some', r05_int (hl _ (List.getElem_mem hj)), bind_some', catO_eq (by rw [mkS_size, mkS_size, List.length_append]; unfold ub at h2; omega), bind_some', W64_succ (by omega)]
      dsimp only
      rw [il_take hj, ← mkS_append, List.append_assoc]
      rfl
    · unfold r05_Ints_s1
      rw [nlt_nat, cond_false, List.take_length]
      rfl
  rw [hloop, bind_some']
theorem bEq_self (s : ByteArray) : bEq s s = true := by rw [bEq_dec]; simp

end Go.Proofs.Ytmfgheklnjmbjaa
