/- B5: what functions of the program compute (written by mod.py). -/
import Derived.Test.YtpoehckffpbfiaaGreatXTB3
import Derived.KernelRfl
namespace Go.Proofs.YtpoehckffpbfiaaGreat
open Go Go.Ab
set_option linter.unusedSimpArgs false
set_option linter.unusedVariables false
set_option linter.unusedSectionVars false
set_option maxRecDepth 20000
set_option maxHeartbeats 1000000
def bl (s : ByteArray) : List Nat := s.data.toList.map UInt8.toNat
def mkS (l : List Nat) : ByteArray := ⟨(l.map UInt8.ofNat).toArray⟩
theorem bl_lt {s : ByteArray} {c : Nat} (h : c ∈ bl s) : c < 256 := by
 obtain ⟨u, _, rfl⟩ := List.mem_map.1 h
 exact u.toNat_lt
theorem bl_mkS {l : List Nat} (h : ∀ c ∈ l, c < 256) : bl (mkS l) = l := by
 unfold bl mkS
 simp only [List.map_map]
 have : ∀ c ∈ l, (UInt8.toNat ∘ UInt8.ofNat) c = c := by
  intro c hc
  have := h c hc
  simp only [Function.comp, UInt8.toNat_ofNat']
  omega
 exact (List.map_congr_left this).trans (List.map_id' _)
theorem bl_inj {a b : ByteArray} (h : bl a = bl b) : a = b := by
 have h2 : a.data.toList = b.data.toList := List.map_inj_right (f := UInt8.toNat) (fun x y h => UInt8.toNat_inj.1 h) |>.1 h
 cases a
 cases b
 simp only at h2
 rw [Array.toList_inj] at h2
 rw [h2]
theorem mkS_bl (s : ByteArray) : mkS (bl s) = s := bl_inj (bl_mkS fun _ h => bl_lt h)
theorem bl_length (s : ByteArray) : (bl s).length = s.size := by simp [bl]
theorem byteAt_bl (s : ByteArray) (n : Nat) : byteAt s n = (((bl s)[n]?.getD 0 : Nat) : Int) := by
 unfold byteAt bl
 rw [List.getElem?_map, Array.getElem?_toList]
 cases s.data[n]? <;> rfl
theorem bytO_bl {s : ByteArray} {n : Nat} (h : n < (bl s).length) : bytO s (n : Int) = some (((bl s)[n] : Nat) : Int) := by
 rw [bytO_eq (by rw [← bl_length]; exact h), byteAt_bl]
 simp [h]
theorem bl_extract {s : ByteArray} {a b : Nat} : bl (s.extract a b) = ((bl s).drop a).take (b - a) := by
 unfold bl
 rw [ByteArray.data_extract, Array.toList_extract, List.map_take, List.map_drop]
theorem mkS_append (a b : List Nat) : mkS (a ++ b) = mkS a ++ mkS b := by
 apply ByteArray.ext
 rw [ByteArray.data_append]
 simp [mkS]
theorem mkS_size (l : List Nat) : (mkS l).size = l.length := by
 show (mkS l).data.size = _
 simp [mkS]
theorem b2s_mkS {l : List Int} : b2s l = mkS (l.map Int.toNat) := by
 rw [b2s_data]
 unfold mkS
 rw [List.map_map]
 rfl
def uv (n : Nat) : List Nat := if n < 128 then [n] else (128 + n % 128) :: uv (n / 128)
termination_by n
decreasing_by omega
theorem uv_big {n : Nat} (h : ¬ n < 128) : uv n = (128 + n % 128) :: uv (n / 128) := by
 rw [uv, if_neg h]
theorem uv_lt (n : Nat) : ∀ c ∈ uv n, c < 256 := by
 induction n using Nat.strongRecOn with
 | ind n ih =>
  rw [uv]
  split
  ·intro c hc
   rw [List.mem_singleton] at hc
   omega
  ·intro c hc
   rcases List.mem_cons.1 hc with rfl | hc
   ·omega
   ·exact ih (n / 128) (by omega) c hc
theorem uv_pos (n : Nat) : 1 ≤ (uv n).length := by
 rw [uv]
 split <;> simp
theorem uv_len {k : Nat} : ∀ {n : Nat}, n < 128 ^ (k + 1) → (uv n).length ≤ k + 1 := by
 induction k with
 | zero => intro n h; rw [uv, if_pos (by simpa using h)]; simp
 | succ k ih =>
  intro n h
  rw [uv]
  split
  ·simp
  ·have := ih (n := n / 128) (by rw [Nat.div_lt_iff_lt_mul (by omega)]; rw [Nat.pow_succ] at h; exact h)
   simp
   omega
theorem bOr_u8 {c : Nat} (h : c < 256) : bOr .u8 (c : Int) 128 = ((c % 128 + 128 : Nat) : Int) := by
 have : ∀ c : Fin 256, bOr .u8 ((c.1 : Nat) : Int) 128 = ((c.1 % 128 + 128 : Nat) : Int) := by decide +kernel
 exact this ⟨c, h⟩
theorem WU8_nat (n : Nat) : WU8 (n : Int) = ((n % 256 : Nat) : Int) := by
 unfold WU8
 simp [IntKind.wrap, IntKind.signed, IntKind.bits]
theorem WU64_eq {n : Int} (h : 0 ≤ n ∧ n < 18446744073709551616) : WU64 n = n := by
 unfold WU64
 rw [wu64]
 omega
theorem bShr7 (n : Nat) : bShr .u64 (n : Int) 7 = ((n / 128 : Nat) : Int) := by
 show Int.fdiv (n : Int) (2 ^ (min 7 64)) = _
 rw [Int.fdiv_eq_ediv_of_nonneg _ (by decide)]
 have : (2 : Int) ^ (min 7 64) = 128 := by decide
 rw [this]
 omega
theorem wire_uint_loop : ∀ (k n : Nat), n < 128 ^ (k + 1) → ∀ (acc : List Int), acc.length + k + 1 ≤ 100 → ∃ (m : Nat) (xs : List Int), loopO (fun q : Int × List Int => wire_Uint_s1 q.1 q.2) ((n : Int), acc) = some ((m : Int), xs) ∧ m < 128 ∧ xs.length ≤ acc.length + k ∧ xs ++ [(m : Int)] = acc ++ (uv n).map (fun c => ((c : Nat) : Int)) := by
 intro k
 induction k with
 | zero =>
  intro n hn acc _
  have hn : n < 128 := by simpa using hn
  refine ⟨n, acc, loopO_done ?_, hn, by omega, ?_⟩
  ·simp only [wire_Uint_s1]
   rw [decide_eq_false (by omega)]
   rfl
  ·rw [uv, if_pos hn]
   rfl
 | succ k ih =>
  intro n hn acc hacc
  by_cases h : n < 128
  ·refine ⟨n, acc, loopO_done ?_, h, by omega, ?_⟩
   ·simp only [wire_Uint_s1]
    rw [decide_eq_false (by omega)]
    rfl
   ·rw [uv, if_pos h]
    rfl
  ·have hs : wire_Uint_s1 (n : Int) acc = some (Sum.inl (((n / 128 : Nat) : Int), acc ++ [((n % 128 + 128 : Nat) : Int)])) := by
    unfold wire_Uint_s1
    rw [decide_eq_true (by omega), cond_true, WU8_nat, bOr_u8 (by omega), appO_eq (by simp; omega) (by simp; omega), bShr7]
    have : n % 256 % 128 = n % 128 := by omega
    rw [this]
    rfl
   obtain ⟨m, xs, h1, h2, h3, h4⟩ := ih (n / 128) (by rw [Nat.div_lt_iff_lt_mul (by omega)]; rw [Nat.pow_succ] at hn; exact hn) (acc ++ [((n % 128 + 128 : Nat) : Int)]) (by simp; omega)
   refine ⟨m, xs, ?_, h2, by rw [List.length_append] at h3; simp at h3; omega, ?_⟩
   ·rw [loopO_next (x' := (((n / 128 : Nat) : Int), acc ++ [((n % 128 + 128 : Nat) : Int)])) hs]
    exact h1
   ·rw [h4, uv_big h, List.map_cons, List.append_assoc]
    rw [show n % 128 + 128 = 128 + n % 128 by omega]
    rfl
theorem lt_128_10 {n : Nat} (h : n < 18446744073709551616) : n < 128 ^ (9 + 1) := by
 have : (128 : Nat) ^ (9 + 1) = 1180591620717411303424 := by decide
 omega
theorem wire_uint {n : Nat} (h : n < 18446744073709551616) : wire_Uint_g (n : Int) = some (mkS (uv n)) := by
 obtain ⟨m, xs, h1, h2, h3, h4⟩ := wire_uint_loop 9 n (lt_128_10 h) [] (by simp)
 unfold wire_Uint_g
 rw [h1, bind_some', WU8_nat, Nat.mod_eq_of_lt (by omega), appO_eq (by simp at h3 ⊢; omega) (by simp at h3 ⊢; omega), bind_some', h4, b2s_mkS]
 simp [List.map_map, Function.comp_def]
theorem r05_uint_r : ∀ (k n : Nat), n < 18446744073709551616 → n < 128 ^ (k + 1) → k ≤ 20 → r05_Uint_r (k + 1) (n : Int) = some (mkS (uv n))
 | 0, n, h64, hn, _ => by
  have hn : n < 128 := by simpa using hn
  rw [r05_Uint_r]
  dsimp only
  rw [decide_eq_true (by omega), cond_true, WU8_nat, Nat.mod_eq_of_lt (by omega), b2s_mkS, uv, if_pos hn]
  rfl
 | k + 1, n, h64, hn, hk => by
  rw [r05_Uint_r]
  dsimp only
  by_cases h : n < 128
  ·rw [decide_eq_true (by omega), cond_true, WU8_nat, Nat.mod_eq_of_lt (by omega), b2s_mkS, uv, if_pos h]
   rfl
  ·have e1 : Int.tmod (n : Int) 128 = ((n % 128 : Nat) : Int) := by rw [Int.tmod_eq_emod_of_nonneg (by omega)]; rfl
   have e2 : WU64 (Int.tdiv (n : Int) 128) = ((n / 128 : Nat) : Int) := by
    rw [Int.tdiv_eq_ediv_of_nonneg (by omega), WU64_eq (by omega)]
    rfl
   have hlen := uv_len (k := k + 1) hn
   have ih := r05_uint_r k (n / 128) (by omega) (by rw [Nat.div_lt_iff_lt_mul (by omega)]; rw [Nat.pow_succ] at hn; exact hn) (by omega)
   rw [decide_eq_false (by omega), cond_false, e1, WU64_eq (n := 128 + _) (by omega), show (128 : Int) + ((n % 128 : Nat) : Int) = ((128 + n % 128 : Nat) : Int) by omega, WU8_nat, Nat.mod_eq_of_lt (by omega), e2, ih, bind_some', b2s_mkS]
   have hl2 : (uv n).length = (uv (n / 128)).length + 1 := by rw [uv_big h]; rfl
   rw [catO_eq (by rw [mkS_size, mkS_size]; simp; omega), bind_some', ← mkS_append]
   rw [uv_big h]
   rfl
theorem r05_uint {n : Nat} (h : n < 18446744073709551616) : r05_Uint_g (n : Int) = some (mkS (uv n)) := r05_Uint_g_of _ (r05_uint_r 9 n h (lt_128_10 h) (by omega))
def zz (n : Int) : Nat := if 0 ≤ n then (2 * n).toNat else (-2 * n - 1).toNat
theorem zz_lt {n : Int} (h : I64 n) : zz n < 18446744073709551616 := by
 unfold I64 at h
 unfold zz
 split <;> omega
theorem r05_zigzag {n : Int} (h : I64 n) : r05_Zigzag_g n = ((zz n : Nat) : Int) := by
 unfold I64 at h
 unfold r05_Zigzag_g zz
 by_cases h0 : 0 ≤ n
 ·rw [decide_eq_true h0, cond_true, WU64_eq (n := n) (by omega), WU64_eq (by omega), if_pos h0]
  omega
 ·rw [decide_eq_false h0, cond_false, W64_eq (n := n + 1) (by omega) (by omega), W64_eq (n := 0 - _) (by omega) (by omega), WU64_eq (n := 0 - _) (by omega), WU64_eq (n := 2 * _) (by omega), WU64_eq (by omega), if_neg h0]
  omega
theorem bShl1 {n : Nat} (h : n < 9223372036854775808) : bShl .u64 (n : Int) 1 = ((2 * n : Nat) : Int) := by
 show IntKind.u64.wrap ((n : Int) * 2 ^ (min 1 64)) = _
 rw [wu64]
 have : (2 : Int) ^ (min 1 64) = 2 := by decide
 rw [this]
 omega
theorem bNot_u64 {n : Int} (h : -9223372036854775808 ≤ n ∧ n < 0) : bNot .u64 (WU64 n) = -n - 1 := by
 have hw : WU64 n = n + 18446744073709551616 := by
  unfold WU64
  rw [wu64]
  omega
 rw [hw]
 obtain ⟨m, hm⟩ : ∃ m : Nat, n + 18446744073709551616 = m := ⟨(n + 18446744073709551616).toNat, by omega⟩
 rw [hm]
 show IntKind.u64.wrap ((BitVec.ofInt 64 18446744073709551615 ^^^ BitVec.ofInt 64 (m : Int)).toNat : Int) = _
 have e : BitVec.ofInt 64 18446744073709551615 = BitVec.allOnes 64 := by decide
 rw [e, BitVec.allOnes_xor, BitVec.toNat_not, BitVec.ofInt_natCast, BitVec.toNat_ofNat, wu64]
 have : m % 2 ^ 64 = m := Nat.mod_eq_of_lt (by omega)
 rw [this]
 omega
theorem bOr1 {n : Nat} (h : n < 9223372036854775808) : bOr .u64 ((2 * n : Nat) : Int) 1 = ((2 * n + 1 : Nat) : Int) := by
 show IntKind.u64.wrap ((BitVec.ofInt 64 ((2 * n : Nat) : Int) ||| BitVec.ofInt 64 1).toNat : Int) = _
 rw [BitVec.toNat_or, BitVec.ofInt_natCast, BitVec.toNat_ofNat, show (BitVec.ofInt 64 1).toNat = 1 by decide, Nat.mod_eq_of_lt (by omega), wu64]
 have : 2 * n ||| 1 = 2 * n + 1 := by
  have := Nat.shiftLeft_add_eq_or_of_lt (i := 1) (b := 1) (by omega) n
  rw [Nat.shiftLeft_eq] at this
  rw [Nat.mul_comm] at this
  simpa using this.symm
 rw [this]
 omega
theorem wire_int {n : Int} (h : I64 n) : wire_Int_g n = some (mkS (uv (zz n))) := by
 have hz := zz_lt h
 have h' := h
 unfold I64 at h'
 unfold wire_Int_g
 by_cases h0 : n < 0
 ·rw [decide_eq_true h0, cond_true, bNot_u64 (by omega)]
  have e : -n - 1 = (((-n - 1).toNat : Nat) : Int) := by omega
  rw [e, bShl1 (by omega), bOr1 (by omega), wire_uint (by omega), bind_some']
  congr 3
  unfold zz
  rw [if_neg (by omega)]
  omega
 ·rw [decide_eq_false h0, cond_false, WU64_eq (by omega)]
  have e : n = ((n.toNat : Nat) : Int) := by omega
  have ez : zz n = 2 * n.toNat := by
   unfold zz
   rw [if_pos (by omega)]
   omega
  rw [ez, e, bShl1 (by omega), wire_uint (by omega), bind_some', Int.toNat_natCast]
theorem r05_int {n : Int} (h : I64 n) : r05_Int_g n = some (mkS (uv (zz n))) := by
 unfold r05_Int_g
 rw [r05_zigzag h, r05_uint (zz_lt h)]
 rfl
def ub (n : Int) : List Nat := uv (zz n)
def il (l : List Int) : List Nat := l.flatMap ub
theorem uv_le {n : Nat} (h : n < 18446744073709551616) : (uv n).length ≤ 10 := uv_len (lt_128_10 h)
theorem ub_le {n : Int} (h : I64 n) : (ub n).length ≤ 10 := uv_le (zz_lt h)
theorem il_len : ∀ {l : List Int}, (∀ n ∈ l, I64 n) → (il l).length ≤ 10 * l.length
 | [], _ => by simp [il]
 | n :: l, h => by
  have h1 := ub_le (h n (List.mem_cons_self ..))
  have h2 := il_len (l := l) fun m hm => h m (List.mem_cons_of_mem _ hm)
  unfold il at h2 ⊢
  rw [List.flatMap_cons, List.length_append, List.length_cons]
  omega
theorem il_lt {l : List Int} {c : Nat} (h : c ∈ il l) : c < 256 := by
 obtain ⟨n, _, hc⟩ := List.mem_flatMap.1 h
 exact uv_lt _ c hc
theorem il_append (a b : List Int) : il (a ++ b) = il a ++ il b := by simp [il]
theorem il_one (n : Int) : il [n] = ub n := by simp [il]
def cI (l : List Nat) : List Int := l.map (fun c => ((c : Nat) : Int))
theorem cI_length (l : List Nat) : (cI l).length = l.length := by simp [cI]
theorem sbytes_bl (s : ByteArray) : sbytes s = cI (bl s) := by
 unfold sbytes cI bl
 rw [List.map_map]
 rfl
theorem b2s_cI (l : List Nat) : b2s (cI l) = mkS l := by
 rw [b2s_mkS]
 unfold cI
 simp [List.map_map, Function.comp_def]
theorem strO_cI {l : List Nat} (h : l ≠ []) (hc : ∀ c ∈ l, c < 256) : strO (cI l) = some (mkS l) := by
 unfold strO
 have h1 : (!(cI l).isEmpty) = true := by
  cases l with
  | nil => exact absurd rfl h
  | cons a l => rfl
 have h2 : (cI l).all (fun n => decide (0 ≤ n) && decide (n < 256)) = true := by
  rw [List.all_eq_true]
  intro n hn
  obtain ⟨c, hcl, rfl⟩ := List.mem_map.1 hn
  have := hc c hcl
  simp
  omega
 rw [h1, h2, b2s_cI]
 rfl
theorem ws_s {b : List Nat} {s : ByteArray} (h : b.length + s.size ≤ 100000000000000) : __strings_Builder__WriteString_s_g (cI b) s = some ((s.size : Int), cI (b ++ bl s)) := by
 unfold __strings_Builder__WriteString_s_g __strings_Builder__copyCheck_s_g
 rw [letB_eq, sbytes_bl, appO_eq (by rw [cI_length, cI_length, bl_length]; omega) (by rw [cI_length, cI_length, bl_length]; omega), bind_some']
 simp [cI]
theorem ws_n {s : ByteArray} (h : s.size ≤ 100000000000000) : __strings_Builder__WriteString_n_g [] s = some ((s.size : Int), cI (bl s)) := by
 unfold __strings_Builder__WriteString_n_g __strings_Builder__copyCheck_n_g
 rw [letB_eq, sbytes_bl, appO_eq (by rw [cI_length, bl_length]; simp; omega) (by rw [cI_length, bl_length]; simp; omega), bind_some']
 rfl
theorem sb_s {b : List Nat} (h0 : b ≠ []) (hc : ∀ c ∈ b, c < 256) (h : b.length ≤ 100000000000000) : __strings_Builder__String_s_g (cI b) = some (mkS b) := by
 unfold __strings_Builder__String_s_g
 have h1 : ((cI b).length != 0) = true := by
  rw [cI_length]
  cases b with
  | nil => exact absurd rfl h0
  | cons a l => rfl
 rw [h1, cond_true, Nat.ble_eq_true_of_le (by rw [cI_length]; omega), cond_true, strO_cI h0 hc, bind_some']
theorem bl_uv (n : Nat) : bl (mkS (uv n)) = uv n := bl_mkS (uv_lt n)
def tb (s : ByteArray) : List Nat := uv s.size ++ bl s
def ib (l : List Int) : List Nat := uv l.length ++ il l
theorem ib_lt {l : List Int} {c : Nat} (h : c ∈ ib l) : c < 256 := by
 rcases List.mem_append.1 h with h | h
 ·exact uv_lt _ _ h
 ·exact il_lt h
theorem mkS_tb (s : ByteArray) : mkS (tb s) = mkS (uv s.size) ++ s := by
 unfold tb
 rw [mkS_append, mkS_bl]
theorem wire_text {s : ByteArray} (h : s.size ≤ 1000000000000) : wire_Text_g s = some (mkS (tb s)) := by
 have := uv_le (n := s.size) (by omega)
 unfold wire_Text_g
 rw [WU64_eq (by omega), wire_uint (by omega), bind_some', catO_eq (by rw [mkS_size]; omega), bind_some', mkS_tb]
theorem r05_text {s : ByteArray} (h : s.size ≤ 1000000000000) : r05_Text_g s = some (mkS (tb s)) := by
 have := uv_le (n := s.size) (by omega)
 unfold r05_Text_g
 rw [WU64_eq (by omega), r05_uint (by omega), bind_some', catO_eq (by rw [mkS_size]; omega), bind_some', mkS_tb]
theorem il_take {l : List Int} {j : Nat} (hj : j < l.length) : il (l.take (j + 1)) = il (l.take j) ++ ub l[j] := by
 rw [List.take_succ_eq_append_getElem hj, il_append, il_one]
theorem il_take_len {l : List Int} (hl : ∀ n ∈ l, I64 n) (j : Nat) : (il (l.take j)).length ≤ 10 * l.length := by
 have := il_len (l := l.take j) fun n hn => hl n (List.mem_of_mem_take hn)
 rw [List.length_take] at this
 omega
theorem ib_ne (l : List Int) : ib l ≠ [] := by
 unfold ib
 have := uv_pos l.length
 cases h : uv l.length with
 | nil => rw [h] at this; simp at this
 | cons a b => simp
theorem wire_ints {l : List Int} (h : l.length ≤ 1000000000000) (hl : ∀ n ∈ l, I64 n) : wire_Ints_g l = some (mkS (ib l)) := by
 have hu := uv_le (n := l.length) (by omega)
 unfold wire_Ints_g
 rw [WU64_eq (by omega), wire_uint (by omega), bind_some', ws_n (by rw [mkS_size]; omega), bind_some', bl_uv]
 have hloop : loopO (fun q : Int × List Int => wire_Ints_s1 l q.1 q.2) (0, cI (uv l.length)) = some (cI (ib l)) := by
  have := loopO_upto (step := fun q : Int × List Int => wire_Ints_s1 l q.1 q.2) (fun j => ((j : Int), cI (uv l.length ++ il (l.take j)))) l.length (y := cI (ib l)) (fun j hj => ?_) ?_
  ·simpa [il] using this
  ·have h1 := il_take_len hl j
   have h2 := ub_le (hl _ (List.getElem_mem hj))
   unfold wire_Ints_s1
   rw [lt_nat hj, cond_true, getI_at hj, bind_some', wire_int (hl _ (List.getElem_mem hj)), bind_some', ws_s (by rw [mkS_size, List.length_append]; unfold ub at h2; omega), bind_some', W64_succ (by omega)]
   dsimp only
   rw [il_take hj, bl_uv, List.append_assoc]
   rfl
  ·unfold wire_Ints_s1
   rw [nlt_nat, cond_false, List.take_length]
   rfl
 rw [hloop, bind_some', sb_s (ib_ne l) (fun _ => ib_lt) (by unfold ib; rw [List.length_append]; have := il_len hl; omega), bind_some']
theorem r05_ints {l : List Int} (h : l.length ≤ 1000000000000) (hl : ∀ n ∈ l, I64 n) : r05_Ints_g l = some (mkS (ib l)) := by
 have hu := uv_le (n := l.length) (by omega)
 unfold r05_Ints_g
 rw [WU64_eq (by omega), r05_uint (by omega), bind_some']
 have hloop : loopO (fun q : ByteArray × Int => r05_Ints_s1 l q.1 q.2) (mkS (uv l.length), 0) = some (mkS (ib l)) := by
  have := loopO_upto (step := fun q : ByteArray × Int => r05_Ints_s1 l q.1 q.2) (fun j => (mkS (uv l.length ++ il (l.take j)), (j : Int))) l.length (y := mkS (ib l)) (fun j hj => ?_) ?_
  ·simpa [il] using this
  ·have h1 := il_take_len hl j
   have h2 := ub_le (hl _ (List.getElem_mem hj))
   unfold r05_Ints_s1
   rw [lt_nat hj, cond_true, getI_at hj, bind_some', r05_int (hl _ (List.getElem_mem hj)), bind_some', catO_eq (by rw [mkS_size, mkS_size, List.length_append]; unfold ub at h2; omega), bind_some', W64_succ (by omega)]
   dsimp only
   rw [il_take hj, ← mkS_append, List.append_assoc]
   rfl
  ·unfold r05_Ints_s1
   rw [nlt_nat, cond_false, List.take_length]
   rfl
 rw [hloop, bind_some']
theorem bEq_self (s : ByteArray) : bEq s s = true := by rw [bEq_dec]; simp
def num : List Nat → Nat → Nat × Nat × Nat
 | [], _ => (0, 0, 3)
 | c :: l, i => if i = 9 ∧ 1 < c then (0, 0, 5) else if c < 128 then (if c = 0 ∧ 0 < i then (0, 0, 5) else (c, 1, 0)) else (if (num l (i + 1)).2.2 = 0 then (c - 128 + 128 * (num l (i + 1)).1, (num l (i + 1)).2.1 + 1, 0) else (0, 0, (num l (i + 1)).2.2))
theorem num_err : ∀ {l : List Nat} {i : Nat}, (num l i).2.2 ≠ 0 → (num l i).1 = 0 ∧ (num l i).2.1 = 0 ∧ ((num l i).2.2 = 3 ∨ (num l i).2.2 = 5)
 | [], i, _ => by simp [num]
 | c :: l, i, h => by
  have ih := @num_err l (i + 1)
  rw [num] at h ⊢
  split
  ·simp
  ·split
   ·split
    ·simp
    ·simp_all
   ·split
    ·simp_all
    ·rename_i h4
     exact ⟨rfl, rfl, (ih h4).2.2⟩
theorem num_lt : ∀ {l : List Nat} {i : Nat}, i ≤ 9 → (∀ c ∈ l, c < 256) → (num l i).1 < 2 * 128 ^ (9 - i)
 | [], i, _, _ => by
  rw [num]
  exact Nat.mul_pos (by omega) (Nat.pow_pos (by omega))
 | c :: l, i, hi, hl => by
  have hp : 0 < 2 * 128 ^ (9 - i) := Nat.mul_pos (by omega) (Nat.pow_pos (by omega))
  rw [num]
  split
  ·exact hp
  ·rename_i h1
   by_cases h9 : i = 9
   ·subst h9
    have hc : c ≤ 1 := by
     rcases Nat.lt_or_ge 1 c with h | h
     ·exact absurd ⟨rfl, h⟩ h1
     ·exact h
    rw [if_pos (by omega)]
    split
    ·exact hp
    ·simp
     omega
   ·have ih := @num_lt l (i + 1) (by omega) (fun c hc => hl c (List.mem_cons_of_mem _ hc))
    have he : 128 ^ (9 - i) = 128 * 128 ^ (9 - (i + 1)) := by
     rw [show 9 - i = 9 - (i + 1) + 1 by omega, Nat.pow_succ, Nat.mul_comm]
    have hp2 : 0 < 128 ^ (9 - (i + 1)) := Nat.pow_pos (by omega)
    have hc := hl c (List.mem_cons_self ..)
    split
    ·split
     ·exact hp
     ·dsimp only
      omega
    ·split
     ·dsimp only
      omega
     ·exact hp
theorem num_pos : ∀ {l : List Nat} {i : Nat}, (num l i).2.2 = 0 → 1 ≤ (num l i).2.1 ∧ (num l i).2.1 ≤ l.length
 | [], i, h => by simp [num] at h
 | c :: l, i, h => by
  have ih := @num_pos l (i + 1)
  rw [num] at h ⊢
  split
  ·simp_all
  ·split
   ·split
    ·simp_all
    ·simp
   ·split
    ·rename_i h4
     have := ih h4
     simp
     omega
    ·simp_all
theorem pow7 (i : Nat) : (2 : Int) ^ (7 * i) = ((128 ^ i : Nat) : Int) := by
 rw [Int.natCast_pow, Int.pow_mul]
 rfl
theorem pow128_le {i : Nat} (h : i ≤ 9) : 128 ^ i ≤ 9223372036854775808 := by
 have := Nat.pow_le_pow_right (n := 128) (by omega) h
 have e : (128 : Nat) ^ 9 = 9223372036854775808 := by decide
 omega
theorem bShl_7 {m i : Nat} (hi : i ≤ 9) (h : m * 128 ^ i < 18446744073709551616) : bShl .u64 (m : Int) ((7 * i : Nat) : Int) = ((m * 128 ^ i : Nat) : Int) := by
 show IntKind.u64.wrap ((m : Int) * 2 ^ (min (7 * i) 64)) = _
 rw [Nat.min_eq_left (by omega), pow7, ← Int.natCast_mul]
 exact WU64_eq (by omega)
theorem bOr_add {n m i : Nat} (hn : n < 128 ^ i) (hi : i ≤ 9) (h : n + m * 128 ^ i < 18446744073709551616) : bOr .u64 (n : Int) ((m * 128 ^ i : Nat) : Int) = ((n + m * 128 ^ i : Nat) : Int) := by
 show IntKind.u64.wrap ((BitVec.ofInt 64 (n : Int) ||| BitVec.ofInt 64 ((m * 128 ^ i : Nat) : Int)).toNat : Int) = _
 have e7 : 128 ^ i = 2 ^ (7 * i) := by rw [Nat.pow_mul]
 rw [BitVec.toNat_or, BitVec.ofInt_natCast, BitVec.ofInt_natCast, BitVec.toNat_ofNat, BitVec.toNat_ofNat, Nat.mod_eq_of_lt (by omega), Nat.mod_eq_of_lt (by omega)]
 have := Nat.shiftLeft_add_eq_or_of_lt (i := 7 * i) (b := n) (by rw [← e7]; exact hn) m
 rw [Nat.shiftLeft_eq, ← e7] at this
 rw [Nat.or_comm, ← this, Nat.add_comm]
 exact WU64_eq (by omega)
theorem bAnd_127 {c : Nat} (h : c < 256) : bAnd .u8 (c : Int) 127 = ((c % 128 : Nat) : Int) := by
 have : ∀ c : Fin 256, bAnd .u8 ((c.1 : Nat) : Int) 127 = ((c.1 % 128 : Nat) : Int) := by decide +kernel
 exact this ⟨c, h⟩
def nout (at_ : Nat) (q : Nat × Nat × Nat) : Int × Int × Int := if q.2.2 = 0 then ((q.1 : Int), ((at_ + q.2.1 : Nat) : Int), 0) else (0, 0, (q.2.2 : Int))
def rout (at_ : Nat) (q : Nat × Nat × Nat) : Int × Int × Int := if q.2.2 = 0 then ((q.1 : Int), ((at_ + q.2.1 : Nat) : Int), 0) else (0, (at_ : Int), (q.2.2 : Int))
def numUp (n i : Nat) (q : Nat × Nat × Nat) : Nat × Nat × Nat := if q.2.2 = 0 then (n + 128 ^ i * q.1, i + q.2.1, 0) else q
theorem numUp_step {c n i : Nat} {l : List Nat} (h9 : ¬ (i = 9 ∧ 1 < c)) (h : ¬ c < 128) (hc : c < 256) : numUp n i (num (c :: l) i) = numUp (n + c % 128 * 128 ^ i) (i + 1) (num l (i + 1)) := by
 have e := num_err (l := l) (i := i + 1)
 rw [num, if_neg h9, if_neg h]
 unfold numUp
 by_cases h0 : (num l (i + 1)).2.2 = 0
 ·rw [if_pos h0, if_pos rfl, if_pos h0]
  dsimp only
  have hm : c % 128 = c - 128 := by omega
  rw [hm, Nat.pow_succ]
  refine Prod.ext ?_ (Prod.ext ?_ rfl)
  ·show n + 128 ^ i * (c - 128 + 128 * (num l (i + 1)).1) = n + (c - 128) * 128 ^ i + 128 ^ i * 128 * (num l (i + 1)).1
   rw [Nat.mul_add, Nat.mul_comm (c - 128), ← Nat.mul_assoc]
   omega
  ·show i + ((num l (i + 1)).2.1 + 1) = i + 1 + (num l (i + 1)).2.1
   omega
 ·rw [if_neg h0]
  dsimp only
  rw [if_neg h0, if_neg h0]
  obtain ⟨e1, e2, _⟩ := e h0
  exact Prod.ext e1.symm (Prod.ext e2.symm rfl)
theorem wire_num_loop (r : Twire_Reader) (hs : r.s.size ≤ 4611686018427387904) (at_ : Nat) : ∀ (l : List Nat) (i n : Nat), l = (bl r.s).drop (at_ + i) → at_ + i ≤ r.s.size → i ≤ 9 → n < 128 ^ i →
  loopO (fun q : Int × Int => wire_Reader__number_s1 r (at_ : Int) q.1 q.2) ((n : Int), (i : Int)) = some (nout at_ (numUp n i (num l i)))
 | [], i, n, hl, hat, hi, hn => by
  refine loopO_done ?_
  have hlen : (bl r.s).length ≤ at_ + i := List.drop_eq_nil_iff.1 hl.symm
  rw [bl_length] at hlen
  simp only [wire_Reader__number_s1]
  rw [W64_eq (by omega) (by omega), decide_eq_true (by omega)]
  rfl
 | c :: l, i, n, hl, hat, hi, hn => by
  have hlt : at_ + i < (bl r.s).length := by
   rcases Nat.lt_or_ge (at_ + i) (bl r.s).length with h | h
   ·exact h
   ·rw [List.drop_eq_nil_of_le h] at hl
    exact absurd hl (by simp)
  have hcl := List.drop_eq_getElem_cons hlt
  rw [← hl] at hcl
  obtain ⟨hc, hl'⟩ := List.cons.inj hcl
  have hc256 : c < 256 := by rw [hc]; exact bl_lt (List.getElem_mem hlt)
  have hsz := hlt
  rw [bl_length] at hsz
  have hb : bytO r.s ((at_ : Int) + (i : Int)) = some (c : Int) := by
   rw [hc]
   exact bytO_bl hlt
  have h7 : W64 (7 * (i : Int)) = ((7 * i : Nat) : Int) := by rw [W64_eq (by omega) (by omega)]; omega
  have hp := pow128_le hi
  by_cases h9 : i = 9 ∧ 1 < c
  ·refine loopO_done ?_
   simp only [wire_Reader__number_s1]
   rw [W64_eq (by omega) (by omega), decide_eq_false (by omega), cond_false, hb, bind_some', show ((i : Int) == 9) = true by simp; omega, cond_true, decide_eq_true (by omega), cond_true, num, if_pos h9]
   rfl
  ·have hmul : n + c % 128 * 128 ^ i < 18446744073709551616 := by
    by_cases h : i = 9
    ·have : c % 128 ≤ 1 := by omega
     have := Nat.mul_le_mul_right (128 ^ i) this
     omega
    ·have hp8 := Nat.pow_le_pow_right (n := 128) (i := i) (j := 8) (by omega) (by omega)
     have e8 : (128 : Nat) ^ 8 = 72057594037927936 := by decide
     have : c % 128 ≤ 127 := by omega
     have := Nat.mul_le_mul_right (128 ^ i) this
     omega
   have hval : bOr .u64 (n : Int) (bShl .u64 (WU64 (bAnd .u8 (c : Int) 127)) ((7 * i : Nat) : Int)) = ((n + c % 128 * 128 ^ i : Nat) : Int) := by
    rw [bAnd_127 hc256, WU64_eq (n := ((c % 128 : Nat) : Int)) (by omega), bShl_7 hi (by omega), bOr_add hn hi hmul]
   have hstep : wire_Reader__number_s1 r (at_ : Int) (n : Int) (i : Int) = bif decide (128 ≤ (c : Int)) then some (.inl (((n + c % 128 * 128 ^ i : Nat) : Int), ((i + 1 : Nat) : Int))) else (bif ((c : Int) == 0) then (bif decide (0 < (i : Int)) then some (.inr (0, 0, 5)) else some (.inr (((n + c % 128 * 128 ^ i : Nat) : Int), ((at_ + i + 1 : Nat) : Int), 0))) else some (.inr (((n + c % 128 * 128 ^ i : Nat) : Int), ((at_ + i + 1 : Nat) : Int), 0))) := by
    unfold wire_Reader__number_s1
    have hm : (bif ((i : Int) == 9) then (bif (decide (1 < (c : Int))) then some (Sum.inl (Sum.inr (0, 0, 5))) else some (Sum.inr ())) else some (Sum.inr ()) : Option (((Int × Int) ⊕ (Int × Int × Int)) ⊕ Unit)) = some (.inr ()) := by
     by_cases h : i = 9
     ·rw [show ((i : Int) == 9) = true by simp; omega, cond_true, decide_eq_false (by omega)]
      rfl
     ·rw [show ((i : Int) == 9) = false by simp; omega]
      rfl
    rw [W64_eq (n := (at_ : Int) + i) (by omega) (by omega), decide_eq_false (by omega), cond_false, hb, bind_some', hm, bind_some', h7, W64_succ (by omega), W64_eq (n := (at_ : Int) + i + 1) (by omega) (by omega)]
    rw [Sum.elim_inr, decide_eq_true (p := (0 : Int) ≤ _) (by omega), cond_true, hval, show (at_ : Int) + i + 1 = ((at_ + i + 1 : Nat) : Int) by omega]
   by_cases h128 : c < 128
   ·refine loopO_done ?_
    dsimp only
    rw [hstep, decide_eq_false (by omega), cond_false]
    rw [num, if_neg h9, if_pos h128]
    by_cases h0 : c = 0 ∧ 0 < i
    ·rw [if_pos h0, show ((c : Int) == 0) = true by simp; omega, cond_true, decide_eq_true (by omega)]
     rfl
    ·rw [if_neg h0]
     have e1 : numUp n i (c, 1, 0) = (n + c % 128 * 128 ^ i, i + 1, 0) := by
      unfold numUp
      rw [if_pos rfl, Nat.mod_eq_of_lt h128, Nat.mul_comm]
     rw [e1]
     by_cases hc0 : c = 0
     ·rw [show ((c : Int) == 0) = true by simp; omega, cond_true, decide_eq_false (by omega)]
      rfl
     ·rw [show ((c : Int) == 0) = false by simp; omega]
      rfl
   ·have hi9 : i < 9 := by omega
    rw [loopO_next (x' := (((n + c % 128 * 128 ^ i : Nat) : Int), ((i + 1 : Nat) : Int))) (by dsimp only; rw [hstep, decide_eq_true (by omega)]; rfl)]
    rw [wire_num_loop r hs at_ l (i + 1) (n + c % 128 * 128 ^ i) (by rw [hl']; congr 1) (by omega) (by omega) (by
     have : c % 128 ≤ 127 := by omega
     have := Nat.mul_le_mul_right (128 ^ i) this
     rw [Nat.pow_succ]
     omega)]
    rw [numUp_step h9 h128 hc256]
theorem numUp_zero (q : Nat × Nat × Nat) : numUp 0 0 q = q := by
 unfold numUp
 split
 ·rename_i h
  refine Prod.ext (by simp) (Prod.ext (by simp) h.symm)
 ·rfl
theorem wire_num {r : Twire_Reader} (hs : r.s.size ≤ 4611686018427387904) {at_ : Nat} (h : at_ ≤ r.s.size) : wire_Reader__number_g r (at_ : Int) = some (nout at_ (num ((bl r.s).drop at_) 0)) := by
 unfold wire_Reader__number_g
 have := wire_num_loop r hs at_ _ 0 0 rfl (by omega) (by omega) (by simp)
 rw [numUp_zero] at this
 exact this
theorem r05_num_loop (s : ByteArray) (hs : s.size ≤ 4611686018427387904) (at_ : Nat) : ∀ (l : List Nat) (i n : Nat), l = (bl s).drop (at_ + i) → at_ + i ≤ s.size → i ≤ 9 → n < 128 ^ i →
  loopO (fun q : Int × Int × Int => r05_number_s1 s (at_ : Int) q.1 q.2.1 q.2.2) ((n : Int), ((128 ^ i : Nat) : Int), (i : Int)) = some (.inl (rout at_ (numUp n i (num l i))))
 | [], i, n, hl, hat, hi, hn => by
  refine loopO_done ?_
  have hlen : (bl s).length ≤ at_ + i := List.drop_eq_nil_iff.1 hl.symm
  rw [bl_length] at hlen
  simp only [r05_number_s1]
  rw [decide_eq_true (by omega), cond_true, W64_eq (by omega) (by omega), decide_eq_true (by omega)]
  rfl
 | c :: l, i, n, hl, hat, hi, hn => by
  have hlt : at_ + i < (bl s).length := by
   rcases Nat.lt_or_ge (at_ + i) (bl s).length with h | h
   ·exact h
   ·rw [List.drop_eq_nil_of_le h] at hl
    exact absurd hl (by simp)
  have hcl := List.drop_eq_getElem_cons hlt
  rw [← hl] at hcl
  obtain ⟨hc, hl'⟩ := List.cons.inj hcl
  have hc256 : c < 256 := by rw [hc]; exact bl_lt (List.getElem_mem hlt)
  have hsz := hlt
  rw [bl_length] at hsz
  have hb : bytO s ((at_ : Int) + (i : Int)) = some (c : Int) := by
   rw [hc]
   exact bytO_bl hlt
  have hp := pow128_le hi
  have hwc : WU64 (c : Int) = c := WU64_eq (by omega)
  by_cases h9 : i = 9 ∧ 1 < c
  ·refine loopO_done ?_
   simp only [r05_number_s1]
   rw [decide_eq_true (p := (i : Int) < 10) (by omega), cond_true, W64_eq (by omega) (by omega), decide_eq_false (by omega), cond_false, hb, bind_some', show ((i : Int) == 9) = true by simp; omega, cond_true, hwc, decide_eq_true (by omega), cond_true, num, if_pos h9]
   rfl
  ·have hmul : n + c % 128 * 128 ^ i < 18446744073709551616 := by
    by_cases h : i = 9
    ·have : c % 128 ≤ 1 := by omega
     have := Nat.mul_le_mul_right (128 ^ i) this
     omega
    ·have hp8 := Nat.pow_le_pow_right (n := 128) (i := i) (j := 8) (by omega) (by omega)
     have e8 : (128 : Nat) ^ 8 = 72057594037927936 := by decide
     have : c % 128 ≤ 127 := by omega
     have := Nat.mul_le_mul_right (128 ^ i) this
     omega
   have hval : WU64 ((n : Int) + WU64 (Int.tmod (c : Int) 128 * ((128 ^ i : Nat) : Int))) = ((n + c % 128 * 128 ^ i : Nat) : Int) := by
    have e1 : Int.tmod (c : Int) 128 = ((c % 128 : Nat) : Int) := by rw [Int.tmod_eq_emod_of_nonneg (by omega)]; rfl
    rw [e1, ← Int.natCast_mul, WU64_eq (n := ((c % 128 * 128 ^ i : Nat) : Int)) (by omega), ← Int.natCast_add, WU64_eq (by omega)]
   have hstep : r05_number_s1 s (at_ : Int) (n : Int) ((128 ^ i : Nat) : Int) (i : Int) = bif decide ((c : Int) < 128) then (bif ((c : Int) == 0) then (bif decide (0 < (i : Int)) then some (.inr (.inl (0, (at_ : Int), 5))) else some (.inr (.inl (((n + c % 128 * 128 ^ i : Nat) : Int), ((at_ + i + 1 : Nat) : Int), 0)))) else some (.inr (.inl (((n + c % 128 * 128 ^ i : Nat) : Int), ((at_ + i + 1 : Nat) : Int), 0)))) else some (.inl (((n + c % 128 * 128 ^ i : Nat) : Int), WU64 (((128 ^ i : Nat) : Int) * 128), ((i + 1 : Nat) : Int))) := by
    unfold r05_number_s1
    have hm : (bif ((i : Int) == 9) then (bif (decide (1 < (c : Int))) then some (Sum.inl (Sum.inr (Sum.inl (0, (at_ : Int), 5)))) else some (Sum.inr ())) else some (Sum.inr ()) : Option (((Int × Int × Int) ⊕ ((Int × Int × Int) ⊕ Unit)) ⊕ Unit)) = some (.inr ()) := by
     by_cases h : i = 9
     ·rw [show ((i : Int) == 9) = true by simp; omega, cond_true, decide_eq_false (by omega)]
      rfl
     ·rw [show ((i : Int) == 9) = false by simp; omega]
      rfl
    rw [decide_eq_true (p := (i : Int) < 10) (by omega), cond_true, W64_eq (n := (at_ : Int) + i) (by omega) (by omega), decide_eq_false (p := ((s.size : Nat) : Int) ≤ _) (by omega), cond_false, hb, bind_some', hwc, hm, bind_some', W64_succ (by omega), W64_eq (n := (at_ : Int) + i + 1) (by omega) (by omega)]
    rw [Sum.elim_inr, hval, show (at_ : Int) + i + 1 = ((at_ + i + 1 : Nat) : Int) by omega]
   by_cases h128 : c < 128
   ·refine loopO_done ?_
    dsimp only
    rw [hstep, decide_eq_true (p := (c : Int) < 128) (by omega), cond_true]
    rw [num, if_neg h9, if_pos h128]
    by_cases h0 : c = 0 ∧ 0 < i
    ·rw [if_pos h0, show ((c : Int) == 0) = true by simp; omega, cond_true, decide_eq_true (by omega)]
     rfl
    ·rw [if_neg h0]
     have e1 : numUp n i (c, 1, 0) = (n + c % 128 * 128 ^ i, i + 1, 0) := by
      unfold numUp
      rw [if_pos rfl, Nat.mod_eq_of_lt h128, Nat.mul_comm]
     rw [e1]
     by_cases hc0 : c = 0
     ·rw [show ((c : Int) == 0) = true by simp; omega, cond_true, decide_eq_false (by omega)]
      rfl
     ·rw [show ((c : Int) == 0) = false by simp; omega]
      rfl
   ·have hi9 : i < 9 := by omega
    have hp8 := Nat.pow_le_pow_right (n := 128) (i := i) (j := 8) (by omega) (by omega)
    have e8 : (128 : Nat) ^ 8 = 72057594037927936 := by decide
    rw [loopO_next (x' := (((n + c % 128 * 128 ^ i : Nat) : Int), ((128 ^ (i + 1) : Nat) : Int), ((i + 1 : Nat) : Int))) (by
     dsimp only
     rw [hstep, decide_eq_false (by omega), cond_false, WU64_eq (by omega), Nat.pow_succ]
     rfl)]
    rw [r05_num_loop s hs at_ l (i + 1) (n + c % 128 * 128 ^ i) (by rw [hl']; congr 1) (by omega) (by omega) (by
     have : c % 128 ≤ 127 := by omega
     have := Nat.mul_le_mul_right (128 ^ i) this
     rw [Nat.pow_succ]
     omega)]
    rw [numUp_step h9 h128 hc256]
theorem r05_num {s : ByteArray} (hs : s.size ≤ 4611686018427387904) {at_ : Nat} (h : at_ ≤ s.size) : r05_number_g s (at_ : Int) = some (rout at_ (num ((bl s).drop at_) 0)) := by
 unfold r05_number_g
 have := r05_num_loop s hs at_ _ 0 0 rfl (by omega) (by omega) (by simp)
 rw [numUp_zero] at this
 have e : (((0 : Nat) : Int), ((128 ^ 0 : Nat) : Int), ((0 : Nat) : Int)) = ((0 : Int), (1 : Int), (0 : Int)) := rfl
 rw [e] at this
 rw [this]
 rfl
def uz (v : Nat) : Int := if v % 2 = 1 then -((v / 2 : Nat) : Int) - 1 else ((v / 2 : Nat) : Int)
def sgn (l : List Nat) (low high : Int) : Int × Nat × Nat := if (num l 0).2.2 ≠ 0 then (0, 0, (num l 0).2.2) else if uz (num l 0).1 < low ∨ high < uz (num l 0).1 then (0, 0, 9) else (uz (num l 0).1, (num l 0).2.1, 0)
def cnt (l : List Nat) (most : Int) : Nat × Nat × Nat := if (num l 0).2.2 ≠ 0 then (0, 0, (num l 0).2.2) else if most < 0 ∨ most < ((num l 0).1 : Int) then (0, 0, 4) else ((num l 0).1, (num l 0).2.1, 0)
def txt (l : List Nat) (most : Int) : List Nat × Nat × Nat := if (cnt l most).2.2 ≠ 0 then ([], 0, (cnt l most).2.2) else if l.length - (cnt l most).2.1 < (cnt l most).1 then ([], 0, 3) else ((l.drop (cnt l most).2.1).take (cnt l most).1, (cnt l most).2.1 + (cnt l most).1, 0)
def its : Nat → List Nat → Int → Int → List Int × Nat × Nat
 | 0, _, _, _ => ([], 0, 0)
 | m + 1, l, low, high => if (sgn l low high).2.2 ≠ 0 then ([], 0, (sgn l low high).2.2) else if (its m (l.drop (sgn l low high).2.1) low high).2.2 ≠ 0 then ([], 0, (its m (l.drop (sgn l low high).2.1) low high).2.2) else ((sgn l low high).1 :: (its m (l.drop (sgn l low high).2.1) low high).1, (sgn l low high).2.1 + (its m (l.drop (sgn l low high).2.1) low high).2.1, 0)
def ints (l : List Nat) (most low high : Int) : List Int × Nat × Nat := if (cnt l most).2.2 ≠ 0 then ([], 0, (cnt l most).2.2) else if (its (cnt l most).1 (l.drop (cnt l most).2.1) low high).2.2 ≠ 0 then ([], 0, (its (cnt l most).1 (l.drop (cnt l most).2.1) low high).2.2) else ((its (cnt l most).1 (l.drop (cnt l most).2.1) low high).1, (cnt l most).2.1 + (its (cnt l most).1 (l.drop (cnt l most).2.1) low high).2.1, 0)
theorem num_64 {l : List Nat} (hl : ∀ c ∈ l, c < 256) : (num l 0).1 < 18446744073709551616 := by
 have := num_lt (l := l) (i := 0) (by omega) hl
 have e : (2 : Nat) * 128 ^ (9 - 0) = 18446744073709551616 := by decide
 omega
theorem bl_drop_lt {s : ByteArray} {k c : Nat} (h : c ∈ (bl s).drop k) : c < 256 := bl_lt (List.mem_of_mem_drop h)
def wR (s : ByteArray) (a e : Nat) : Twire_Reader := ⟨s, (a : Int), (e : Int)⟩
def qR (s : ByteArray) (a e : Nat) : Tsawmillref05_Reader := ⟨s, (a : Int), (e : Int)⟩
def nat_ (a k e : Nat) : Nat := if e = 0 then a + k else a
theorem bAnd1 {v : Nat} (h : v < 18446744073709551616) : bAnd .u64 (v : Int) 1 = ((v % 2 : Nat) : Int) := by
 show IntKind.u64.wrap ((BitVec.ofInt 64 (v : Int) &&& BitVec.ofInt 64 1).toNat : Int) = _
 rw [BitVec.toNat_and, BitVec.ofInt_natCast, BitVec.toNat_ofNat, show (BitVec.ofInt 64 1).toNat = 1 by decide, Nat.mod_eq_of_lt (by omega), Nat.and_one_is_mod]
 exact WU64_eq (by omega)
theorem bShr1 (n : Nat) : bShr .u64 (n : Int) 1 = ((n / 2 : Nat) : Int) := by
 show Int.fdiv (n : Int) (2 ^ (min 1 64)) = _
 rw [Int.fdiv_eq_ediv_of_nonneg _ (by decide)]
 have : (2 : Int) ^ (min 1 64) = 2 := by decide
 rw [this]
 omega
theorem bNot_i64 {m : Nat} (h : m < 9223372036854775808) : bNot .i64 (m : Int) = -(m : Int) - 1 := by
 show IntKind.i64.wrap ((BitVec.ofInt 64 (-1) ^^^ BitVec.ofInt 64 (m : Int)).toNat : Int) = _
 have e : BitVec.ofInt 64 (-1) = BitVec.allOnes 64 := by decide
 rw [e, BitVec.allOnes_xor, BitVec.toNat_not, BitVec.ofInt_natCast, BitVec.toNat_ofNat, w64]
 have : m % 2 ^ 64 = m := Nat.mod_eq_of_lt (by omega)
 rw [this]
 split <;> omega
def nout' {α : Type} (a : Nat) (f : α → Int) (q : α × Nat × Nat) : Int × Int × Int := if q.2.2 = 0 then (f q.1, ((a + q.2.1 : Nat) : Int), 0) else (0, 0, (q.2.2 : Int))
def rout' {α : Type} (a : Nat) (f : α → Int) (q : α × Nat × Nat) : Int × Int × Int := if q.2.2 = 0 then (f q.1, ((a + q.2.1 : Nat) : Int), 0) else (0, (a : Int), (q.2.2 : Int))
theorem ne0_t {e : Nat} (h : e ≠ 0) : ((e : Int) != 0) = true := by simp; omega
theorem ne0_f : ((0 : Int) != 0) = false := rfl
theorem sgn_e {l : List Nat} {low high : Int} (h : (num l 0).2.2 ≠ 0) : sgn l low high = (0, 0, (num l 0).2.2) := by rw [sgn, if_pos h]
theorem cnt_e {l : List Nat} {most : Int} (h : (num l 0).2.2 ≠ 0) : cnt l most = (0, 0, (num l 0).2.2) := by rw [cnt, if_pos h]
section
variable {s : ByteArray} (hs : s.size ≤ 1000000000000) {a : Nat} (ha : a ≤ s.size)
include hs ha
theorem wire_num' (b e : Nat) : wire_Reader__number_g (wR s b e) (a : Int) = some (nout a (num ((bl s).drop a) 0)) := wire_num (r := wR s b e) (show s.size ≤ _ by omega) ha
theorem wire_signed (b e : Nat) (low high : Int) : wire_Reader__signed_g (wR s b e) (a : Int) low high = some (nout' a id (sgn ((bl s).drop a) low high)) := by
 unfold wire_Reader__signed_g
 rw [wire_num' hs ha, bind_some']
 have h64 := num_64 (l := (bl s).drop a) fun _ => bl_drop_lt
 by_cases h : (num ((bl s).drop a) 0).2.2 = 0
 ·have en : nout a (num ((bl s).drop a) 0) = ((((num ((bl s).drop a) 0).1 : Nat) : Int), ((a + (num ((bl s).drop a) 0).2.1 : Nat) : Int), 0) := by rw [nout, if_pos h]
  rw [en]
  dsimp only
  rw [ne0_f, cond_false]
  generalize hv : (num ((bl s).drop a) 0).1 = v at *
  have hu : (bif ((bAnd .u64 (v : Int) 1) == 1) then (bNot .i64 (W64 (bShr .u64 (v : Int) 1))) else (W64 (bShr .u64 (v : Int) 1)) : Int) = uz v := by
   rw [bAnd1 h64, bShr1, W64_eq (by omega) (by omega), bNot_i64 (by omega)]
   unfold uz
   by_cases h2 : v % 2 = 1
   ·rw [if_pos h2, h2]
    rfl
   ·rw [if_neg h2, show v % 2 = 0 by omega]
    rfl
  rw [letB_eq, hu]
  unfold sgn
  rw [if_neg (by omega), hv]
  by_cases h1 : uz v < low
  ·rw [decide_eq_true h1, cond_true, if_pos (.inl h1)]
   rfl
  ·rw [decide_eq_false h1, cond_false]
   by_cases h2 : high < uz v
   ·rw [decide_eq_true h2, cond_true, if_pos (.inr h2)]
    rfl
   ·rw [decide_eq_false h2, cond_false, if_neg (by omega)]
    rfl
 ·have en : nout a (num ((bl s).drop a) 0) = (0, 0, (((num ((bl s).drop a) 0).2.2 : Nat) : Int)) := by rw [nout, if_neg h]
  rw [en]
  dsimp only
  rw [ne0_t h, cond_true, sgn_e h, nout', if_neg h]
theorem r05_sgn (low high : Int) : r05_signed_g s (a : Int) low high = some (rout' a id (sgn ((bl s).drop a) low high)) := by
 unfold r05_signed_g
 rw [r05_num (by omega) ha, bind_some']
 have h64 := num_64 (l := (bl s).drop a) fun _ => bl_drop_lt
 by_cases h : (num ((bl s).drop a) 0).2.2 = 0
 ·have en : rout a (num ((bl s).drop a) 0) = ((((num ((bl s).drop a) 0).1 : Nat) : Int), ((a + (num ((bl s).drop a) 0).2.1 : Nat) : Int), 0) := by rw [rout, if_pos h]
  rw [en]
  dsimp only
  rw [ne0_f, cond_false]
  generalize hv : (num ((bl s).drop a) 0).1 = v at *
  have e1 : Int.tmod (v : Int) 2 = ((v % 2 : Nat) : Int) := by rw [Int.tmod_eq_emod_of_nonneg (by omega)]; rfl
  have e2 : WU64 (Int.tdiv (v : Int) 2) = ((v / 2 : Nat) : Int) := by
   rw [Int.tdiv_eq_ediv_of_nonneg (by omega), WU64_eq (by omega)]
   rfl
  have hu : (bif ((Int.tmod (v : Int) 2) == 1) then (W64 ((W64 (0 - (W64 (WU64 (Int.tdiv (v : Int) 2))))) - 1)) else (W64 (WU64 (Int.tdiv (v : Int) 2))) : Int) = uz v := by
   rw [e1, e2, W64_eq (n := ((v / 2 : Nat) : Int)) (by omega) (by omega), W64_eq (n := 0 - _) (by omega) (by omega), W64_eq (by omega) (by omega)]
   unfold uz
   by_cases h2 : v % 2 = 1
   ·rw [if_pos h2, h2]
    show (0 - ((v / 2 : Nat) : Int)) - 1 = _
    omega
   ·rw [if_neg h2, show v % 2 = 0 by omega]
    rfl
  rw [letB_eq, hu]
  unfold sgn
  rw [if_neg (by omega), hv]
  by_cases h1 : uz v < low
  ·rw [decide_eq_true h1, cond_true, if_pos (.inl h1)]
   rfl
  ·rw [decide_eq_false h1, cond_false]
   by_cases h2 : high < uz v
   ·rw [decide_eq_true h2, cond_true, if_pos (.inr h2)]
    rfl
   ·rw [decide_eq_false h2, cond_false, if_neg (by omega)]
    rfl
 ·have en : rout a (num ((bl s).drop a) 0) = (0, (a : Int), (((num ((bl s).drop a) 0).2.2 : Nat) : Int)) := by rw [rout, if_neg h]
  rw [en]
  dsimp only
  rw [ne0_t h, cond_true, sgn_e h, rout', if_neg h]
theorem wire_counted (b e : Nat) {most : Int} (hm : I64 most) : wire_Reader__counted_g (wR s b e) (a : Int) most = some (nout' a (fun v => ((v : Nat) : Int)) (cnt ((bl s).drop a) most)) := by
 unfold I64 at hm
 unfold wire_Reader__counted_g
 rw [wire_num' hs ha, bind_some']
 by_cases h : (num ((bl s).drop a) 0).2.2 = 0
 ·have en : nout a (num ((bl s).drop a) 0) = ((((num ((bl s).drop a) 0).1 : Nat) : Int), ((a + (num ((bl s).drop a) 0).2.1 : Nat) : Int), 0) := by rw [nout, if_pos h]
  rw [en]
  dsimp only
  rw [ne0_f, cond_false]
  unfold cnt
  rw [if_neg (by omega)]
  by_cases h1 : most < 0
  ·rw [decide_eq_true h1, cond_true, if_pos (.inl h1)]
   rfl
  ·rw [decide_eq_false h1, cond_false, WU64_eq (by omega)]
   by_cases h2 : most < (((num ((bl s).drop a) 0).1 : Nat) : Int)
   ·rw [decide_eq_true h2, cond_true, if_pos (.inr h2)]
    rfl
   ·rw [decide_eq_false h2, cond_false, if_neg (by omega)]
    rfl
 ·have en : nout a (num ((bl s).drop a) 0) = (0, 0, (((num ((bl s).drop a) 0).2.2 : Nat) : Int)) := by rw [nout, if_neg h]
  rw [en]
  dsimp only
  rw [ne0_t h, cond_true, cnt_e h, nout', if_neg h]
end
theorem sgn_pos {l : List Nat} {low high : Int} (h : (sgn l low high).2.2 = 0) : 1 ≤ (sgn l low high).2.1 ∧ (sgn l low high).2.1 ≤ l.length := by
 unfold sgn at h ⊢
 by_cases h1 : (num l 0).2.2 ≠ 0
 ·rw [if_pos h1] at h
  exact absurd h h1
 ·rw [if_neg h1] at h ⊢
  split at h
  ·simp at h
  ·rename_i h2
   rw [if_neg h2]
   exact num_pos (by omega)
theorem cnt_pos {l : List Nat} {most : Int} (h : (cnt l most).2.2 = 0) : 1 ≤ (cnt l most).2.1 ∧ (cnt l most).2.1 ≤ l.length ∧ 0 ≤ most ∧ ((cnt l most).1 : Int) ≤ most := by
 unfold cnt at h ⊢
 by_cases h1 : (num l 0).2.2 ≠ 0
 ·rw [if_pos h1] at h
  exact absurd h h1
 ·rw [if_neg h1] at h ⊢
  split at h
  ·simp at h
  ·rename_i h2
   rw [if_neg h2]
   have := num_pos (l := l) (i := 0) (by omega)
   dsimp only
   omega
theorem its_pos : ∀ {m : Nat} {l : List Nat} {low high : Int}, (its m l low high).2.2 = 0 → (its m l low high).1.length = m ∧ m ≤ (its m l low high).2.1 ∧ (its m l low high).2.1 ≤ l.length
 | 0, l, low, high, _ => by simp [its]
 | m + 1, l, low, high, h => by
  have ih := @its_pos m (l.drop (sgn l low high).2.1) low high
  have hp := @sgn_pos l low high
  rw [its] at h ⊢
  by_cases h1 : (sgn l low high).2.2 ≠ 0
  ·rw [if_pos h1] at h
   exact absurd h h1
  ·rw [if_neg h1] at h ⊢
   by_cases h2 : (its m (l.drop (sgn l low high).2.1) low high).2.2 ≠ 0
   ·rw [if_pos h2] at h
    exact absurd h h2
   ·rw [if_neg h2] at h ⊢
    have h3 := ih (by omega)
    have h4 := hp (by omega)
    rw [List.length_drop] at h3
    dsimp only
    rw [List.length_cons]
    omega
theorem drop_len {s : ByteArray} {a : Nat} : ((bl s).drop a).length = s.size - a := by rw [List.length_drop, bl_length]
theorem eq0_t : ((0 : Int) == 0) = true := rfl
theorem eq0_f {e : Nat} (h : e ≠ 0) : ((e : Int) == 0) = false := by simp; omega
theorem mkS_extract {s : ByteArray} {a n : Nat} : s.extract a (a + n) = mkS (((bl s).drop a).take n) := by
 rw [← mkS_bl (s.extract a (a + n)), bl_extract, Nat.add_sub_cancel_left]
section
variable {s : ByteArray} (hs : s.size ≤ 1000000000000) {a : Nat} (ha : a ≤ s.size)
include hs ha
theorem wire_rText {most : Int} (hm : I64 most) : wire_Reader__Text_g (wR s a 0) most = some (mkS (txt ((bl s).drop a) most).1, wR s (nat_ a (txt ((bl s).drop a) most).2.1 (txt ((bl s).drop a) most).2.2) (txt ((bl s).drop a) most).2.2) := by
 unfold wire_Reader__Text_g
 rw [show wire_Reader__stopped_g (wR s a 0) = false from rfl, cond_false, show (wR s a 0).at_ = (a : Int) from rfl, wire_counted hs ha _ _ hm, bind_some', letB_eq]
 have hp := @cnt_pos ((bl s).drop a) most
 rw [drop_len] at hp
 unfold I64 at hm
 unfold txt
 rw [drop_len]
 rw [show (wR s a 0).s = s from rfl]
 by_cases h : (cnt ((bl s).drop a) most).2.2 = 0
 ·obtain ⟨p1, p2, p3, p4⟩ := hp h
  have en : nout' a (fun v => ((v : Nat) : Int)) (cnt ((bl s).drop a) most) = ((((cnt ((bl s).drop a) most).1 : Nat) : Int), ((a + (cnt ((bl s).drop a) most).2.1 : Nat) : Int), 0) := by rw [nout', if_pos h]
  rw [if_neg (by omega), en]
  dsimp only
  rw [eq0_t, cond_true]
  rw [W64_eq (n := ((s.size : Nat) : Int) - _) (by omega) (by omega), WU64_eq (by omega)]
  by_cases h2 : s.size - a - (cnt ((bl s).drop a) most).2.1 < (cnt ((bl s).drop a) most).1
  ·rw [decide_eq_true (by omega), cond_true, if_pos h2]
   rfl
  ·rw [decide_eq_false (by omega), cond_false, if_neg h2, ne0_f, cond_false, letB_eq, W64_eq (n := (((cnt ((bl s).drop a) most).1 : Nat) : Int)) (by omega) (by omega), W64_eq (by omega) (by omega)]
   show Option.bind (ssubO s _ _) _ = _
   rw [ssubO_eq (by omega) (by omega) (by omega), bind_some']
   refine congrArg some (Prod.ext ?_ ?_)
   ·show s.extract _ _ = mkS (((List.drop _ (List.drop _ _))).take _)
    rw [List.drop_drop, ← mkS_extract]
    congr 1
   ·show (⟨s, _, 0⟩ : Twire_Reader) = wR s _ 0
    unfold wR nat_
    rw [if_pos rfl]
    congr 1
    show ((a + (cnt ((bl s).drop a) most).2.1 : Nat) : Int) + (((cnt ((bl s).drop a) most).1 : Nat) : Int) = ((a + ((cnt ((bl s).drop a) most).2.1 + (cnt ((bl s).drop a) most).1) : Nat) : Int)
    omega
 ·have en : nout' a (fun v => ((v : Nat) : Int)) (cnt ((bl s).drop a) most) = (0, 0, (((cnt ((bl s).drop a) most).2.2 : Nat) : Int)) := by rw [nout', if_neg h]
  rw [if_pos h, en]
  dsimp only
  rw [eq0_f h, cond_false, ne0_t h, cond_true, letB_eq]
  unfold wire_Reader__done_g nat_
  rw [ne0_t h, cond_true, if_neg h]
  rfl
theorem r05_rText {most : Int} (hm : I64 most) : r05_ReadText_g (qR s a 0) most = some (qR s (nat_ a (txt ((bl s).drop a) most).2.1 (txt ((bl s).drop a) most).2.2) (txt ((bl s).drop a) most).2.2, mkS (txt ((bl s).drop a) most).1) := by
 unfold r05_ReadText_g
 rw [show ((qR s a 0).E != 0) = false from rfl, cond_false, show (qR s a 0).S_ = s from rfl, show (qR s a 0).At = (a : Int) from rfl, r05_num (by omega) ha, bind_some']
 have hp := @num_pos ((bl s).drop a) 0
 rw [drop_len] at hp
 unfold I64 at hm
 unfold txt
 rw [drop_len]
 by_cases h : (num ((bl s).drop a) 0).2.2 = 0
 ·obtain ⟨p1, p2⟩ := hp h
  have en : rout a (num ((bl s).drop a) 0) = ((((num ((bl s).drop a) 0).1 : Nat) : Int), ((a + (num ((bl s).drop a) 0).2.1 : Nat) : Int), 0) := by rw [rout, if_pos h]
  rw [en]
  dsimp only
  rw [ne0_f, cond_false]
  by_cases h1 : most < 0 ∨ most < (((num ((bl s).drop a) 0).1 : Nat) : Int)
  ·have ec : cnt ((bl s).drop a) most = (0, 0, 4) := by rw [cnt, if_neg (by omega), if_pos h1]
   rw [ec, if_pos (by simp)]
   by_cases h2 : most < 0
   ·rw [decide_eq_true h2, cond_true]
    rfl
   ·rw [decide_eq_false h2, cond_false, WU64_eq (n := most) (by omega), decide_eq_true (by omega), cond_true]
    rfl
  ·have ec : cnt ((bl s).drop a) most = ((num ((bl s).drop a) 0).1, (num ((bl s).drop a) 0).2.1, 0) := by rw [cnt, if_neg (by omega), if_neg h1]
   rw [ec, if_neg (by simp), decide_eq_false (p := most < 0) (by omega), cond_false, WU64_eq (n := most) (by omega), decide_eq_false (p := most < _) (by omega), cond_false]
   dsimp only
   rw [W64_eq (n := ((s.size : Nat) : Int) - _) (by omega) (by omega), WU64_eq (by omega)]
   by_cases h2 : s.size - a - (num ((bl s).drop a) 0).2.1 < (num ((bl s).drop a) 0).1
   ·rw [decide_eq_true (by omega), cond_true, if_pos h2]
    rfl
   ·rw [decide_eq_false (by omega), cond_false, if_neg h2, W64_eq (n := (((num ((bl s).drop a) 0).1 : Nat) : Int)) (by omega) (by omega), W64_eq (by omega) (by omega)]
    rw [ssubO_eq (by omega) (by omega) (by omega), bind_some']
    refine congrArg some (Prod.ext ?_ ?_)
    ·show (⟨s, _, 0⟩ : Tsawmillref05_Reader) = qR s _ 0
     unfold qR nat_
     rw [if_pos rfl]
     congr 1
     show ((a + (num ((bl s).drop a) 0).2.1 : Nat) : Int) + (((num ((bl s).drop a) 0).1 : Nat) : Int) = ((a + ((num ((bl s).drop a) 0).2.1 + (num ((bl s).drop a) 0).1) : Nat) : Int)
     omega
    ·show s.extract _ _ = mkS (((List.drop _ (List.drop _ _))).take _)
     rw [List.drop_drop, ← mkS_extract]
     congr 1
 ·have en : rout a (num ((bl s).drop a) 0) = (0, (a : Int), (((num ((bl s).drop a) 0).2.2 : Nat) : Int)) := by rw [rout, if_neg h]
  rw [en, cnt_e h, if_pos h]
  dsimp only
  rw [ne0_t h, cond_true]
  unfold nat_
  rw [if_neg h]
  rfl
end
theorem nout'_ok {α : Type} {a : Nat} {f : α → Int} {q : α × Nat × Nat} (h : q.2.2 = 0) : nout' a f q = (f q.1, ((a + q.2.1 : Nat) : Int), 0) := by rw [nout', if_pos h]
theorem nout'_err {α : Type} {a : Nat} {f : α → Int} {q : α × Nat × Nat} (h : q.2.2 ≠ 0) : nout' a f q = (0, 0, (q.2.2 : Int)) := by rw [nout', if_neg h]
theorem rout'_ok {α : Type} {a : Nat} {f : α → Int} {q : α × Nat × Nat} (h : q.2.2 = 0) : rout' a f q = (f q.1, ((a + q.2.1 : Nat) : Int), 0) := by rw [rout', if_pos h]
theorem rout'_err {α : Type} {a : Nat} {f : α → Int} {q : α × Nat × Nat} (h : q.2.2 ≠ 0) : rout' a f q = (0, (a : Int), (q.2.2 : Int)) := by rw [rout', if_neg h]
theorem wire_ints_loop {s : ByteArray} (hs : s.size ≤ 1000000000000) (b e : Nat) (low high : Int) (cv : Int × Int × Int) (hcv : cv.1 < 18446744073709551616) : ∀ (m i a : Nat) (l1 : List Int), cv.1 = ((i + m : Nat) : Int) → a ≤ s.size → l1.length ≤ a →
  ∃ x, loopO (fun q : Int × Int × List Int × Int => wire_Reader__Ints_s1 (wR s b e) low high cv q.1 q.2.1 q.2.2.1 q.2.2.2) ((a : Int), 0, l1, (i : Int)) = some x ∧
   ((its m ((bl s).drop a) low high).2.2 = 0 → x = (((a + (its m ((bl s).drop a) low high).2.1 : Nat) : Int), 0, l1 ++ (its m ((bl s).drop a) low high).1)) ∧ ((its m ((bl s).drop a) low high).2.2 ≠ 0 → x.2.1 = ((its m ((bl s).drop a) low high).2.2 : Int))
 | 0, i, a, l1, hc, ha, hl => by
  refine ⟨((a : Int), 0, l1), loopO_done ?_, fun _ => ?_, fun h => absurd rfl h⟩
  ·unfold wire_Reader__Ints_s1
   dsimp only
   rw [decide_eq_false (by omega)]
   rfl
  ·simp [its]
 | m + 1, i, a, l1, hc, ha, hl => by
  by_cases h : (sgn ((bl s).drop a) low high).2.2 = 0
  ·have hp := sgn_pos h
   rw [drop_len] at hp
   have hstep : wire_Reader__Ints_s1 (wR s b e) low high cv (a : Int) 0 l1 (i : Int) = some (.inl (((a + (sgn ((bl s).drop a) low high).2.1 : Nat) : Int), 0, l1 ++ [(sgn ((bl s).drop a) low high).1], ((i + 1 : Nat) : Int))) := by
    unfold wire_Reader__Ints_s1
    rw [decide_eq_true (by omega), cond_true, eq0_t, cond_true, wire_signed hs ha, bind_some', nout'_ok h, appO_eq (by simp; omega) (by simp; omega), bind_some', WU64_eq (by omega)]
    rfl
   obtain ⟨x, h1, h2, h3⟩ := wire_ints_loop hs b e low high cv hcv m (i + 1) (a + (sgn ((bl s).drop a) low high).2.1) (l1 ++ [(sgn ((bl s).drop a) low high).1]) (by omega) (by omega) (by simp; omega)
   refine ⟨x, (loopO_next (x' := (((a + (sgn ((bl s).drop a) low high).2.1 : Nat) : Int), 0, l1 ++ [(sgn ((bl s).drop a) low high).1], ((i + 1 : Nat) : Int))) hstep).trans h1, ?_, ?_⟩
   ·intro h4
    rw [its, if_neg (by omega)] at h4 ⊢
    rw [List.drop_drop] at h4 ⊢
    by_cases h5 : (its m ((bl s).drop (a + (sgn ((bl s).drop a) low high).2.1)) low high).2.2 ≠ 0
    ·rw [if_pos h5] at h4
     exact absurd h4 h5
    ·rw [if_neg h5, h2 (by omega)]
     simp only [List.append_assoc, List.singleton_append, Nat.add_assoc]
   ·intro h4
    rw [its, if_neg (by omega)] at h4 ⊢
    rw [List.drop_drop] at h4 ⊢
    by_cases h5 : (its m ((bl s).drop (a + (sgn ((bl s).drop a) low high).2.1)) low high).2.2 ≠ 0
    ·rw [if_pos h5]
     exact h3 h5
    ·rw [if_neg h5] at h4
     exact absurd rfl h4
  ·have hstep : wire_Reader__Ints_s1 (wR s b e) low high cv (a : Int) 0 l1 (i : Int) = some (.inl (0, (((sgn ((bl s).drop a) low high).2.2 : Nat) : Int), l1 ++ [0], ((i + 1 : Nat) : Int))) := by
    unfold wire_Reader__Ints_s1
    rw [decide_eq_true (by omega), cond_true, eq0_t, cond_true, wire_signed hs ha, bind_some', nout'_err h, appO_eq (by simp; omega) (by simp; omega), bind_some', WU64_eq (by omega)]
    rfl
   have he : (its (m + 1) ((bl s).drop a) low high).2.2 = (sgn ((bl s).drop a) low high).2.2 := by rw [its, if_pos h]
   refine ⟨_, (loopO_next (x' := (0, (((sgn ((bl s).drop a) low high).2.2 : Nat) : Int), l1 ++ [0], ((i + 1 : Nat) : Int))) hstep).trans (loopO_done (y := (0, (((sgn ((bl s).drop a) low high).2.2 : Nat) : Int), l1 ++ [0])) ?_), ?_, ?_⟩
   ·unfold wire_Reader__Ints_s1
    dsimp only
    rw [eq0_f h, cond_false]
    by_cases h6 : ((i + 1 : Nat) : Int) < cv.1
    ·rw [decide_eq_true h6]
     rfl
    ·rw [decide_eq_false h6]
     rfl
   ·rw [he]
    intro h4
    exact absurd h4 h
   ·rw [he]
    intro _
    rfl
theorem r05_ints_loop {s : ByteArray} (hs : s.size ≤ 1000000000000) (b e : Nat) (low high : Int) (nv : Int × Int × Int) (hnv : nv.1 < 18446744073709551616) : ∀ (m a : Nat) (l1 : List Int), nv.1 = ((l1.length + m : Nat) : Int) → a ≤ s.size → l1.length ≤ a →
  ∃ x, loopO (fun q : Int × List Int => r05_ReadInts_s1 (qR s b e) low high nv q.1 q.2) ((a : Int), l1) = some x ∧
   ((its m ((bl s).drop a) low high).2.2 = 0 → x = .inr (((a + (its m ((bl s).drop a) low high).2.1 : Nat) : Int), l1 ++ (its m ((bl s).drop a) low high).1)) ∧ ((its m ((bl s).drop a) low high).2.2 ≠ 0 → x = .inl (qR s b (its m ((bl s).drop a) low high).2.2, []))
 | 0, a, l1, hc, ha, hl => by
  refine ⟨.inr ((a : Int), l1), loopO_done ?_, fun _ => ?_, fun h => absurd rfl h⟩
  ·unfold r05_ReadInts_s1
   dsimp only
   rw [WU64_eq (by omega), decide_eq_false (by omega)]
   rfl
  ·simp [its]
 | m + 1, a, l1, hc, ha, hl => by
  by_cases h : (sgn ((bl s).drop a) low high).2.2 = 0
  ·have hp := sgn_pos h
   rw [drop_len] at hp
   have hstep : r05_ReadInts_s1 (qR s b e) low high nv (a : Int) l1 = some (.inl (((a + (sgn ((bl s).drop a) low high).2.1 : Nat) : Int), l1 ++ [(sgn ((bl s).drop a) low high).1])) := by
    unfold r05_ReadInts_s1
    rw [WU64_eq (by omega), decide_eq_true (by omega), cond_true, show (qR s b e).S_ = s from rfl, r05_sgn hs ha, bind_some', rout'_ok h]
    dsimp only
    rw [ne0_f, cond_false, appO_eq (by simp; omega) (by simp; omega), bind_some']
    rfl
   obtain ⟨x, h1, h2, h3⟩ := r05_ints_loop hs b e low high nv hnv m (a + (sgn ((bl s).drop a) low high).2.1) (l1 ++ [(sgn ((bl s).drop a) low high).1]) (by simp; omega) (by omega) (by simp; omega)
   refine ⟨x, (loopO_next (x' := (((a + (sgn ((bl s).drop a) low high).2.1 : Nat) : Int), l1 ++ [(sgn ((bl s).drop a) low high).1])) hstep).trans h1, ?_, ?_⟩
   ·intro h4
    rw [its, if_neg (by omega)] at h4 ⊢
    rw [List.drop_drop] at h4 ⊢
    by_cases h5 : (its m ((bl s).drop (a + (sgn ((bl s).drop a) low high).2.1)) low high).2.2 ≠ 0
    ·rw [if_pos h5] at h4
     exact absurd h4 h5
    ·rw [if_neg h5, h2 (by omega)]
     simp only [List.append_assoc, List.singleton_append, Nat.add_assoc]
   ·intro h4
    rw [its, if_neg (by omega)] at h4 ⊢
    rw [List.drop_drop] at h4 ⊢
    by_cases h5 : (its m ((bl s).drop (a + (sgn ((bl s).drop a) low high).2.1)) low high).2.2 ≠ 0
    ·rw [if_pos h5]
     exact h3 h5
    ·rw [if_neg h5] at h4
     exact absurd rfl h4
  ·have he : (its (m + 1) ((bl s).drop a) low high).2.2 = (sgn ((bl s).drop a) low high).2.2 := by rw [its, if_pos h]
   refine ⟨.inl (qR s b (sgn ((bl s).drop a) low high).2.2, []), loopO_done ?_, ?_, ?_⟩
   ·unfold r05_ReadInts_s1
    dsimp only
    rw [WU64_eq (by omega), decide_eq_true (by omega), cond_true, show (qR s b e).S_ = s from rfl, r05_sgn hs ha, bind_some', rout'_err h]
    dsimp only
    rw [ne0_t h]
    rfl
   ·rw [he]
    intro h4
    exact absurd h4 h
   ·rw [he]
    intro _
    rfl
section
variable {s : ByteArray} (hs : s.size ≤ 1000000000000) {a : Nat} (ha : a ≤ s.size)
include hs ha
theorem wire_rInts {most : Int} (low high : Int) (hm : I64 most) : wire_Reader__Ints_g (wR s a 0) most low high = some ((ints ((bl s).drop a) most low high).1, wR s (nat_ a (ints ((bl s).drop a) most low high).2.1 (ints ((bl s).drop a) most low high).2.2) (ints ((bl s).drop a) most low high).2.2) := by
 unfold wire_Reader__Ints_g
 rw [show wire_Reader__stopped_g (wR s a 0) = false from rfl, cond_false, show (wR s a 0).at_ = (a : Int) from rfl, wire_counted hs ha _ _ hm, bind_some']
 unfold I64 at hm
 unfold ints
 by_cases h : (cnt ((bl s).drop a) most).2.2 = 0
 ·obtain ⟨p1, p2, p3, p4⟩ := cnt_pos h
  rw [drop_len] at p2
  rw [nout'_ok h, if_neg (by omega)]
  obtain ⟨x, h1, h2, h3⟩ := wire_ints_loop hs a 0 low high ((((cnt ((bl s).drop a) most).1 : Nat) : Int), ((a + (cnt ((bl s).drop a) most).2.1 : Nat) : Int), 0) (by dsimp only; omega) (cnt ((bl s).drop a) most).1 0 (a + (cnt ((bl s).drop a) most).2.1) [] (by simp) (by omega) (by simp)
  dsimp only
  have e0 : ((0 : Nat) : Int) = 0 := rfl
  rw [e0] at h1
  rw [h1, bind_some', letB_eq]
  rw [List.drop_drop]
  by_cases h5 : (its (cnt ((bl s).drop a) most).1 ((bl s).drop (a + (cnt ((bl s).drop a) most).2.1)) low high).2.2 = 0
  ·rw [if_neg (by omega), h2 h5]
   dsimp only
   rw [ne0_f, cond_false]
   refine congrArg some (Prod.ext (by simp) ?_)
   show (⟨s, _, 0⟩ : Twire_Reader) = wR s _ 0
   unfold wR nat_
   rw [if_pos rfl, Nat.add_assoc]
   rfl
  ·rw [if_pos h5, h3 h5, ne0_t h5, cond_true]
   unfold wire_Reader__done_g nat_
   rw [ne0_t h5, cond_true, if_neg h5]
   rfl
 ·rw [nout'_err h, if_pos h]
  rw [loopO_done (y := (0, (((cnt ((bl s).drop a) most).2.2 : Nat) : Int), [])) (by
   unfold wire_Reader__Ints_s1
   rfl), bind_some', letB_eq]
  dsimp only
  rw [ne0_t h, cond_true]
  unfold wire_Reader__done_g nat_
  rw [ne0_t h, cond_true, if_neg h]
  rfl
theorem r05_rInts {most : Int} (low high : Int) (hm : I64 most) : r05_ReadInts_g (qR s a 0) most low high = some (qR s (nat_ a (ints ((bl s).drop a) most low high).2.1 (ints ((bl s).drop a) most low high).2.2) (ints ((bl s).drop a) most low high).2.2, (ints ((bl s).drop a) most low high).1) := by
 unfold r05_ReadInts_g
 rw [show ((qR s a 0).E != 0) = false from rfl, cond_false, show (qR s a 0).S_ = s from rfl, show (qR s a 0).At = (a : Int) from rfl, r05_num (by omega) ha, bind_some']
 have hp := @num_pos ((bl s).drop a) 0
 rw [drop_len] at hp
 unfold I64 at hm
 unfold ints
 by_cases h : (num ((bl s).drop a) 0).2.2 = 0
 ·obtain ⟨p1, p2⟩ := hp h
  have en : rout a (num ((bl s).drop a) 0) = ((((num ((bl s).drop a) 0).1 : Nat) : Int), ((a + (num ((bl s).drop a) 0).2.1 : Nat) : Int), 0) := by rw [rout, if_pos h]
  rw [en]
  dsimp only
  rw [ne0_f, cond_false]
  by_cases h1 : most < 0 ∨ most < (((num ((bl s).drop a) 0).1 : Nat) : Int)
  ·have ec : cnt ((bl s).drop a) most = (0, 0, 4) := by rw [cnt, if_neg (by omega), if_pos h1]
   rw [ec, if_pos (by simp)]
   by_cases h2 : most < 0
   ·rw [decide_eq_true h2, cond_true]
    rfl
   ·rw [decide_eq_false h2, cond_false, WU64_eq (n := most) (by omega), decide_eq_true (by omega), cond_true]
    rfl
  ·have ec : cnt ((bl s).drop a) most = ((num ((bl s).drop a) 0).1, (num ((bl s).drop a) 0).2.1, 0) := by rw [cnt, if_neg (by omega), if_neg h1]
   rw [ec, if_neg (by simp), decide_eq_false (p := most < 0) (by omega), cond_false, WU64_eq (n := most) (by omega), decide_eq_false (p := most < _) (by omega), cond_false]
   dsimp only
   obtain ⟨x, h1, h2, h3⟩ := r05_ints_loop hs a 0 low high ((((num ((bl s).drop a) 0).1 : Nat) : Int), ((a + (num ((bl s).drop a) 0).2.1 : Nat) : Int), 0) (by dsimp only; omega) (num ((bl s).drop a) 0).1 (a + (num ((bl s).drop a) 0).2.1) [] (by simp) (by omega) (by simp)
   rw [h1, bind_some', List.drop_drop]
   by_cases h5 : (its (num ((bl s).drop a) 0).1 ((bl s).drop (a + (num ((bl s).drop a) 0).2.1)) low high).2.2 = 0
   ·rw [if_neg (by omega), h2 h5, Sum.elim_inr]
    refine congrArg some (Prod.ext ?_ (by simp))
    show (⟨s, _, 0⟩ : Tsawmillref05_Reader) = qR s _ 0
    unfold qR nat_
    rw [if_pos rfl, Nat.add_assoc]
    rfl
   ·rw [if_pos h5, h3 h5, Sum.elim_inl]
    unfold nat_
    rw [if_neg h5]
 ·have en : rout a (num ((bl s).drop a) 0) = (0, (a : Int), (((num ((bl s).drop a) 0).2.2 : Nat) : Int)) := by rw [rout, if_neg h]
  rw [en, cnt_e h, if_pos h]
  dsimp only
  rw [ne0_t h, cond_true]
  unfold nat_
  rw [if_neg h]
  rfl
end
theorem stopped_t {s : ByteArray} {a e : Nat} (h : e ≠ 0) : wire_Reader__stopped_g (wR s a e) = true := ne0_t h
theorem txt_pos {l : List Nat} {most : Int} (h : (txt l most).2.2 = 0) : 1 ≤ (txt l most).2.1 ∧ (txt l most).2.1 ≤ l.length := by
 unfold txt at h ⊢
 by_cases h1 : (cnt l most).2.2 ≠ 0
 ·rw [if_pos h1] at h
  exact absurd h h1
 ·rw [if_neg h1] at h ⊢
  split at h
  ·simp at h
  ·rename_i h2
   rw [if_neg h2]
   have := cnt_pos (l := l) (most := most) (by omega)
   dsimp only
   omega
theorem ints_pos {l : List Nat} {most low high : Int} (h : (ints l most low high).2.2 = 0) : 1 ≤ (ints l most low high).2.1 ∧ (ints l most low high).2.1 ≤ l.length := by
 unfold ints at h ⊢
 by_cases h1 : (cnt l most).2.2 ≠ 0
 ·rw [if_pos h1] at h
  exact absurd h h1
 ·rw [if_neg h1] at h ⊢
  by_cases h2 : (its (cnt l most).1 (l.drop (cnt l most).2.1) low high).2.2 ≠ 0
  ·rw [if_pos h2] at h
   exact absurd h h2
  ·rw [if_neg h2] at h ⊢
   have h3 := cnt_pos (l := l) (most := most) (by omega)
   have h4 := its_pos (m := (cnt l most).1) (l := l.drop (cnt l most).2.1) (low := low) (high := high) (by omega)
   rw [List.length_drop] at h4
   dsimp only
   omega
theorem left_eq {s : ByteArray} (hs : s.size ≤ 1000000000000) {a e : Nat} (ha : a ≤ s.size) : wire_Reader__Left_g (wR s a e) = ((s.size - a : Nat) : Int) := by
 show W64 (((s.size : Nat) : Int) - (a : Int)) = _
 rw [W64_eq (by omega) (by omega)]
 omega
theorem rleft_eq {s : ByteArray} (hs : s.size ≤ 1000000000000) {a e : Nat} (ha : a ≤ s.size) : r05_Left_g (qR s a e) = ((s.size - a : Nat) : Int) := by
 show W64 (((s.size : Nat) : Int) - (a : Int)) = _
 rw [W64_eq (by omega) (by omega)]
 omega
theorem err_eq (s : ByteArray) (a e : Nat) : wire_Reader__Err_g (wR s a e) = (e : Int) := rfl
theorem end_eq {s : ByteArray} (hs : s.size ≤ 1000000000000) {a e : Nat} (ha : a ≤ s.size) : wire_Reader__End_g (wR s a e) = if e = 0 then (if a < s.size then 4 else 0) else (e : Int) := by
 unfold wire_Reader__End_g
 rw [err_eq, left_eq hs ha]
 by_cases h : e = 0
 ·subst h
  rw [if_pos rfl]
  by_cases h1 : a < s.size
  ·rw [if_pos h1, decide_eq_true (by omega)]
   rfl
  ·rw [if_neg h1, decide_eq_false (by omega)]
   rfl
 ·rw [if_neg h, ne0_t h]
  rfl
theorem rend_eq {s : ByteArray} (hs : s.size ≤ 1000000000000) {a e : Nat} (ha : a ≤ s.size) : r05_End_g (qR s a e) = if e = 0 then (if a < s.size then 4 else 0) else (e : Int) := by
 unfold r05_End_g
 rw [rleft_eq hs ha]
 show (bif ((e : Int) == 0) then _ else (e : Int)) = _
 by_cases h : e = 0
 ·subst h
  rw [if_pos rfl]
  by_cases h1 : a < s.size
  ·rw [if_pos h1, decide_eq_true (by omega)]
   rfl
  ·rw [if_neg h1, decide_eq_false (by omega)]
   rfl
 ·rw [if_neg h, eq0_f h]
  rfl
def wideN (n : Int) : Bool := decide (n < -1099511627776) || decide (1099511627776 < n)
def dnum (b : Bool) : Int := bif b then 1 else 0
def numsB (b : TBoard) : List Int := [b.Product, b.Box.x.a, b.Box.x.b, b.Box.y.a, b.Box.y.b, b.Box.z.a, b.Box.z.b, b.Volume, b.Wane, b.Cell.Surf, b.Cell.Core, b.Cell.Stress, dnum b.Dried, b.Grade]
def num7 (e : Df) : List Int := [e.k, e.b.x.a, e.b.x.b, e.b.y.a, e.b.y.b, e.b.z.a, e.b.z.b]
def numsD (l : List Df) : List Int := l.flatMap num7
def unD : List Int → List Df
 | k :: a :: b :: c :: d :: e :: f :: r => ⟨k, ⟨⟨a, b⟩, ⟨c, d⟩, ⟨e, f⟩⟩⟩ :: unD r
 | _ => []
theorem numsD_cons (e : Df) (l : List Df) : numsD (e :: l) = num7 e ++ numsD l := rfl
theorem numsD_unD : ∀ L : List Int, L.length % 7 = 0 → numsD (unD L) = L
 | [], _ => rfl
 | [_], h => by simp at h
 | [_, _], h => by simp at h
 | [_, _, _], h => by simp at h
 | [_, _, _, _], h => by simp at h
 | [_, _, _, _, _], h => by simp at h
 | [_, _, _, _, _, _], h => by simp at h
 | k :: a :: b :: c :: d :: e :: f :: r, h => by
  have ih := numsD_unD r (by simp at h; omega)
  show num7 ⟨k, ⟨⟨a, b⟩, ⟨c, d⟩, ⟨e, f⟩⟩⟩ ++ numsD (unD r) = _
  rw [ih]
  rfl
theorem numsD_len : ∀ l : List Df, (numsD l).length = 7 * l.length
 | [] => rfl
 | e :: l => by
  rw [numsD_cons, List.length_append, numsD_len l, List.length_cons]
  show 7 + _ = _
  omega
theorem unD_len {L : List Int} (h : L.length % 7 = 0) : (unD L).length = L.length / 7 := by
 have h1 := numsD_len (unD L)
 rw [numsD_unD L h] at h1
 omega
theorem seven {l : List Int} (h : 7 ≤ l.length) : ∃ a b c d e f g r, l = a :: b :: c :: d :: e :: f :: g :: r := by
 match l, h with
 | a :: b :: c :: d :: e :: f :: g :: r, _ => exact ⟨a, b, c, d, e, f, g, r, rfl⟩
theorem unD_drop : ∀ (k : Nat) (L : List Int), unD (L.drop (7 * k)) = (unD L).drop k
 | 0, L => rfl
 | k + 1, L => by
  by_cases h : 7 ≤ L.length
  ·obtain ⟨a, b, c, d, e, f, g, r, rfl⟩ := seven h
   have := unD_drop k r
   rw [show 7 * (k + 1) = 7 * k + 7 by omega]
   exact this
  ·rw [List.drop_eq_nil_of_le (by omega)]
   have : unD L = [] := by
    match L, h with
    | [], _ => rfl
    | [_], _ => rfl
    | [_, _], _ => rfl
    | [_, _, _], _ => rfl
    | [_, _, _, _], _ => rfl
    | [_, _, _, _, _], _ => rfl
    | [_, _, _, _, _, _], _ => rfl
    | _ :: _ :: _ :: _ :: _ :: _ :: _ :: _, h => simp at h
   rw [this]
   simp [unD]
theorem dec_ch {L : List Int} (h2 : L.length ≤ 1000000000000) : ∀ k, 7 * k ≤ L.length → board_Decode_ch L k = some ((unD L).take k)
 | 0, _ => rfl
 | k + 1, hk => by
  rw [board_Decode_ch, dec_ch h2 k (by omega), bind_some']
  have h7 : 7 ≤ (L.drop (7 * k)).length := by rw [List.length_drop]; omega
  obtain ⟨a, b, c, d, e, f, g, r, hr⟩ := seven h7
  have hd := unD_drop k L
  rw [hr] at hd ⊢
  have hd' : (⟨a, ⟨⟨b, c⟩, ⟨d, e⟩, ⟨f, g⟩⟩⟩ : Df) :: unD r = (unD L).drop k := hd
  have hlt : k < (unD L).length := by
   rcases Nat.lt_or_ge k (unD L).length with q | q
   ·exact q
   ·rw [List.drop_eq_nil_of_le q] at hd'
    cases hd'
  rw [List.drop_eq_getElem_cons hlt] at hd'
  have he := (List.cons.inj hd').1
  rw [List.take_succ_eq_append_getElem hlt, ← he]
  have hlen : ((unD L).take k).length ≤ k := by rw [List.length_take]; omega
  show board_Decode_rd _ [a, b, c, d, e, f, g] = _
  unfold board_Decode_rd board_toBox_g
  rw [show getI [a, b, c, d, e, f, g] 0 = some a from rfl, bind_some', show subO [a, b, c, d, e, f, g] 1 ((([a, b, c, d, e, f, g] : List Int).length : Nat) : Int) = some [b, c, d, e, f, g] from rfl, bind_some']
  rw [show getI [b, c, d, e, f, g] 0 = some b from rfl, show getI [b, c, d, e, f, g] 1 = some c from rfl, show getI [b, c, d, e, f, g] 2 = some d from rfl, show getI [b, c, d, e, f, g] 3 = some e from rfl, show getI [b, c, d, e, f, g] 4 = some f from rfl, show getI [b, c, d, e, f, g] 5 = some g from rfl]
  simp only [bind_some']
  rw [appO_eq (by simp only [List.length_cons, List.length_nil]; omega) (by simp only [List.length_cons, List.length_nil]; omega), bind_some']
theorem put_eq {w n : List Int} (h1 : w.length + n.length ≤ 1000000000000) : board_list__put_L_g w n = some (w ++ n) := by
 unfold board_list__put_L_g
 rw [appO_eq (by omega) (by omega), bind_some']
theorem putBox_eq {w : List Int} {b : Bx} (h1 : w.length ≤ 100000000000) : board_putBox_L_g w b = some (w ++ [b.x.a, b.x.b, b.y.a, b.y.b, b.z.a, b.z.b]) := by
 unfold board_putBox_L_g
 rw [put_eq (by simp only [List.length_cons, List.length_nil]; omega), bind_some']
theorem putBoard_eq (b : TBoard) : board_putBoard_L_g [] b = some (numsB b) := by
 unfold board_putBoard_L_g
 rw [put_eq (by simp), bind_some', putBox_eq (by simp), bind_some', put_eq (by simp), bind_some']
 cases hd : b.Dried with
 | true =>
  rw [cond_true, put_eq (by simp), bind_some', put_eq (by simp), bind_some']
  unfold numsB
  rw [hd]
  rfl
 | false =>
  rw [cond_false, put_eq (by simp), bind_some', put_eq (by simp), bind_some']
  unfold numsB
  rw [hd]
  rfl
theorem numsD_fold (l : List Df) (w : List Int) : l.foldl (fun w e => w ++ num7 e) w = w ++ numsD l := by
 induction l generalizing w with
 | nil => simp [numsD]
 | cons e l ih => rw [List.foldl_cons, ih, numsD_cons, List.append_assoc]
theorem putDefects_eq {l : List Df} (hl : l.length ≤ 1000) : board_putDefects_L_g [] l = some (numsD l) := by
 unfold board_putDefects_L_g
 have := loopO_foldI (step := fun q : Int × List Int => board_putDefects_L_s1 l q.1 q.2) l (fun w e => w ++ num7 e) [] (fun w j => ((j : Int), w)) (fun w => w) (fun j w => w.length = 7 * j) rfl (fun j w hj h => by
  rw [List.length_append, h]
  show _ + 7 = _
  omega) (fun w j hj hw => by
  unfold board_putDefects_L_s1
  dsimp only
  rw [lt_nat hj, cond_true, getI_at hj, bind_some', put_eq (by simp only [List.length_cons, List.length_nil]; omega), bind_some', putBox_eq (by simp only [List.length_append, List.length_cons, List.length_nil]; omega), bind_some', W64_succ (by omega), List.append_assoc]
  rfl) (fun w _ => by
  unfold board_putDefects_L_s1
  dsimp only
  rw [nlt_nat]
  rfl)
 rw [numsD_fold, List.nil_append] at this
 exact this
theorem benc_s2 {e : List Int} (hl : e.length ≤ 1000000) : loopO (fun q => board_Encode_s2 e q) 0 = some (bif e.any wideN then .inl (.inr (.inl (⟨#[]⟩, 9))) else .inr ()) := by
 have := loopO_foldX (step := fun q : Int => board_Encode_s2 e q) e wideN (fun (u : Unit) _ => u) () (fun _ j => (j : Int)) (.inl (.inr (.inl (⟨#[]⟩, 9)))) (fun _ => .inr ()) (fun _ _ => True) trivial (fun _ _ _ _ _ => trivial) (fun s j hj _ hb => by
  unfold wideN at hb
  rw [Bool.or_eq_false_iff] at hb
  unfold board_Encode_s2
  rw [lt_nat hj, cond_true, getI_at hj, bind_some', hb.1, hb.2, W64_succ (by omega)]
  rfl) (fun s j hj _ hb => by
  unfold wideN at hb
  unfold board_Encode_s2
  rw [lt_nat hj, cond_true, getI_at hj, bind_some']
  cases h1 : decide (e[j] < -1099511627776) with
  | true => rfl
  | false =>
   rw [h1, Bool.false_or] at hb
   rw [hb]
   rfl) (fun _ _ => by
  unfold board_Encode_s2
  rw [nlt_nat]
  rfl)
 exact this
theorem benc_s1 {p q : List Int} (hp : p.length ≤ 1000000) (hq : q.length ≤ 1000000) : loopO (fun x => board_Encode_s1 p q x) 0 = some (bif p.any wideN || q.any wideN then .inl (⟨#[]⟩, 9) else .inr ()) := by
 have step0 : board_Encode_s1 p q 0 = some (bif p.any wideN then .inr (.inl (⟨#[]⟩, 9)) else .inl 1) := by
  unfold board_Encode_s1
  rw [show decide ((0 : Int) < 2) = true from rfl, cond_true, show getI [p, q] 0 = some p from rfl, bind_some', benc_s2 hp, bind_some']
  cases p.any wideN <;> rfl
 have step1 : board_Encode_s1 p q 1 = some (bif q.any wideN then .inr (.inl (⟨#[]⟩, 9)) else .inl 2) := by
  unfold board_Encode_s1
  rw [show decide ((1 : Int) < 2) = true from rfl, cond_true, show getI [p, q] 1 = some q from rfl, bind_some', benc_s2 hq, bind_some']
  cases q.any wideN <;> rfl
 have step2 : board_Encode_s1 p q 2 = some (.inr (.inr ())) := rfl
 cases h1 : p.any wideN with
 | true =>
  rw [h1] at step0
  exact loopO_done step0
 | false =>
  rw [h1] at step0
  rw [loopO_next (step := fun x => board_Encode_s1 p q x) step0]
  cases h2 : q.any wideN with
  | true =>
   rw [h2] at step1
   exact loopO_done step1
  | false =>
   rw [h2] at step1
   rw [loopO_next (step := fun x => board_Encode_s1 p q x) step1]
   exact loopO_done step2
def ob (b : TBoard) : List Nat := tb b.Id ++ tb b.Log ++ tb b.Species ++ ib (numsB b) ++ ib (numsD b.Defects)
noncomputable def enc30 (b : TBoard) : ByteArray × Int := if 16 < b.Id.size ∨ 16 < b.Log.size ∨ 16 < b.Species.size then (⟨#[]⟩, 6) else if 64 < b.Defects.length then (⟨#[]⟩, 4) else if ((numsB b).any wideN || (numsD b.Defects).any wideN) = true then (⟨#[]⟩, 9) else (mkS (ob b), 0)
theorem narrow {l : List Int} (h : l.any wideN = false) : ∀ n ∈ l, I64 n ∧ -1099511627776 ≤ n ∧ n ≤ 1099511627776 := by
 intro n hn
 rw [List.any_eq_false] at h
 have := h n hn
 unfold wideN at this
 rw [Bool.not_eq_true, Bool.or_eq_false_iff, decide_eq_false_iff_not, decide_eq_false_iff_not] at this
 unfold I64
 omega
theorem tb_len {s : ByteArray} (h : s.size ≤ 1000) : (tb s).length ≤ 1010 := by
 unfold tb
 have := uv_le (n := s.size) (by omega)
 rw [List.length_append, bl_length]
 omega
theorem ib_len9 {l : List Int} (hl : ∀ n ∈ l, I64 n) (h : l.length ≤ 1000) : (ib l).length ≤ 10010 := by
 unfold ib
 have h1 := uv_le (n := l.length) (by omega)
 have h2 := il_len hl
 rw [List.length_append]
 omega
theorem bencode_eq (b : TBoard) : board_Encode_g b = some (enc30 b) := by
 unfold board_Encode_g enc30
 by_cases h1 : 16 < b.Id.size
 ·rw [decide_eq_true (by omega), if_pos (.inl h1)]
  rfl
 rw [decide_eq_false (by omega), cond_false]
 by_cases h2 : 16 < b.Log.size
 ·rw [decide_eq_true (by omega), if_pos (.inr (.inl h2))]
  rfl
 rw [decide_eq_false (by omega), cond_false]
 by_cases h3 : 16 < b.Species.size
 ·rw [decide_eq_true (by omega), if_pos (.inr (.inr h3))]
  rfl
 rw [decide_eq_false (by omega), cond_false, if_neg (by omega)]
 by_cases h4 : 64 < b.Defects.length
 ·rw [decide_eq_true (by omega), if_pos h4]
  rfl
 have hD := numsD_len b.Defects
 rw [decide_eq_false (by omega), cond_false, if_neg h4, putBoard_eq, bind_some', putDefects_eq (by omega), bind_some', benc_s1 (by show 14 ≤ _; omega) (by omega), bind_some']
 cases h5 : ((numsB b).any wideN || (numsD b.Defects).any wideN) with
 | true => rfl
 | false =>
  rw [Bool.or_eq_false_iff] at h5
  have hn := narrow h5.1
  have hm := narrow h5.2
  have k1 := tb_len (s := b.Id) (by omega)
  have k2 := tb_len (s := b.Log) (by omega)
  have k3 := tb_len (s := b.Species) (by omega)
  have k4 := ib_len9 (l := numsB b) (fun n h => (hn n h).1) (by show 14 ≤ 1000; omega)
  have k5 := ib_len9 (l := numsD b.Defects) (fun n h => (hm n h).1) (by omega)
  rw [wire_text (by omega), wire_text (by omega), wire_text (by omega), wire_ints (by show 14 ≤ _; omega) (fun n h => (hn n h).1), wire_ints (by omega) (fun n h => (hm n h).1)]
  simp only [cond_false, bind_some', Sum.elim_inr]
  rw [catO_eq (by rw [mkS_size, mkS_size]; omega), bind_some', ← mkS_append, catO_eq (by rw [mkS_size, mkS_size, List.length_append]; omega), bind_some', ← mkS_append, catO_eq (by rw [mkS_size, mkS_size, List.length_append, List.length_append]; omega), bind_some', ← mkS_append, catO_eq (by rw [mkS_size, mkS_size, List.length_append, List.length_append, List.length_append]; omega), bind_some', ← mkS_append, if_neg (by simp)]
  rfl
def rdT (L : List Nat) (p : Nat × Nat) : List Nat × Nat × Nat := if p.2 = 0 then ((txt (L.drop p.1) 16).1, nat_ p.1 (txt (L.drop p.1) 16).2.1 (txt (L.drop p.1) 16).2.2, (txt (L.drop p.1) 16).2.2) else ([], p)
def rdI (most : Int) (L : List Nat) (p : Nat × Nat) : List Int × Nat × Nat := if p.2 = 0 then ((ints (L.drop p.1) most (-1099511627776) 1099511627776).1, nat_ p.1 (ints (L.drop p.1) most (-1099511627776) 1099511627776).2.1 (ints (L.drop p.1) most (-1099511627776) 1099511627776).2.2, (ints (L.drop p.1) most (-1099511627776) 1099511627776).2.2) else ([], p)
theorem I16 : I64 16 := by unfold I64; omega
theorem I14 : I64 14 := by unfold I64; omega
theorem I448 : I64 448 := by unfold I64; omega
section
variable {s : ByteArray} (hs : s.size ≤ 1000000000000) {p : Nat × Nat} (hp : p.1 ≤ s.size)
include hs hp
theorem wire_T : wire_Reader__Text_g (wR s p.1 p.2) 16 = some (mkS (rdT (bl s) p).1, wR s (rdT (bl s) p).2.1 (rdT (bl s) p).2.2) := by
 unfold rdT
 by_cases h : p.2 = 0
 ·rw [if_pos h, h, wire_rText hs hp I16]
 ·rw [if_neg h]
  unfold wire_Reader__Text_g
  rw [stopped_t h]
  rfl
theorem wire_I {most : Int} (hm : I64 most) : wire_Reader__Ints_g (wR s p.1 p.2) most (-1099511627776) 1099511627776 = some ((rdI most (bl s) p).1, wR s (rdI most (bl s) p).2.1 (rdI most (bl s) p).2.2) := by
 unfold rdI
 by_cases h : p.2 = 0
 ·rw [if_pos h, h, wire_rInts hs hp _ _ hm]
 ·rw [if_neg h]
  unfold wire_Reader__Ints_g
  rw [stopped_t h]
  rfl
end
theorem rdT_le {L : List Nat} {p : Nat × Nat} (h : p.1 ≤ L.length) : (rdT L p).2.1 ≤ L.length := by
 unfold rdT
 by_cases h0 : p.2 = 0
 ·rw [if_pos h0]
  dsimp only
  unfold nat_
  split
  ·rename_i h1
   have := (txt_pos h1).2
   rw [List.length_drop] at this
   omega
  ·exact h
 ·rw [if_neg h0]
  exact h
theorem rdI_le {most : Int} {L : List Nat} {p : Nat × Nat} (h : p.1 ≤ L.length) : (rdI most L p).2.1 ≤ L.length := by
 unfold rdI
 by_cases h0 : p.2 = 0
 ·rw [if_pos h0]
  dsimp only
  unfold nat_
  split
  ·rename_i h1
   have := (ints_pos h1).2
   rw [List.length_drop] at this
   omega
  ·exact h
 ·rw [if_neg h0]
  exact h
theorem ints_most {l : List Nat} {most low high : Int} (hm : 0 ≤ most) : ((ints l most low high).1.length : Int) ≤ most := by
 unfold ints
 by_cases h1 : (cnt l most).2.2 ≠ 0
 ·rw [if_pos h1]
  simpa using hm
 ·rw [if_neg h1]
  split
  ·simpa using hm
  ·rename_i h2
   have h3 := cnt_pos (l := l) (most := most) (by omega)
   have h4 := its_pos (m := (cnt l most).1) (l := l.drop (cnt l most).2.1) (low := low) (high := high) (by omega)
   dsimp only
   rw [h4.1]
   exact h3.2.2.2
theorem rdI_most {most : Int} (hm : 0 ≤ most) (L : List Nat) (p : Nat × Nat) : ((rdI most L p).1.length : Int) ≤ most := by
 unfold rdI
 split
 ·exact ints_most hm
 ·simpa using hm
def T1 (L : List Nat) : List Nat × Nat × Nat := rdT L (0, 0)
def T2 (L : List Nat) : List Nat × Nat × Nat := rdT L (T1 L).2
def T3 (L : List Nat) : List Nat × Nat × Nat := rdT L (T2 L).2
def T4 (L : List Nat) : List Int × Nat × Nat := rdI 14 L (T3 L).2
def T5 (L : List Nat) : List Int × Nat × Nat := rdI 448 L (T4 L).2
theorem T1_le (L : List Nat) : (T1 L).2.1 ≤ L.length := rdT_le (by simp)
theorem T2_le (L : List Nat) : (T2 L).2.1 ≤ L.length := rdT_le (T1_le L)
theorem T3_le (L : List Nat) : (T3 L).2.1 ≤ L.length := rdT_le (T2_le L)
theorem T4_le (L : List Nat) : (T4 L).2.1 ≤ L.length := rdI_le (T3_le L)
theorem T5_le (L : List Nat) : (T5 L).2.1 ≤ L.length := rdI_le (T4_le L)
theorem T5_most (L : List Nat) : (T5 L).1.length ≤ 448 := by
 have := rdI_most (most := 448) (by omega) L (T4 L).2
 unfold T5
 omega
def zB : TBoard := ⟨⟨#[]⟩, ⟨#[]⟩, ⟨#[]⟩, 0, ⟨⟨0, 0⟩, ⟨0, 0⟩, ⟨0, 0⟩⟩, 0, [], 0, ⟨0, 0, 0⟩, false, 0⟩
def mkB (t u v : ByteArray) (D : List Df) : List Int → TBoard
 | [a, b, c, d, e, f, g, h, i, j, k, l, m, n] => ⟨t, u, v, a, ⟨⟨b, c⟩, ⟨d, e⟩, ⟨f, g⟩⟩, h, D, i, ⟨j, k, l⟩, m == 1, n⟩
 | _ => zB
def flagOk (l : List Int) : Prop := l[12]? = some 0 ∨ l[12]? = some 1
instance (l : List Int) : Decidable (flagOk l) := by unfold flagOk; exact inferInstance
def decOk (n : Nat) (q4 q5 : List Int × Nat × Nat) : Prop := q5.2.2 = 0 ∧ q5.2.1 = n ∧ q4.1.length = 14 ∧ q5.1.length % 7 = 0 ∧ flagOk q4.1
instance (n : Nat) (q4 q5 : List Int × Nat × Nat) : Decidable (decOk n q4 q5) := by unfold decOk; exact inferInstance
noncomputable def dec30 (s : ByteArray) : TBoard × Int := if decOk s.size (T4 (bl s)) (T5 (bl s)) then (mkB (mkS (T1 (bl s)).1) (mkS (T2 (bl s)).1) (mkS (T3 (bl s)).1) (unD (T5 (bl s)).1) (T4 (bl s)).1, 0) else (zB, 5)
theorem n14 {l : List Int} (h : l.length = 14) : ∃ a b c d e f g h i j k m n o, l = [a, b, c, d, e, f, g, h, i, j, k, m, n, o] := by
 match l, h with
 | [a, b, c, d, e, f, g, h, i, j, k, m, n, o], _ => exact ⟨a, b, c, d, e, f, g, h, i, j, k, m, n, o, rfl⟩
theorem tmod7 (n : Nat) : Int.tmod ((n : Nat) : Int) 7 = ((n % 7 : Nat) : Int) := rfl
theorem bdecode_eq {s : ByteArray} (hs : s.size ≤ 1000000000000) : board_Decode_g s = some (dec30 s) := by
 have l1 : (T1 (bl s)).2.1 ≤ s.size := by have := T1_le (bl s); rwa [bl_length] at this
 have l2 : (T2 (bl s)).2.1 ≤ s.size := by have := T2_le (bl s); rwa [bl_length] at this
 have l3 : (T3 (bl s)).2.1 ≤ s.size := by have := T3_le (bl s); rwa [bl_length] at this
 have l4 : (T4 (bl s)).2.1 ≤ s.size := by have := T4_le (bl s); rwa [bl_length] at this
 have l5 : (T5 (bl s)).2.1 ≤ s.size := by have := T5_le (bl s); rwa [bl_length] at this
 unfold board_Decode_g
 rw [letB_eq, show wire_NewReader_g s = wR s 0 0 from rfl]
 have e1 := wire_T hs (p := (0, 0)) (by simp)
 have e2 := wire_T hs (p := (T1 (bl s)).2) l1
 have e3 := wire_T hs (p := (T2 (bl s)).2) l2
 have e4 := wire_I hs (p := (T3 (bl s)).2) l3 I14
 have e5 := wire_I hs (p := (T4 (bl s)).2) l4 I448
 have e6 := end_eq hs (e := (T5 (bl s)).2.2) l5
 rw [show wire_Reader__Text_g (wR s 0 0) 16 = some (mkS (T1 (bl s)).1, wR s (T1 (bl s)).2.1 (T1 (bl s)).2.2) from e1, bind_some']
 dsimp only
 rw [show wire_Reader__Text_g (wR s (T1 (bl s)).2.1 (T1 (bl s)).2.2) 16 = some (mkS (T2 (bl s)).1, wR s (T2 (bl s)).2.1 (T2 (bl s)).2.2) from e2, bind_some']
 dsimp only
 rw [show wire_Reader__Text_g (wR s (T2 (bl s)).2.1 (T2 (bl s)).2.2) 16 = some (mkS (T3 (bl s)).1, wR s (T3 (bl s)).2.1 (T3 (bl s)).2.2) from e3, bind_some']
 dsimp only
 rw [show wire_Reader__Ints_g (wR s (T3 (bl s)).2.1 (T3 (bl s)).2.2) 14 (-1099511627776) 1099511627776 = some ((T4 (bl s)).1, wR s (T4 (bl s)).2.1 (T4 (bl s)).2.2) from e4, bind_some']
 dsimp only
 rw [show wire_Reader__Ints_g (wR s (T4 (bl s)).2.1 (T4 (bl s)).2.2) 448 (-1099511627776) 1099511627776 = some ((T5 (bl s)).1, wR s (T5 (bl s)).2.1 (T5 (bl s)).2.2) from e5, bind_some']
 dsimp only
 have hm := T5_most (bl s)
 unfold dec30
 rw [e6]
 generalize mkS (T1 (bl s)).1 = t1
 generalize mkS (T2 (bl s)).1 = t2
 generalize mkS (T3 (bl s)).1 = t3
 clear e1 e2 e3 e4 e5 e6 l1 l2 l3 l4
 generalize T4 (bl s) = q4
 generalize T5 (bl s) = q5 at *
 by_cases h1 : q5.2.2 = 0
 ·rw [if_pos h1]
  by_cases h2 : q5.2.1 < s.size
  ·rw [if_pos h2, if_neg (fun z => by unfold decOk at z; omega)]
   rfl
  rw [if_neg h2, show ((0 : Int) != 0) = false from rfl, cond_false]
  by_cases h3 : q4.1.length = 14
  ·rw [show (((q4.1.length : Nat) : Int) != 14) = false by simp [h3], cond_false]
   by_cases h4 : q5.1.length % 7 = 0
   ·rw [show (Int.tmod ((q5.1.length : Nat) : Int) 7 != 0) = false by
     rw [bne_eq_false_iff_eq, tmod7]
     omega, cond_false]
    obtain ⟨q4a, q4b⟩ := q4
    dsimp only at h3 ⊢
    obtain ⟨a, b, c, d, e, f, g, h, i, j, k, m, n, o, rfl⟩ := n14 h3
    rw [show getI [a, b, c, d, e, f, g, h, i, j, k, m, n, o] 12 = some n from rfl, bind_some']
    by_cases g1 : n < 0
    ·rw [decide_eq_true g1, cond_true, if_neg]
     ·rfl
     ·rintro ⟨_, _, _, _, z | z⟩
      ·have : n = 0 := Option.some.inj z
       omega
      ·have : n = 1 := Option.some.inj z
       omega
    rw [decide_eq_false g1, cond_false, bind_some']
    by_cases g2 : 1 < n
    ·rw [decide_eq_true g2, cond_true, if_neg]
     ·rfl
     ·rintro ⟨_, _, _, _, z | z⟩
      ·have : n = 0 := Option.some.inj z
       omega
      ·have : n = 1 := Option.some.inj z
       omega
    rw [decide_eq_false g2, cond_false, if_pos ⟨h1, by omega, by rfl, h4, by
     have : n = 0 ∨ n = 1 := by omega
     rcases this with rfl | rfl
     ·exact .inl rfl
     ·exact .inr rfl⟩]
    rw [show getI [a, b, c, d, e, f, g, h, i, j, k, m, n, o] 0 = some a from rfl, show subO [a, b, c, d, e, f, g, h, i, j, k, m, n, o] 1 7 = some [b, c, d, e, f, g] from rfl, show getI [a, b, c, d, e, f, g, h, i, j, k, m, n, o] 7 = some h from rfl, show getI [a, b, c, d, e, f, g, h, i, j, k, m, n, o] 8 = some i from rfl, show getI [a, b, c, d, e, f, g, h, i, j, k, m, n, o] 9 = some j from rfl, show getI [a, b, c, d, e, f, g, h, i, j, k, m, n, o] 10 = some k from rfl, show getI [a, b, c, d, e, f, g, h, i, j, k, m, n, o] 11 = some m from rfl, show getI [a, b, c, d, e, f, g, h, i, j, k, m, n, o] 13 = some o from rfl]
    simp only [bind_some']
    rw [show board_toBox_g [b, c, d, e, f, g] = some ⟨⟨b, c⟩, ⟨d, e⟩, ⟨f, g⟩⟩ from rfl]
    simp only [bind_some']
    rw [show (q5.1.length % 7 == 0) = true by simp [h4], decide_eq_true (p := q5.1.length ≤ 2000000000000) (by omega), Bool.and_true, cond_true, dec_ch (by omega) _ (by omega), bind_some', List.take_of_length_le (by rw [unD_len h4]; exact Nat.le_refl _)]
    rfl
   ·rw [show (Int.tmod ((q5.1.length : Nat) : Int) 7 != 0) = true by
     rw [bne_iff_ne, tmod7]
     omega, cond_true, if_neg (fun z => by unfold decOk at z; omega)]
    rfl
  ·rw [show (((q4.1.length : Nat) : Int) != 14) = true by simp; omega, cond_true, if_neg (fun z => by unfold decOk at z; omega)]
   rfl
 ·rw [if_neg h1, ne0_t h1, if_neg (fun z => h1 z.1)]
  rfl
end Go.Proofs.YtpoehckffpbfiaaGreat
