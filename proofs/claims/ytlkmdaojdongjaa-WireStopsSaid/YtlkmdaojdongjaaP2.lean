/- P2: what functions of the program compute (written by mod.py). -/
import Derived.Test.YtlkmdaojdongjaaP1
import Derived.KernelRfl
namespace Go.Proofs.Ytlkmdaojdongjaa
open Go Go.Ab
set_option linter.unusedSimpArgs false
set_option linter.unusedVariables false
set_option maxRecDepth 20000

/-! texts and lists of numbers as bytes -/
theorem letB_eq {α β : Type} (x : α) (K : α → β) : letB x K = K x := rfl
def ub (n : Int) : List Nat := uv (zz n)
def il (l : List Int) : List Nat := l.flatMap ub
theorem uv_le {n : Nat} (h : n < 18446744073709551616) : (uv n).length ≤ 10 := uv_len (lt_128_10 h)
theorem ub_le {n : Int} (h : I64 n) : (ub n).length ≤ 10 := uv_le (zz_lt h)
theorem il_len : ∀ {l : List Int}, (∀ n ∈ l, I64 n) → (il l).length ≤ 10 * l.length
  | [], _ => by simp [il]
  | n :: l, h => by
    have h1 := ub_le (h n (List.mem_cons_self ..))
    have h2 := il_len (l := l) fun m hm => h m (List.mem_cons_of_mem _ hm)
    unfold il at h2 ⊢
    rw [List.flatMap_cons, List.length_append, List.length_cons]
    omega
theorem il_lt {l : List Int} {c : Nat} (h : c ∈ il l) : c < 256 := by
  obtain ⟨n, _, hc⟩ := List.mem_flatMap.1 h
  exact uv_lt _ c hc
theorem il_append (a b : List Int) : il (a ++ b) = il a ++ il b := by simp [il]
theorem il_one (n : Int) : il [n] = ub n := by simp [il]
def cI (l : List Nat) : List Int := l.map (fun c => ((c : Nat) : Int))
theorem cI_length (l : List Nat) : (cI l).length = l.length := by simp [cI]
theorem sbytes_bl (s : ByteArray) : sbytes s = cI (bl s) := by
  unfold sbytes cI bl
  rw [List.map_map]
  rfl
theorem b2s_cI (l : List Nat) : b2s (cI l) = mkS l := by
  rw [b2s_mkS]
  unfold cI
  simp [List.map_map, Function.comp_def]
theorem strO_cI {l : List Nat} (h : l ≠ []) (hc : ∀ c ∈ l, c < 256) : strO (cI l) = some (mkS l) := by
  unfold strO
  have h1 : (!(cI l).isEmpty) = true := by
    cases l with
    | nil => exact absurd rfl h
    | cons a l => rfl
  have h2 : (cI l).all (fun n => decide (0 ≤ n) && decide (n < 256)) = true := by
    rw [List.all_eq_true]
    intro n hn
    obtain ⟨c, hcl, rfl⟩ := List.mem_map.1 hn
    have := hc c hcl
    simp
    omega
  rw [h1, h2, b2s_cI]
  rfl
theorem ws_s {b : List Nat} {s : ByteArray} (h : b.length + s.size ≤ 100000000000000) : __strings_Builder__WriteString_s_g (cI b) s = some ((s.size : Int), cI (b ++ bl s)) := by
  unfold __strings_Builder__WriteString_s_g __strings_Builder__copyCheck_s_g
  rw [letB_eq, sbytes_bl, appO_eq (by rw [cI_length, cI_length, bl_length]; omega) (by rw [cI_length, cI_length, bl_length]; omega), bind_some']
  simp [cI]
theorem ws_n {s : ByteArray} (h : s.size ≤ 100000000000000) : __strings_Builder__WriteString_n_g [] s = some ((s.size : Int), cI (bl s)) := by
  unfold __strings_Builder__WriteString_n_g __strings_Builder__copyCheck_n_g
  rw [letB_eq, sbytes_bl, appO_eq (by rw [cI_length, bl_length]; simp; omega) (by rw [cI_length, bl_length]; simp; omega), bind_some']
  rfl
theorem sb_s {b : List Nat} (h0 : b ≠ []) (hc : ∀ c ∈ b, c < 256) (h : b.length ≤ 100000000000000) : __strings_Builder__String_s_g (cI b) = some (mkS b) := by
  unfold __strings_Builder__String_s_g
  have h1 : ((cI b).length != 0) = true := by
    rw [cI_length]
    cases b with
    | nil => exact absurd rfl h0
    | cons a l => rfl
  rw [h1, cond_true, Nat.ble_eq_true_of_le (by rw [cI_length]; omega), cond_true, strO_cI h0 hc, bind_some']
theorem bl_uv (n : Nat) : bl (mkS (uv n)) = uv n := bl_mkS (uv_lt n)
theorem bl_ub (n : Int) : bl (mkS (ub n)) = ub n := bl_uv _
/-- The bytes of a text. -/
def tb (s : ByteArray) : List Nat := uv s.size ++ bl s
def ib (l : List Int) : List Nat := uv l.length ++ il l
theorem tb_lt {s : ByteArray} {c : Nat} (h : c ∈ tb s) : c < 256 := by
  rcases List.mem_append.1 h with h | h
  · exact uv_lt _ _ h
  · exact bl_lt h
theorem ib_lt {l : List Int} {c : Nat} (h : c ∈ ib l) : c < 256 := by
  rcases List.mem_append.1 h with h | h
  · exact uv_lt _ _ h
  · exact il_lt h
theorem mkS_tb (s : ByteArray) : mkS (tb s) = mkS (uv s.size) ++ s := by
  unfold tb
  rw [mkS_append, mkS_bl]
theorem wire_text {s : ByteArray} (h : s.size ≤ 1000000000000) : wire_Text_g s = some (mkS (tb s)) := by
  have := uv_le (n := s.size) (by omega)
  unfold wire_Text_g
  rw [WU64_eq (by omega), wire_uint (by omega), bind_some', catO_eq (by rw [mkS_size]; omega), bind_some', mkS_tb]
theorem r05_text {s : ByteArray} (h : s.size ≤ 1000000000000) : r05_Text_g s = some (mkS (tb s)) := by
  have := uv_le (n := s.size) (by omega)
  unfold r05_Text_g
  rw [WU64_eq (by omega), r05_uint (by omega), bind_some', catO_eq (by rw [mkS_size]; omega), bind_some', mkS_tb]
theorem il_take {l : List Int} {j : Nat} (hj : j < l.length) : il (l.take (j + 1)) = il (l.take j) ++ ub l[j] := by
  rw [List.take_succ_eq_append_getElem hj, il_append, il_one]
theorem il_take_len {l : List Int} (hl : ∀ n ∈ l, I64 n) (j : Nat) : (il (l.take j)).length ≤ 10 * l.length := by
  have := il_len (l := l.take j) fun n hn => hl n (List.mem_of_mem_take hn)
  rw [List.length_take] at this
  omega
theorem ib_ne (l : List Int) : ib l ≠ [] := by
  unfold ib
  have := uv_pos l.length
  cases h : uv l.length with
  | nil => rw [h] at this; simp at this
  | cons a b => simp
theorem wire_ints {l : List Int} (h : l.length ≤ 1000000000000) (hl : ∀ n ∈ l, I64 n) : wire_Ints_g l = some (mkS (ib l)) := by
  have hu := uv_le (n := l.length) (by omega)
  unfold wire_Ints_g
  rw [WU64_eq (by omega), wire_uint (by omega), bind_some', ws_n (by rw [mkS_size]; omega), bind_some', bl_uv]
  have hloop : loopO (fun q : Int × List Int => wire_Ints_s1 l q.1 q.2) (0, cI (uv l.length)) = some (cI (ib l)) := by
    have := loopO_upto (step := fun q : Int × List Int => wire_Ints_s1 l q.1 q.2) (fun j => ((j : Int), cI (uv l.length ++ il (l.take j)))) l.length (y := cI (ib l)) (fun j hj => ?_) ?_
    · simpa [il] using this
    · have h1 := il_take_len hl j
      have h2 := ub_le (hl _ (List.getElem_mem hj))
      unfold wire_Ints_s1
      rw [lt_nat hj, cond_true, getI_at hj, bind_some', wire_int (hl _ (List.getElem_mem hj)), bind_some', ws_s (by rw [mkS_size, List.length_append]; unfold ub at h2; omega), bind_some', W64_succ (by omega)]
      dsimp only
      rw [il_take hj, bl_uv, List.append_assoc]
      rfl
    · unfold wire_Ints_s1
      rw [nlt_nat, cond_false, List.take_length]
      rfl
  rw [hloop, bind_some', sb_s (ib_ne l) (fun _ => ib_lt) (by unfold ib; rw [List.length_append]; have := il_len hl; omega), bind_some']
theorem r05_ints {l : List Int} (h : l.length ≤ 1000000000000) (hl : ∀ n ∈ l, I64 n) : r05_Ints_g l = some (mkS (ib l)) := by
  have hu := uv_le (n := l.length) (by omega)
  unfold r05_Ints_g
  rw [WU64_eq (by omega), r05_uint (by omega), bind_some']
  have hloop : loopO (fun q : ByteArray × Int => r05_Ints_s1 l q.1 q.2) (mkS (uv l.length), 0) = some (mkS (ib l)) := by
    have := loopO_upto (step := fun q : ByteArray × Int => r05_Ints_s1 l q.1 q.2) (fun j => (mkS (uv l.length ++ il (l.take j)), (j : Int))) l.length (y := mkS (ib l)) (fun j hj => ?_) ?_
    · simpa [il] using this
    · have h1 := il_take_len hl j
      have h2 := ub_le (hl _ (List.getElem_mem hj))
      unfold r05_Ints_s1
      rw [lt_nat hj, cond_true, getI_at hj, bind_some', r05_int (hl _ (List.getElem_mem hj)), bind_some', catO_eq (by rw [mkS_size, mkS_size, List.length_append]; unfold ub at h2; omega), bind_some', W64_succ (by omega)]
      dsimp only
      rw [il_take hj, ← mkS_append, List.append_assoc]
      rfl
    · unfold r05_Ints_s1
      rw [nlt_nat, cond_false, List.take_length]
      rfl
  rw [hloop, bind_some']
theorem wireTexts_true (s : ByteArray) (l : List Int) (hl : ∀ n ∈ l, I64 n) : l05_WireTexts_g s l = some true := by
  unfold l05_WireTexts_g
  rw [aw05]
  by_cases h1 : 3000 < s.size
  · rw [decide_eq_true (by omega)]
    rfl
  · rw [decide_eq_false (by omega), cond_false]
    by_cases h2 : 300 < l.length
    · rw [decide_eq_true (by omega)]
      rfl
    · rw [decide_eq_false (by omega), cond_false, wire_text (by omega), r05_text (by omega), wire_ints (by omega) hl, r05_ints (by omega) hl]
      simp only [bind_some', bEq_dec, decide_true, cond_true]
theorem bEq_self (s : ByteArray) : bEq s s = true := by rw [bEq_dec]; simp
theorem wireNil_true (o : Tsawmilllaw05_Op) : l05_WireNil_g o = some true := by
  unfold l05_WireNil_g
  rw [aw05]
  have hz : l05_zero_g (l05_read_nil_g o) = true := by
    unfold l05_read_nil_g
    rcases Bool.eq_false_or_eq_true (o.Kind == 0) with h | h <;> rw [h]
    · rfl
    · rw [cond_false]
      rcases Bool.eq_false_or_eq_true (o.Kind == 1) with h | h <;> rw [h]
      · rfl
      · rw [cond_false]
        rcases Bool.eq_false_or_eq_true (o.Kind == 2) with h | h <;> rw [h] <;> rfl
  rw [letB_eq, hz]
  rfl

end Go.Proofs.Ytlkmdaojdongjaa
