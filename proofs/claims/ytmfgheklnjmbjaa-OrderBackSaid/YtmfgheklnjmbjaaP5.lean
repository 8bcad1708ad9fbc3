/- P5: what functions of the program compute (written by mod.py). -/
import Derived.Test.YtmfgheklnjmbjaaP4
import Derived.KernelRfl
namespace Go.Proofs.Ytmfgheklnjmbjaa
open Go Go.Ab
set_option linter.unusedSimpArgs false
set_option linter.unusedVariables false
set_option maxRecDepth 20000

/-! texts of orders -/
theorem eqV_order (x : TOrder) : eqV encTOrder x x = true := by
  have hb : ∀ s : ByteArray, bEq s s = true := bEq_self
  unfold eqV encTOrder
  simp [eqA, AV.cells, veq, bEq] at hb ⊢
def nums (o : TOrder) : List Int := [o.Product, o.Length, o.Grade, o.Moist, o.Want, o.Minus, o.Plus, o.Price, o.Due]
def wideN (n : Int) : Bool := decide (n < -1099511627776) || decide (1099511627776 < n)
theorem enc_loop (o : TOrder) : loopO (fun q => order_Encode_s1 o q) 0 = some (bif (nums o).any wideN then .inl (⟨#[]⟩, 9) else .inr ()) := by
  have := loopO_foldX (step := fun q : Int => order_Encode_s1 o q) (nums o) wideN (fun (u : Unit) _ => u) () (fun _ j => (j : Int)) (.inl (⟨#[]⟩, 9)) (fun _ => .inr ()) (fun _ _ => True) trivial (fun _ _ _ _ _ => trivial) (fun s j hj _ hb => by
    have hj9 : j < 9 := hj
    unfold wideN at hb
    rw [Bool.or_eq_false_iff] at hb
    unfold order_Encode_s1
    rw [lt_nat hj9, cond_true, show getI ([o.Product, o.Length, o.Grade, o.Moist, o.Want, o.Minus, o.Plus, o.Price, o.Due]) (j : Int) = some ((nums o)[j]'hj) from getI_at hj, bind_some', hb.1, hb.2, W64_succ (by omega)]
    rfl) (fun s j hj _ hb => by
    have hj9 : j < 9 := hj
    unfold wideN at hb
    unfold order_Encode_s1
    rw [lt_nat hj9, cond_true, show getI ([o.Product, o.Length, o.Grade, o.Moist, o.Want, o.Minus, o.Plus, o.Price, o.Due]) (j : Int) = some ((nums o)[j]'hj) from getI_at hj, bind_some']
    cases h1 : decide ((nums o)[j]'hj < -1099511627776) with
    | true => rfl
    | false =>
      rw [h1, Bool.false_or] at hb
      rw [hb]
      rfl) (fun _ _ => by
    unfold order_Encode_s1
    rw [show (nums o).length = 9 from rfl, nlt_nat]
    rfl)
  exact this
theorem renc_loop {l : List Int} (hl : l.length ≤ 1000) : loopO (fun q => r46_Encode_s1 l q) 0 = some (bif l.any wideN then .inl (⟨#[]⟩, 9) else .inr ()) := by
  have := loopO_foldX (step := fun q : Int => r46_Encode_s1 l q) l wideN (fun (u : Unit) _ => u) () (fun _ j => (j : Int)) (.inl (⟨#[]⟩, 9)) (fun _ => .inr ()) (fun _ _ => True) trivial (fun _ _ _ _ _ => trivial) (fun s j hj _ hb => by
    unfold wideN at hb
    rw [Bool.or_eq_false_iff] at hb
    unfold r46_Encode_s1
    rw [lt_nat hj, cond_true, getI_at hj, bind_some', hb.1, cond_false, bind_some', hb.2, W64_succ (by omega)]
    rfl) (fun s j hj _ hb => by
    unfold wideN at hb
    unfold r46_Encode_s1
    rw [lt_nat hj, cond_true, getI_at hj, bind_some', bind_some']
    cases h1 : decide (l[j] < -1099511627776) with
    | true => rfl
    | false =>
      rw [h1, Bool.false_or] at hb
      rw [hb]
      rfl) (fun _ _ => by
    unfold r46_Encode_s1
    rw [nlt_nat]
    rfl)
  exact this
def ob (o : TOrder) : List Nat := tb o.Id ++ tb o.Species ++ ib (nums o)
noncomputable def enc46 (o : TOrder) : ByteArray × Int := if 16 < o.Id.size ∨ 16 < o.Species.size then (⟨#[]⟩, 6) else if (nums o).any wideN = true then (⟨#[]⟩, 9) else (mkS (ob o), 0)
theorem nums_i64 {o : TOrder} (h : (nums o).any wideN = false) : ∀ n ∈ nums o, I64 n ∧ -1099511627776 ≤ n ∧ n ≤ 1099511627776 := by
  intro n hn
  rw [List.any_eq_false] at h
  have := h n hn
  unfold wideN at this
  rw [Bool.not_eq_true, Bool.or_eq_false_iff, decide_eq_false_iff_not, decide_eq_false_iff_not] at this
  unfold I64
  omega
theorem tb_len {s : ByteArray} (h : s.size ≤ 1000) : (tb s).length ≤ 1010 := by
  unfold tb
  have := uv_le (n := s.size) (by omega)
  rw [List.length_append, bl_length]
  omega
theorem ib_len9 {l : List Int} (hl : ∀ n ∈ l, I64 n) (h : l.length ≤ 1000) : (ib l).length ≤ 10010 := by
  unfold ib
  have h1 := uv_le (n := l.length) (by omega)
  have h2 := il_len hl
  rw [List.length_append]
  omega
theorem encode_eq (o : TOrder) : order_Encode_g o = some (enc46 o) ∧ r46_Encode_g o = some (enc46 o) := by
  unfold order_Encode_g r46_Encode_g enc46
  rw [letB_eq, show r46_numbers_g o = nums o from rfl, enc_loop, renc_loop (by show 9 ≤ 1000; omega), show ([o.Product, o.Length, o.Grade, o.Moist, o.Want, o.Minus, o.Plus, o.Price, o.Due] : List Int) = nums o from rfl]
  by_cases h1 : 16 < o.Id.size
  · rw [decide_eq_true (by omega), if_pos (.inl h1)]
    exact ⟨rfl, rfl⟩
  · rw [decide_eq_false (by omega)]
    by_cases h2 : 16 < o.Species.size
    · rw [decide_eq_true (by omega), if_pos (.inr h2)]
      exact ⟨rfl, rfl⟩
    · rw [decide_eq_false (by omega), if_neg (by omega)]
      cases h3 : (nums o).any wideN with
      | true => exact ⟨rfl, rfl⟩
      | false =>
        have hn := nums_i64 h3
        have k1 := tb_len (s := o.Id) (by omega)
        have k2 := tb_len (s := o.Species) (by omega)
        have k3 := ib_len9 (l := nums o) (fun n h => (hn n h).1) (by show 9 ≤ 1000; omega)
        have e3 := wire_ints (l := nums o) (by show 9 ≤ _; omega) (fun n h => (hn n h).1)
        have e4 := r05_ints (l := nums o) (by show 9 ≤ _; omega) (fun n h => (hn n h).1)
        rw [wire_text (by omega), wire_text (by omega), r05_text (by omega), r05_text (by omega), e3, e4]
        simp only [cond_false, bind_some', Sum.elim_inr]
        rw [catO_eq (by rw [mkS_size, mkS_size]; omega), bind_some', ← mkS_append, catO_eq (by rw [mkS_size, mkS_size, List.length_append]; omega), bind_some', ← mkS_append, if_neg (by simp)]
        exact ⟨rfl, rfl⟩
/-! reading -/
def rdT (L : List Nat) (p : Nat × Nat) : List Nat × Nat × Nat := if p.2 = 0 then ((txt (L.drop p.1) 16).1, nat_ p.1 (txt (L.drop p.1) 16).2.1 (txt (L.drop p.1) 16).2.2, (txt (L.drop p.1) 16).2.2) else ([], p)
def rdI (L : List Nat) (p : Nat × Nat) : List Int × Nat × Nat := if p.2 = 0 then ((ints (L.drop p.1) 9 (-1099511627776) 1099511627776).1, nat_ p.1 (ints (L.drop p.1) 9 (-1099511627776) 1099511627776).2.1 (ints (L.drop p.1) 9 (-1099511627776) 1099511627776).2.2, (ints (L.drop p.1) 9 (-1099511627776) 1099511627776).2.2) else ([], p)
theorem mkS_nil : mkS [] = ⟨#[]⟩ := rfl
theorem I16 : I64 16 := by unfold I64; omega
theorem I9 : I64 9 := by unfold I64; omega
section
variable {s : ByteArray} (hs : s.size ≤ 1000000000000) {p : Nat × Nat} (hp : p.1 ≤ s.size)
include hs hp
theorem wire_T : wire_Reader__Text_g (wR s p.1 p.2) 16 = some (mkS (rdT (bl s) p).1, wR s (rdT (bl s) p).2.1 (rdT (bl s) p).2.2) := by
  unfold rdT
  by_cases h : p.2 = 0
  · rw [if_pos h, h, wire_rText hs hp I16]
  · rw [if_neg h]
    unfold wire_Reader__Text_g
    rw [stopped_t h]
    rfl
theorem r05_T : r05_ReadText_g (qR s p.1 p.2) 16 = some (qR s (rdT (bl s) p).2.1 (rdT (bl s) p).2.2, mkS (rdT (bl s) p).1) := by
  unfold rdT
  by_cases h : p.2 = 0
  · rw [if_pos h, h, r05_rText hs hp I16]
  · rw [if_neg h]
    unfold r05_ReadText_g
    show (bif ((p.2 : Int) != 0) then _ else _) = _
    rw [ne0_t h]
    rfl
theorem wire_I : wire_Reader__Ints_g (wR s p.1 p.2) 9 (-1099511627776) 1099511627776 = some ((rdI (bl s) p).1, wR s (rdI (bl s) p).2.1 (rdI (bl s) p).2.2) := by
  unfold rdI
  by_cases h : p.2 = 0
  · rw [if_pos h, h, wire_rInts hs hp _ _ I9]
  · rw [if_neg h]
    unfold wire_Reader__Ints_g
    rw [stopped_t h]
    rfl
theorem r05_I : r05_ReadInts_g (qR s p.1 p.2) 9 (-1099511627776) 1099511627776 = some (qR s (rdI (bl s) p).2.1 (rdI (bl s) p).2.2, (rdI (bl s) p).1) := by
  unfold rdI
  by_cases h : p.2 = 0
  · rw [if_pos h, h, r05_rInts hs hp _ _ I9]
  · rw [if_neg h]
    unfold r05_ReadInts_g
    show (bif ((p.2 : Int) != 0) then _ else _) = _
    rw [ne0_t h]
    rfl
end
theorem rdT_le {L : List Nat} {p : Nat × Nat} (h : p.1 ≤ L.length) : (rdT L p).2.1 ≤ L.length := by
  unfold rdT
  by_cases h0 : p.2 = 0
  · rw [if_pos h0]
    dsimp only
    unfold nat_
    split
    · rename_i h1
      have := (txt_pos h1).2
      rw [List.length_drop] at this
      omega
    · exact h
  · rw [if_neg h0]
    exact h
theorem rdI_le {L : List Nat} {p : Nat × Nat} (h : p.1 ≤ L.length) : (rdI L p).2.1 ≤ L.length := by
  unfold rdI
  by_cases h0 : p.2 = 0
  · rw [if_pos h0]
    dsimp only
    unfold nat_
    split
    · rename_i h1
      have := (ints_pos h1).2
      rw [List.length_drop] at this
      omega
    · exact h
  · rw [if_neg h0]
    exact h
def T1 (L : List Nat) : List Nat × Nat × Nat := rdT L (0, 0)
def T2 (L : List Nat) : List Nat × Nat × Nat := rdT L (T1 L).2
def T3 (L : List Nat) : List Int × Nat × Nat := rdI L (T2 L).2
theorem T1_le (L : List Nat) : (T1 L).2.1 ≤ L.length := rdT_le (by simp)
theorem T2_le (L : List Nat) : (T2 L).2.1 ≤ L.length := rdT_le (T1_le L)
theorem T3_le (L : List Nat) : (T3 L).2.1 ≤ L.length := rdI_le (T2_le L)
def zO : TOrder := ⟨⟨#[]⟩, ⟨#[]⟩, 0, 0, 0, 0, 0, 0, 0, 0, 0⟩
def mkO9 (t u : ByteArray) : List Int → TOrder
  | [a, b, c, d, e, f, g, h, i] => ⟨t, u, a, b, c, d, e, f, g, h, i⟩
  | _ => zO
noncomputable def dec46 (s : ByteArray) : TOrder × Int := if (T3 (bl s)).2.2 = 0 ∧ (T3 (bl s)).2.1 = s.size ∧ (T3 (bl s)).1.length = 9 then (mkO9 (mkS (T1 (bl s)).1) (mkS (T2 (bl s)).1) (T3 (bl s)).1, 0) else (zO, 5)
theorem nine {l : List Int} (h : l.length = 9) : ∃ a b c d e f g h i, l = [a, b, c, d, e, f, g, h, i] := by
  match l, h with
  | [a, b, c, d, e, f, g, h, i], _ => exact ⟨a, b, c, d, e, f, g, h, i, rfl⟩
def nineO (t u : ByteArray) (L : List Int) : Option (TOrder × Int) :=
  Option.bind (getI L 0) fun e => Option.bind (getI L 1) fun e1 => Option.bind (getI L 2) fun e2 => Option.bind (getI L 3) fun e3 => Option.bind (getI L 4) fun e4 => Option.bind (getI L 5) fun e5 => Option.bind (getI L 6) fun e6 => Option.bind (getI L 7) fun e7 => Option.bind (getI L 8) fun e8 => some ((⟨t, u, e, e1, e2, e3, e4, e5, e6, e7, e8⟩ : TOrder), 0)
theorem end_cases {s : ByteArray} {L : List Int} {a e : Nat} {x : Int} (hx : x = if e = 0 then (if a < s.size then 4 else 0) else (e : Int)) (ha : a ≤ s.size) (t u : ByteArray) : (bif (x != 0) then some (zO, (5 : Int)) else (bif (((L.length : Nat) : Int) != 9) then some (zO, 5) else nineO t u L)) = some (if e = 0 ∧ a = s.size ∧ L.length = 9 then (mkO9 t u L, 0) else (zO, 5)) := by
  by_cases h1 : e = 0
  · rw [if_pos h1] at hx
    by_cases h2 : a < s.size
    · rw [if_pos h2] at hx
      rw [hx, if_neg (by omega)]
      rfl
    · rw [if_neg h2] at hx
      rw [hx, show ((0 : Int) != 0) = false from rfl, cond_false]
      by_cases h3 : L.length = 9
      · rw [if_pos ⟨h1, by omega, h3⟩, show (((L.length : Nat) : Int) != 9) = false by simp [h3], cond_false]
        obtain ⟨a, b, c, d, e, f, g, h, i, rfl⟩ := nine h3
        rfl
      · rw [if_neg (by omega), show (((L.length : Nat) : Int) != 9) = true by simp; omega]
        rfl
  · rw [if_neg h1] at hx
    rw [hx, ne0_t h1, if_neg (by omega)]
    rfl
theorem decode_eq {s : ByteArray} (hs : s.size ≤ 1000000000000) : order_Decode_g s = some (dec46 s) ∧ r46_Decode_g s = some (dec46 s) := by
  have l1 : (T1 (bl s)).2.1 ≤ s.size := by have := T1_le (bl s); rwa [bl_length] at this
  have l2 : (T2 (bl s)).2.1 ≤ s.size := by have := T2_le (bl s); rwa [bl_length] at this
  have l3 : (T3 (bl s)).2.1 ≤ s.size := by have := T3_le (bl s); rwa [bl_length] at this
  constructor
  · unfold order_Decode_g
    rw [letB_eq, show wire_NewReader_g s = wR s 0 0 from rfl]
    have e1 := wire_T hs (p := (0, 0)) (by simp)
    have e2 := wire_T hs (p := (T1 (bl s)).2) l1
    have e3 := wire_I hs (p := (T2 (bl s)).2) l2
    rw [show wire_Reader__Text_g (wR s 0 0) 16 = _ from e1, bind_some']
    dsimp only
    rw [show wire_Reader__Text_g (wR s (rdT (bl s) (0, 0)).2.1 (rdT (bl s) (0, 0)).2.2) 16 = _ from e2, bind_some']
    dsimp only
    rw [show wire_Reader__Ints_g (wR s (rdT (bl s) (T1 (bl s)).2).2.1 (rdT (bl s) (T1 (bl s)).2).2.2) 9 (-1099511627776) 1099511627776 = _ from e3, bind_some']
    dsimp only
    exact end_cases (end_eq hs l3) l3 (mkS (T1 (bl s)).1) (mkS (T2 (bl s)).1)
  · unfold r46_Decode_g
    rw [letB_eq, show r05_NewReader_g s = qR s 0 0 from rfl]
    have e1 := r05_T hs (p := (0, 0)) (by simp)
    have e2 := r05_T hs (p := (T1 (bl s)).2) l1
    have e3 := r05_I hs (p := (T2 (bl s)).2) l2
    rw [show r05_ReadText_g (qR s 0 0) 16 = _ from e1, bind_some']
    dsimp only
    rw [show r05_ReadText_g (qR s (rdT (bl s) (0, 0)).2.1 (rdT (bl s) (0, 0)).2.2) 16 = _ from e2, bind_some']
    dsimp only
    rw [show r05_ReadInts_g (qR s (rdT (bl s) (T1 (bl s)).2).2.1 (rdT (bl s) (T1 (bl s)).2).2.2) 9 (-1099511627776) 1099511627776 = _ from e3, bind_some']
    dsimp only
    exact end_cases (rend_eq hs l3) l3 (mkS (T1 (bl s)).1) (mkS (T2 (bl s)).1)
theorem orderTexts_true (o : TOrder) (s : ByteArray) : l46_OrderTexts_g o s = some true := by
  unfold l46_OrderTexts_g
  rw [aw46]
  by_cases h : 1000 < s.size
  · rw [decide_eq_true (by omega)]
    rfl
  · rw [decide_eq_false (by omega), cond_false, (encode_eq o).1, (encode_eq o).2, (decode_eq (s := s) (by omega)).1, (decode_eq (s := s) (by omega)).2]
    simp only [bind_some', bEq_self, eqV_order, beq_self_eq_true, cond_true]
/-! back and forth -/
theorem sgn_rng {l : List Nat} {low high : Int} (h : (sgn l low high).2.2 = 0) : low ≤ (sgn l low high).1 ∧ (sgn l low high).1 ≤ high := by
  unfold sgn at h ⊢
  by_cases h1 : (num l 0).2.2 ≠ 0
  · rw [if_pos h1] at h
    exact absurd h h1
  · rw [if_neg h1] at h ⊢
    by_cases h2 : uz (num l 0).1 < low ∨ high < uz (num l 0).1
    · rw [if_pos h2] at h
      simp at h
    · rw [if_neg h2]
      dsimp only
      omega
theorem its_rng : ∀ {m : Nat} {l : List Nat} {low high : Int}, (its m l low high).2.2 = 0 → ∀ n ∈ (its m l low high).1, low ≤ n ∧ n ≤ high
  | 0, l, low, high, _ => by simp [its]
  | m + 1, l, low, high, h => by
    have ih := @its_rng m (l.drop (sgn l low high).2.1) low high
    have hp := @sgn_rng l low high
    rw [its] at h ⊢
    by_cases h1 : (sgn l low high).2.2 ≠ 0
    · rw [if_pos h1] at h
      exact absurd h h1
    · rw [if_neg h1] at h ⊢
      by_cases h2 : (its m (l.drop (sgn l low high).2.1) low high).2.2 ≠ 0
      · rw [if_pos h2] at h
        exact absurd h h2
      · rw [if_neg h2] at h ⊢
        intro n hn
        rcases List.mem_cons.1 hn with rfl | hn
        · exact hp (by omega)
        · exact ih (by omega) n hn
theorem ints_rng {l : List Nat} {most low high : Int} (h : (ints l most low high).2.2 = 0) : ∀ n ∈ (ints l most low high).1, low ≤ n ∧ n ≤ high := by
  unfold ints at h ⊢
  by_cases h1 : (cnt l most).2.2 ≠ 0
  · rw [if_pos h1] at h
    exact absurd h h1
  · rw [if_neg h1] at h ⊢
    by_cases h2 : (its (cnt l most).1 (l.drop (cnt l most).2.1) low high).2.2 ≠ 0
    · rw [if_pos h2] at h
      exact absurd h h2
    · rw [if_neg h2] at h ⊢
      exact its_rng (by omega)
theorem txt_most {l : List Nat} {most : Int} (h : (txt l most).2.2 = 0) : ((txt l most).1.length : Int) ≤ most := by
  unfold txt at h ⊢
  by_cases h1 : (cnt l most).2.2 ≠ 0
  · rw [if_pos h1] at h
    exact absurd h h1
  · rw [if_neg h1] at h ⊢
    split at h
    · simp at h
    · rename_i h2
      rw [if_neg h2]
      have h4 := cnt_pos (l := l) (most := most) (by omega)
      dsimp only
      rw [List.length_take]
      omega
theorem ob_lt {o : TOrder} {c : Nat} (h : c ∈ ob o) : c < 256 := by
  unfold ob at h
  rcases List.mem_append.1 h with h | h
  · rcases List.mem_append.1 h with h | h
    · exact tb_lt h
    · exact tb_lt h
  · exact ib_lt h
theorem back_read {o : TOrder} (h1 : o.Id.size ≤ 16) (h2 : o.Species.size ≤ 16) (h3 : (nums o).any wideN = false) : dec46 (mkS (ob o)) = (o, 0) := by
  have hn := nums_i64 h3
  have hbl : bl (mkS (ob o)) = ob o := bl_mkS fun _ => ob_lt
  have e1 : T1 (ob o) = (bl o.Id, (tb o.Id).length, 0) := by
    unfold T1 rdT
    rw [if_pos rfl]
    dsimp only
    rw [List.drop_zero, show ob o = tb o.Id ++ (tb o.Species ++ ib (nums o)) by unfold ob; simp, txt_back (by omega) (by omega)]
    simp [nat_]
  have e2 : T2 (ob o) = (bl o.Species, (tb o.Id).length + (tb o.Species).length, 0) := by
    unfold T2 rdT
    rw [e1, if_pos rfl]
    dsimp only
    rw [show ob o = tb o.Id ++ (tb o.Species ++ ib (nums o)) by unfold ob; simp, List.drop_left' rfl, txt_back (by omega) (by omega)]
    simp [nat_]
  have e3 : T3 (ob o) = (nums o, (ob o).length, 0) := by
    unfold T3 rdI
    rw [e2, if_pos rfl]
    dsimp only
    have := ints_back (L := nums o) (most := 9) (low := -1099511627776) (high := 1099511627776) (by show 9 < _; omega) (by show (9 : Int) ≤ 9; omega) [] hn
    rw [List.append_nil] at this
    rw [show ob o = (tb o.Id ++ tb o.Species) ++ ib (nums o) from rfl, List.drop_left' (by rw [List.length_append]), this]
    simp [nat_]
    omega
  unfold dec46
  rw [hbl, e1, e2, e3]
  dsimp only
  rw [if_pos ⟨rfl, by rw [mkS_size], rfl⟩, mkS_bl, mkS_bl]
  rfl
theorem fwd {s : ByteArray} (h : (dec46 s).2 = 0) : enc46 (dec46 s).1 = (s, 0) := by
  unfold dec46 at h ⊢
  by_cases hc : (T3 (bl s)).2.2 = 0 ∧ (T3 (bl s)).2.1 = s.size ∧ (T3 (bl s)).1.length = 9
  · rw [if_pos hc]
    obtain ⟨c1, c2, c3⟩ := hc
    have hlt : ∀ k, ∀ c ∈ (bl s).drop k, c < 256 := fun k c hc => bl_drop_lt hc
    -- all three were read
    have p2 : (T2 (bl s)).2.2 = 0 := by
      unfold T3 rdI at c1
      by_cases q : (T2 (bl s)).2.2 = 0
      · exact q
      · rw [if_neg q] at c1
        exact c1
    have p1 : (T1 (bl s)).2.2 = 0 := by
      unfold T2 rdT at p2
      by_cases q : (T1 (bl s)).2.2 = 0
      · exact q
      · rw [if_neg q] at p2
        exact p2
    have d1 : T1 (bl s) = ((txt (bl s) 16).1, (txt (bl s) 16).2.1, 0) ∧ (txt (bl s) 16).2.2 = 0 := by
      unfold T1 rdT at p1 ⊢
      rw [if_pos rfl] at p1 ⊢
      dsimp only at p1 ⊢
      rw [List.drop_zero] at p1 ⊢
      rw [p1]
      simp [nat_]
    generalize hn1 : (txt (bl s) 16).2.1 = n1 at d1
    have d2 : T2 (bl s) = ((txt ((bl s).drop n1) 16).1, n1 + (txt ((bl s).drop n1) 16).2.1, 0) ∧ (txt ((bl s).drop n1) 16).2.2 = 0 := by
      unfold T2 rdT at p2 ⊢
      rw [d1.1] at p2 ⊢
      rw [if_pos rfl] at p2 ⊢
      dsimp only at p2 ⊢
      rw [p2]
      simp [nat_]
    generalize hn2 : (txt ((bl s).drop n1) 16).2.1 = n2 at d2
    have d3 : T3 (bl s) = ((ints ((bl s).drop (n1 + n2)) 9 (-1099511627776) 1099511627776).1, n1 + n2 + (ints ((bl s).drop (n1 + n2)) 9 (-1099511627776) 1099511627776).2.1, 0) ∧ (ints ((bl s).drop (n1 + n2)) 9 (-1099511627776) 1099511627776).2.2 = 0 := by
      unfold T3 rdI at c1 ⊢
      rw [d2.1] at c1 ⊢
      rw [if_pos rfl] at c1 ⊢
      dsimp only at c1 ⊢
      rw [c1]
      simp [nat_]
    have i1 := txt_inv (l := bl s) (most := 16) (fun c hc => bl_lt hc) d1.2
    have i2 := txt_inv (l := (bl s).drop n1) (most := 16) (hlt n1) d2.2
    have i3 := ints_inv (l := (bl s).drop (n1 + n2)) (most := 9) (low := -1099511627776) (high := 1099511627776) (hlt _) d3.2
    have r3 := ints_rng d3.2
    have m1 := txt_most d1.2
    have m2 := txt_most d2.2
    rw [d3.1] at c2 c3 ⊢
    rw [d1.1, d2.1]
    dsimp only at c2 c3 ⊢
    generalize ints ((bl s).drop (n1 + n2)) 9 (-1099511627776) 1099511627776 = I3 at *
    obtain ⟨x1, x2, x3, x4, x5, x6, x7, x8, x9, hx⟩ := nine c3
    have hnums : nums (mkO9 (mkS (txt (bl s) 16).1) (mkS (txt ((bl s).drop n1) 16).1) I3.1) = I3.1 := by
      rw [hx]
      rfl
    have hid : (mkO9 (mkS (txt (bl s) 16).1) (mkS (txt ((bl s).drop n1) 16).1) I3.1).Id = mkS (txt (bl s) 16).1 := by
      rw [hx]
      rfl
    have hsp : (mkO9 (mkS (txt (bl s) 16).1) (mkS (txt ((bl s).drop n1) 16).1) I3.1).Species = mkS (txt ((bl s).drop n1) 16).1 := by
      rw [hx]
      rfl
    unfold enc46
    rw [hid, hsp, hnums, mkS_size, mkS_size, if_neg (by omega)]
    have hw : I3.1.any wideN = false := by
      rw [List.any_eq_false]
      intro n hn
      have := r3 n hn
      unfold wideN
      rw [decide_eq_false (by omega), decide_eq_false (by omega)]
      simp
    rw [hw, if_neg (by simp)]
    unfold ob
    rw [hid, hsp, hnums, i1.1, i2.1, i3.1, hn1, hn2]
    have hall : (bl s).take n1 ++ ((bl s).drop n1).take n2 ++ ((bl s).drop (n1 + n2)).take I3.2.1 = bl s := by
      rw [← List.take_add, ← List.take_add, c2, ← bl_length, List.take_length]
    rw [hall, mkS_bl]
  · rw [if_neg hc] at h
    exact absurd h (by simp)
theorem orderBack_true (o : TOrder) (s : ByteArray) : l46_OrderBack_g o s = some true := by
  unfold l46_OrderBack_g
  rw [aw46]
  by_cases h : 1000 < s.size
  · rw [decide_eq_true (by omega)]
    rfl
  · rw [decide_eq_false (by omega), cond_false, (encode_eq o).1, (decode_eq (s := s) (by omega)).1, bind_some']
    have hsz : (enc46 o).1.size ≤ 1000000000000 := by
      unfold enc46
      split
      · show (0 : Nat) ≤ _
        omega
      · split
        · show (0 : Nat) ≤ _
          omega
        · rename_i g1 g2
          have hn := nums_i64 (o := o) (by simpa using g2)
          have k1 := tb_len (s := o.Id) (by omega)
          have k2 := tb_len (s := o.Species) (by omega)
          have k3 := ib_len9 (l := nums o) (fun n h => (hn n h).1) (by show 9 ≤ 1000; omega)
          show (mkS (ob o)).size ≤ _
          rw [mkS_size]
          unfold ob
          rw [List.length_append, List.length_append]
          omega
    rw [(decode_eq hsz).1]
    have hA : (Option.bind (some (dec46 (enc46 o).1)) (fun dv => (bif ((enc46 o).2 == 0) then (bif (dv.2 != 0) then some (Sum.inl false) else (bif (!(eqV encTOrder dv.1 o)) then some (Sum.inl false) else (bif ((enc46 o).2 != 0) then (bif (!(bEq (enc46 o).1 (⟨#[]⟩ : ByteArray))) then some (Sum.inl false) else some (Sum.inr ())) else some (Sum.inr ())))) else (bif ((enc46 o).2 != 0) then (bif (!(bEq (enc46 o).1 (⟨#[]⟩ : ByteArray))) then some (Sum.inl false) else some (Sum.inr ())) else some (Sum.inr ())))) : Option (Bool ⊕ Unit)) = some (.inr ()) := by
      rw [bind_some']
      by_cases g1 : 16 < o.Id.size ∨ 16 < o.Species.size
      · have : enc46 o = (⟨#[]⟩, 6) := by unfold enc46; rw [if_pos g1]
        rw [this]
        rfl
      · cases g2 : (nums o).any wideN with
        | true =>
          have : enc46 o = (⟨#[]⟩, 9) := by unfold enc46; rw [if_neg g1, if_pos g2]
          rw [this]
          rfl
        | false =>
          have : enc46 o = (mkS (ob o), 0) := by unfold enc46; rw [if_neg g1, if_neg (by simp [g2])]
          rw [this]
          dsimp only
          rw [back_read (by omega) (by omega) g2]
          dsimp only
          rw [eqV_order]
          rfl
    rw [hA, bind_some', Sum.elim_inr]
    simp only [bind_some']
    by_cases g : (dec46 s).2 = 0
    · rw [g, show ((0 : Int) != 0) = false from rfl, cond_false, (encode_eq _).1, fwd g]
      simp only [bind_some', beq_self_eq_true, cond_true, bEq_self]
    · have : dec46 s = (zO, 5) := by
        unfold dec46 at g ⊢
        by_cases hc : (T3 (bl s)).2.2 = 0 ∧ (T3 (bl s)).2.1 = s.size ∧ (T3 (bl s)).1.length = 9
        · rw [if_pos hc] at g
          exact absurd rfl g
        · rw [if_neg hc]
      rw [this]
      show (bif eqV encTOrder zO zO then _ else _) = _
      rw [eqV_order]
      rfl

end Go.Proofs.Ytmfgheklnjmbjaa
