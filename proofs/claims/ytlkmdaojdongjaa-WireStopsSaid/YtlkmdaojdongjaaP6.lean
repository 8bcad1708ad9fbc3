/- P6: what functions of the program compute (written by mod.py). -/
import Derived.Test.YtlkmdaojdongjaaP5
import Derived.KernelRfl
namespace Go.Proofs.Ytlkmdaojdongjaa
open Go Go.Ab
set_option linter.unusedSimpArgs false
set_option linter.unusedVariables false
set_option maxRecDepth 20000

/-! fields -/
def rd (l : List Nat) (o : Tsawmilllaw05_Op) : Tsawmilllaw05_Field × Nat × Nat :=
  if o.Kind = 0 then (⟨o.Kind, ((num l 0).1 : Int), 0, ⟨#[]⟩, []⟩, (num l 0).2)
  else if o.Kind = 1 then (⟨o.Kind, 0, (sgn l o.Low o.High).1, ⟨#[]⟩, []⟩, (sgn l o.Low o.High).2)
  else if o.Kind = 2 then (⟨o.Kind, 0, 0, mkS (txt l o.Most).1, []⟩, (txt l o.Most).2)
  else (⟨o.Kind, 0, 0, ⟨#[]⟩, (ints l o.Most o.Low o.High).1⟩, (ints l o.Most o.Low o.High).2)
/-- Position and error after a read; the field read. -/
def nxt (L : List Nat) (a : Nat × Nat) (o : Tsawmilllaw05_Op) : Nat × Nat := if a.2 = 0 then (nat_ a.1 (rd (L.drop a.1) o).2.1 (rd (L.drop a.1) o).2.2, (rd (L.drop a.1) o).2.2) else a
def fld (L : List Nat) (a : Nat × Nat) (o : Tsawmilllaw05_Op) : Tsawmilllaw05_Field := if a.2 = 0 then (rd (L.drop a.1) o).1 else ⟨o.Kind, 0, 0, ⟨#[]⟩, []⟩
theorem bq_t {n m : Int} (h : n = m) : (n == m) = true := by simp [h]
theorem bq_f {n m : Int} (h : n ≠ m) : (n == m) = false := by simp [h]
theorem stopped_t {s : ByteArray} {a e : Nat} (h : e ≠ 0) : wire_Reader__stopped_g (wR s a e) = true := ne0_t h
theorem read_eq {s : ByteArray} (hs : s.size ≤ 1000000000000) {a : Nat × Nat} (ha : a.1 ≤ s.size) {o : Tsawmilllaw05_Op} (ho : o.ok) : l05_read_g (wR s a.1 a.2) o = some (fld (bl s) a o, wR s (nxt (bl s) a o).1 (nxt (bl s) a o).2) := by
  obtain ⟨a, e⟩ := a
  have hm := ho.2.2.2
  unfold l05_read_g fld nxt
  dsimp only at ha ⊢
  by_cases h : e = 0
  · subst h
    rw [if_pos rfl, if_pos rfl]
    unfold rd
    by_cases h0 : o.Kind = 0
    · rw [bq_t h0, cond_true, if_pos h0, wire_rUint hs ha]
      rfl
    · rw [bq_f h0, cond_false, if_neg h0]
      by_cases h1 : o.Kind = 1
      · rw [bq_t h1, cond_true, if_pos h1, wire_rInt hs ha]
        rfl
      · rw [bq_f h1, cond_false, if_neg h1]
        by_cases h2 : o.Kind = 2
        · rw [bq_t h2, cond_true, if_pos h2, wire_rText hs ha hm]
          rfl
        · rw [bq_f h2, cond_false, if_neg h2, wire_rInts hs ha _ _ hm]
          rfl
  · rw [if_neg h, if_neg h]
    dsimp only
    unfold wire_Reader__Uint_g wire_Reader__Int_g wire_Reader__Text_g wire_Reader__Ints_g
    rw [stopped_t h]
    rcases Bool.eq_false_or_eq_true (o.Kind == 0) with h | h <;> rw [h]
    · rfl
    · rcases Bool.eq_false_or_eq_true (o.Kind == 1) with h | h <;> rw [h]
      · rfl
      · rcases Bool.eq_false_or_eq_true (o.Kind == 2) with h | h <;> rw [h] <;> rfl
theorem rread_eq {s : ByteArray} (hs : s.size ≤ 1000000000000) {a : Nat × Nat} (ha : a.1 ≤ s.size) {o : Tsawmilllaw05_Op} (ho : o.ok) :
    (bif (o.Kind == 0) then (Option.bind (r05_ReadUint_g (qR s a.1 a.2)) (fun rv1 => some (rv1.1, (⟨o.Kind, rv1.2, 0, (⟨#[]⟩ : ByteArray), []⟩ : Tsawmilllaw05_Field)))) else (bif (o.Kind == 1) then (Option.bind (r05_ReadInt_g (qR s a.1 a.2) o.Low o.High) (fun rv2 => some (rv2.1, (⟨o.Kind, 0, rv2.2, (⟨#[]⟩ : ByteArray), []⟩ : Tsawmilllaw05_Field)))) else (bif (o.Kind == 2) then (Option.bind (r05_ReadText_g (qR s a.1 a.2) o.Most) (fun rv3 => some (rv3.1, (⟨o.Kind, 0, 0, rv3.2, []⟩ : Tsawmilllaw05_Field)))) else (Option.bind (r05_ReadInts_g (qR s a.1 a.2) o.Most o.Low o.High) (fun rv4 => some (rv4.1, (⟨o.Kind, 0, 0, (⟨#[]⟩ : ByteArray), rv4.2⟩ : Tsawmilllaw05_Field))))))) = some (qR s (nxt (bl s) a o).1 (nxt (bl s) a o).2, fld (bl s) a o) := by
  obtain ⟨a, e⟩ := a
  have hm := ho.2.2.2
  unfold fld nxt
  dsimp only at ha ⊢
  by_cases h : e = 0
  · subst h
    rw [if_pos rfl, if_pos rfl]
    unfold rd
    by_cases h0 : o.Kind = 0
    · rw [bq_t h0, cond_true, if_pos h0, r05_rUint hs ha]
      rfl
    · rw [bq_f h0, cond_false, if_neg h0]
      by_cases h1 : o.Kind = 1
      · rw [bq_t h1, cond_true, if_pos h1, r05_rInt hs ha]
        rfl
      · rw [bq_f h1, cond_false, if_neg h1]
        by_cases h2 : o.Kind = 2
        · rw [bq_t h2, cond_true, if_pos h2, r05_rText hs ha hm]
          rfl
        · rw [bq_f h2, cond_false, if_neg h2, r05_rInts hs ha _ _ hm]
          rfl
  · rw [if_neg h, if_neg h]
    dsimp only
    unfold r05_ReadUint_g r05_ReadInt_g r05_ReadText_g r05_ReadInts_g
    rw [show ((qR s a e).E != 0) = true from ne0_t h]
    rcases Bool.eq_false_or_eq_true (o.Kind == 0) with h | h <;> rw [h]
    · rfl
    · rcases Bool.eq_false_or_eq_true (o.Kind == 1) with h | h <;> rw [h]
      · rfl
      · rcases Bool.eq_false_or_eq_true (o.Kind == 2) with h | h <;> rw [h] <;> rfl
theorem txt_pos {l : List Nat} {most : Int} (h : (txt l most).2.2 = 0) : 1 ≤ (txt l most).2.1 ∧ (txt l most).2.1 ≤ l.length := by
  unfold txt at h ⊢
  by_cases h1 : (cnt l most).2.2 ≠ 0
  · rw [if_pos h1] at h
    exact absurd h h1
  · rw [if_neg h1] at h ⊢
    split at h
    · simp at h
    · rename_i h2
      rw [if_neg h2]
      have := cnt_pos (l := l) (most := most) (by omega)
      dsimp only
      omega
theorem ints_pos {l : List Nat} {most low high : Int} (h : (ints l most low high).2.2 = 0) : 1 ≤ (ints l most low high).2.1 ∧ (ints l most low high).2.1 ≤ l.length := by
  unfold ints at h ⊢
  by_cases h1 : (cnt l most).2.2 ≠ 0
  · rw [if_pos h1] at h
    exact absurd h h1
  · rw [if_neg h1] at h ⊢
    by_cases h2 : (its (cnt l most).1 (l.drop (cnt l most).2.1) low high).2.2 ≠ 0
    · rw [if_pos h2] at h
      exact absurd h h2
    · rw [if_neg h2] at h ⊢
      have h3 := cnt_pos (l := l) (most := most) (by omega)
      have h4 := its_pos (m := (cnt l most).1) (l := l.drop (cnt l most).2.1) (low := low) (high := high) (by omega)
      rw [List.length_drop] at h4
      dsimp only
      omega
theorem rd_pos {l : List Nat} {o : Tsawmilllaw05_Op} (h : (rd l o).2.2 = 0) : 1 ≤ (rd l o).2.1 ∧ (rd l o).2.1 ≤ l.length := by
  unfold rd at h ⊢
  by_cases h0 : o.Kind = 0
  · rw [if_pos h0] at h ⊢
    exact num_pos h
  · rw [if_neg h0] at h ⊢
    by_cases h1 : o.Kind = 1
    · rw [if_pos h1] at h ⊢
      exact sgn_pos h
    · rw [if_neg h1] at h ⊢
      by_cases h2 : o.Kind = 2
      · rw [if_pos h2] at h ⊢
        exact txt_pos h
      · rw [if_neg h2] at h ⊢
        exact ints_pos h
theorem nxt_le {L : List Nat} {a : Nat × Nat} {o : Tsawmilllaw05_Op} (h : a.1 ≤ L.length) : (nxt L a o).1 ≤ L.length := by
  unfold nxt
  split
  · unfold nat_
    dsimp only
    split
    · rename_i h1 h2
      have := rd_pos h2
      rw [List.length_drop] at this
      omega
    · exact h
  · exact h
theorem left_eq {s : ByteArray} (hs : s.size ≤ 1000000000000) {a e : Nat} (ha : a ≤ s.size) : wire_Reader__Left_g (wR s a e) = ((s.size - a : Nat) : Int) := by
  show W64 (((s.size : Nat) : Int) - (a : Int)) = _
  rw [W64_eq (by omega) (by omega)]
  omega
theorem rleft_eq {s : ByteArray} (hs : s.size ≤ 1000000000000) {a e : Nat} (ha : a ≤ s.size) : r05_Left_g (qR s a e) = ((s.size - a : Nat) : Int) := by
  show W64 (((s.size : Nat) : Int) - (a : Int)) = _
  rw [W64_eq (by omega) (by omega)]
  omega
theorem err_eq (s : ByteArray) (a e : Nat) : wire_Reader__Err_g (wR s a e) = (e : Int) := rfl
theorem end_eq {s : ByteArray} (hs : s.size ≤ 1000000000000) {a e : Nat} (ha : a ≤ s.size) : wire_Reader__End_g (wR s a e) = if e = 0 then (if a < s.size then 4 else 0) else (e : Int) := by
  unfold wire_Reader__End_g
  rw [err_eq, left_eq hs ha]
  by_cases h : e = 0
  · subst h
    rw [if_pos rfl]
    by_cases h1 : a < s.size
    · rw [if_pos h1, decide_eq_true (by omega)]
      rfl
    · rw [if_neg h1, decide_eq_false (by omega)]
      rfl
  · rw [if_neg h, ne0_t h]
    rfl
theorem rend_eq {s : ByteArray} (hs : s.size ≤ 1000000000000) {a e : Nat} (ha : a ≤ s.size) : r05_End_g (qR s a e) = if e = 0 then (if a < s.size then 4 else 0) else (e : Int) := by
  unfold r05_End_g
  rw [rleft_eq hs ha]
  show (bif ((e : Int) == 0) then _ else (e : Int)) = _
  by_cases h : e = 0
  · subst h
    rw [if_pos rfl]
    by_cases h1 : a < s.size
    · rw [if_pos h1, decide_eq_true (by omega)]
      rfl
    · rw [if_neg h1, decide_eq_false (by omega)]
      rfl
  · rw [if_neg h, eq0_f h]
    rfl
theorem r05_same_self {l : List Int} (h : l.length ≤ 1000000000000) : r05_Same_g l l = some true := by
  unfold r05_Same_g
  have e : (((l.length : Nat) : Int) != ((l.length : Nat) : Int)) = false := by simp
  rw [e, cond_false]
  have := loopO_upto (step := fun q : Int => r05_Same_s1 l l q) (fun j => (j : Int)) l.length (y := .inr ()) (fun j hj => by
    unfold r05_Same_s1
    rw [lt_nat hj, cond_true, getI_at hj, bind_some', bind_some', show (l[j] != l[j]) = false by simp, cond_false, W64_succ (by omega)]) (by
    unfold r05_Same_s1
    rw [nlt_nat]
    rfl)
  have e0 : ((0 : Nat) : Int) = 0 := rfl
  rw [e0] at this
  rw [this]
  rfl
theorem same_self {f : Tsawmilllaw05_Field} (h : f.L.length ≤ 1000000000000) : l05_same_g f f = some true := by
  unfold l05_same_g
  rw [bq_t rfl, bq_t rfl, bq_t rfl, bEq_self, r05_same_self h]
  rfl
theorem its_len : ∀ (m : Nat) (l : List Nat) (low high : Int), (its m l low high).1.length ≤ l.length
  | m, l, low, high => by
    by_cases h : (its m l low high).2.2 = 0
    · have := its_pos h
      omega
    · cases m with
      | zero => exact absurd rfl h
      | succ m =>
        rw [its] at h ⊢
        by_cases h1 : (sgn l low high).2.2 ≠ 0
        · rw [if_pos h1]
          simp
        · rw [if_neg h1] at h ⊢
          by_cases h2 : (its m (l.drop (sgn l low high).2.1) low high).2.2 ≠ 0
          · rw [if_pos h2]
            simp
          · rw [if_neg h2] at h
            exact absurd rfl h
theorem ints_len (l : List Nat) (most low high : Int) : (ints l most low high).1.length ≤ l.length := by
  unfold ints
  split
  · simp
  · split
    · simp
    · have := its_len (cnt l most).1 (l.drop (cnt l most).2.1) low high
      rw [List.length_drop] at this
      dsimp only
      omega
theorem fld_len (L : List Nat) (a : Nat × Nat) (o : Tsawmilllaw05_Op) : (fld L a o).L.length ≤ L.length := by
  unfold fld
  split
  · unfold rd
    split
    · simp
    · split
      · simp
      · split
        · simp
        · have := ints_len (L.drop a.1) o.Most o.Low o.High
          rw [List.length_drop] at this
          dsimp only
          omega
  · simp
theorem wireReads_true (s : ByteArray) (l : List Tsawmilllaw05_Op) (hl : ∀ o ∈ l, o.ok) : l05_WireReads_g s l = some true := by
  unfold l05_WireReads_g
  rw [aw05]
  by_cases h1 : 3000 < s.size
  · rw [decide_eq_true (by omega)]
    rfl
  · rw [decide_eq_false (by omega), cond_false]
    by_cases h2 : 60 < l.length
    · rw [decide_eq_true (by omega)]
      rfl
    · rw [decide_eq_false (by omega), cond_false, letB_eq, letB_eq]
      have hs : s.size ≤ 1000000000000 := by omega
      have hle : ∀ a : Nat × Nat, a.1 ≤ (bl s).length → a.1 ≤ s.size := fun a h => by rwa [bl_length] at h
      have := loopO_foldI (step := fun q : Int × Twire_Reader × Tsawmillref05_Reader => l05_WireReads_s1 l q.1 q.2.1 q.2.2) l (nxt (bl s)) (0, 0) (fun a j => ((j : Int), wR s a.1 a.2, qR s a.1 a.2)) (fun a => .inr (wR s a.1 a.2, qR s a.1 a.2)) (fun _ a => a.1 ≤ (bl s).length) (by simp) (fun j a hj ha => nxt_le ha) (fun a j hj ha => ?_) (fun a ha => ?_)
      · have e0 : (((0 : Nat) : Int), wR s 0 0, qR s 0 0) = ((0 : Int), wire_NewReader_g s, r05_NewReader_g s) := rfl
        dsimp only at this
        rw [e0] at this
        rw [this, bind_some', Sum.elim_inr]
        have hF : (l.foldl (nxt (bl s)) (0, 0)).1 ≤ (bl s).length := by
          have : ∀ (l : List Tsawmilllaw05_Op) (a : Nat × Nat), a.1 ≤ (bl s).length → (l.foldl (nxt (bl s)) a).1 ≤ (bl s).length := by
            intro l
            induction l with
            | nil => intro a h; exact h
            | cons o l ih => intro a h; exact ih _ (nxt_le h)
          exact this l (0, 0) (by simp)
        have hF := hle _ hF
        dsimp only
        rw [left_eq hs hF, rleft_eq hs hF, end_eq hs hF, rend_eq hs hF, bq_t rfl, bq_t rfl]
        rfl
      · have hn := hle _ (nxt_le (L := bl s) (a := a) (o := l[j]) ha)
        have ha := hle _ ha
        have ho := hl _ (List.getElem_mem hj)
        unfold l05_WireReads_s1
        dsimp only
        rw [lt_nat hj, cond_true, getI_at hj, bind_some', read_eq hs ha ho, bind_some', rread_eq hs ha ho, bind_some']
        dsimp only
        rw [same_self (by have := fld_len (bl s) a l[j]; rw [bl_length] at this; omega), bind_some', left_eq hs hn, rleft_eq hs hn, err_eq, end_eq hs hn, rend_eq hs hn, W64_succ (by omega)]
        simp [qR]
      · unfold l05_WireReads_s1
        dsimp only
        rw [nlt_nat]
        rfl
theorem sgn_zero {l : List Nat} {low high : Int} (h : (sgn l low high).2.2 ≠ 0) : (sgn l low high).1 = 0 := by
  unfold sgn at h ⊢
  split
  · rfl
  · split
    · rfl
    · simp_all
theorem txt_zero {l : List Nat} {most : Int} (h : (txt l most).2.2 ≠ 0) : (txt l most).1 = [] := by
  unfold txt at h ⊢
  split
  · rfl
  · split
    · rfl
    · simp_all
theorem ints_zero {l : List Nat} {most low high : Int} (h : (ints l most low high).2.2 ≠ 0) : (ints l most low high).1 = [] := by
  unfold ints at h ⊢
  split
  · rfl
  · split
    · rfl
    · simp_all
theorem rd_zero {l : List Nat} {o : Tsawmilllaw05_Op} (h : (rd l o).2.2 ≠ 0) : (rd l o).1 = ⟨o.Kind, 0, 0, ⟨#[]⟩, []⟩ := by
  unfold rd at h ⊢
  by_cases h0 : o.Kind = 0
  · rw [if_pos h0] at h ⊢
    dsimp only
    rw [(num_err h).1]
    rfl
  · rw [if_neg h0] at h ⊢
    by_cases h1 : o.Kind = 1
    · rw [if_pos h1] at h ⊢
      dsimp only
      rw [sgn_zero h]
    · rw [if_neg h1] at h ⊢
      by_cases h2 : o.Kind = 2
      · rw [if_pos h2] at h ⊢
        dsimp only
        rw [txt_zero h]
        rfl
      · rw [if_neg h2] at h ⊢
        dsimp only
        rw [ints_zero h]
theorem fld_zero {L : List Nat} {a : Nat × Nat} {o : Tsawmilllaw05_Op} (h : (nxt L a o).2 ≠ 0) : fld L a o = ⟨o.Kind, 0, 0, ⟨#[]⟩, []⟩ ∧ (nxt L a o).1 = a.1 ∧ (a.2 ≠ 0 → (nxt L a o).2 = a.2) := by
  unfold nxt at h ⊢
  unfold fld
  by_cases h0 : a.2 = 0
  · rw [if_pos h0] at h ⊢
    rw [if_pos h0]
    refine ⟨rd_zero h, ?_, fun h1 => absurd h0 h1⟩
    dsimp only at h ⊢
    unfold nat_
    rw [if_neg h]
  · rw [if_neg h0, if_neg h0]
    exact ⟨rfl, rfl, fun _ => rfl⟩
theorem nb_t {n m : Int} (h : n = m) : (n != m) = false := by simp [h]
theorem wireStops_true (s : ByteArray) (l : List Tsawmilllaw05_Op) (hl : ∀ o ∈ l, o.ok) : l05_WireStops_g s l = some true := by
  unfold l05_WireStops_g
  rw [aw05]
  by_cases h1 : 3000 < s.size
  · rw [decide_eq_true (by omega)]
    rfl
  · rw [decide_eq_false (by omega), cond_false]
    by_cases h2 : 60 < l.length
    · rw [decide_eq_true (by omega)]
      rfl
    · rw [decide_eq_false (by omega), cond_false, letB_eq]
      have hs : s.size ≤ 1000000000000 := by omega
      have hle : ∀ a : Nat × Nat, a.1 ≤ (bl s).length → a.1 ≤ s.size := fun a h => by rwa [bl_length] at h
      have := loopO_foldI (step := fun q : Int × Twire_Reader => l05_WireStops_s1 l q.1 q.2) l (nxt (bl s)) (0, 0) (fun a j => ((j : Int), wR s a.1 a.2)) (fun a => .inr ()) (fun _ a => a.1 ≤ (bl s).length) (by simp) (fun j a hj ha => nxt_le ha) (fun a j hj ha => ?_) (fun a ha => ?_)
      · have e0 : (((0 : Nat) : Int), wR s 0 0) = ((0 : Int), wire_NewReader_g s) := rfl
        dsimp only at this
        rw [e0] at this
        rw [this]
        rfl
      · have hn := hle _ (nxt_le (L := bl s) (a := a) (o := l[j]) ha)
        have ha := hle _ ha
        have ho := hl _ (List.getElem_mem hj)
        unfold l05_WireStops_s1
        dsimp only
        rw [lt_nat hj, cond_true, getI_at hj, bind_some', read_eq hs ha ho, bind_some']
        dsimp only
        rw [err_eq, err_eq, end_eq hs hn, left_eq hs hn, left_eq hs ha, W64_succ (by omega)]
        by_cases h : (nxt (bl s) a l[j]).2 = 0
        · have ha0 : a.2 = 0 := by
            unfold nxt at h
            split at h
            · assumption
            · exact h
          rw [h, ha0]
          rfl
        · obtain ⟨f1, f2, f3⟩ := fld_zero h
          rw [ne0_t h, cond_true, f1, f2, if_neg h]
          have hz : l05_zero_g (⟨l[j].Kind, 0, 0, ⟨#[]⟩, []⟩ : Tsawmilllaw05_Field) = true := rfl
          rw [hz, nb_t rfl, nb_t rfl]
          by_cases ha0 : a.2 = 0
          · rw [ha0]
            rfl
          · rw [ne0_t ha0, f3 ha0, nb_t rfl]
            rfl
      · unfold l05_WireStops_s1
        dsimp only
        rw [nlt_nat]
        rfl

end Go.Proofs.Ytlkmdaojdongjaa
