/- P9: what functions of the program compute (written by mod.py). -/
import Derived.Test.YtlkmdaojdongjaaP8
import Derived.KernelRfl
namespace Go.Proofs.Ytlkmdaojdongjaa
open Go Go.Ab
set_option linter.unusedSimpArgs false
set_option linter.unusedVariables false
set_option maxRecDepth 20000

/-! writing and reading back -/
def fbs (l : List Tsawmilllaw05_Field) : List Nat := l.flatMap fb
theorem fbs_take {l : List Tsawmilllaw05_Field} {j : Nat} (hj : j < l.length) : fbs (l.take (j + 1)) = fbs (l.take j) ++ fb l[j] := by
  rw [List.take_succ_eq_append_getElem hj]
  unfold fbs
  rw [List.flatMap_append, List.flatMap_singleton]
theorem fbs_lt {l : List Tsawmilllaw05_Field} {c : Nat} (h : c ∈ fbs l) : c < 256 := by
  obtain ⟨f, _, hc⟩ := List.mem_flatMap.1 h
  exact fb_lt hc
theorem fbs_len : ∀ {l : List Tsawmilllaw05_Field}, (∀ f ∈ l, f.ok ∧ l05_small_g f = true) → (fbs l).length ≤ 3010 * l.length
  | [], _ => by simp [fbs]
  | f :: l, h => by
    have h1 := h f (List.mem_cons_self ..)
    have h1 := fb_small h1.1 h1.2
    have h2 := @fbs_len l fun g hg => h g (List.mem_cons_of_mem _ hg)
    unfold fbs at h2 ⊢
    rw [List.flatMap_cons, List.length_append, List.length_cons]
    omega
theorem back_write {l : List Tsawmilllaw05_Field} (hl : ∀ f ∈ l, f.ok) (hn : l.length ≤ 40) {j : Nat} (hj : j < l.length) (hsm : ∀ i (hi : i < j), l05_small_g (l[i]'(by omega)) = true) : l05_WireBack_s1 l (mkS (fbs (l.take j))) (j : Int) = bif l05_small_g l[j] then some (.inl (mkS (fbs (l.take (j + 1))), ((j + 1 : Nat) : Int))) else some (.inr (.inl true)) := by
  unfold l05_WireBack_s1
  rw [lt_nat hj, cond_true, getI_at hj, bind_some', aw05]
  by_cases h : l05_small_g l[j] = true
  · have hok := hl _ (List.getElem_mem hj)
    have h1 := fb_small hok h
    have h2 : (fbs (l.take j)).length ≤ 3010 * (l.take j).length := fbs_len fun f hf => by
      refine ⟨hl f (List.mem_of_mem_take hf), ?_⟩
      obtain ⟨i, hi, rfl⟩ := List.getElem_of_mem hf
      rw [List.length_take] at hi
      rw [List.getElem_take]
      exact hsm i (by omega)
    rw [List.length_take] at h2
    rw [h, show (!true) = false from rfl, cond_false, cond_true, bind_some', write_eq (fok_of hok h), bind_some', catO_eq (by rw [mkS_size, mkS_size]; omega), bind_some', W64_succ (by omega), ← mkS_append, fbs_take hj]
  · have h : l05_small_g l[j] = false := by simpa using h
    rw [h]
    rfl
theorem first_of {α : Type} (l : List α) (p : α → Bool) : (∀ x ∈ l, p x = true) ∨ ∃ k, ∃ hk : k < l.length, p l[k] = false ∧ ∀ i (hi : i < k), p (l[i]'(by omega)) = true := by
  induction l with
  | nil => exact .inl (by simp)
  | cons a l ih =>
    cases ha : p a with
    | false => exact .inr ⟨0, by simp, ha, fun i hi => by omega⟩
    | true =>
      rcases ih with h | ⟨k, hk, h1, h2⟩
      · refine .inl fun x hx => ?_
        rcases List.mem_cons.1 hx with rfl | hx
        · exact ha
        · exact h x hx
      · refine .inr ⟨k + 1, by simpa using hk, h1, fun i hi => ?_⟩
        cases i with
        | zero => exact ha
        | succ i => exact h2 i (by omega)
theorem wireBack_true (l : List Tsawmilllaw05_Field) (hl : ∀ f ∈ l, f.ok) : l05_WireBack_g l = some true := by
  unfold l05_WireBack_g
  by_cases h1 : 40 < l.length
  · rw [decide_eq_true (by omega), aw05]
    rfl
  · rw [decide_eq_false (by omega), cond_false]
    rcases first_of l l05_small_g with hsm | ⟨k, hk, hk1, hk2⟩
    · have hloop : loopO (fun q : ByteArray × Int => l05_WireBack_s1 l q.1 q.2) ((⟨#[]⟩ : ByteArray), 0) = some (.inr (mkS (fbs l))) := by
        have := loopO_upto (step := fun q : ByteArray × Int => l05_WireBack_s1 l q.1 q.2) (fun j => (mkS (fbs (l.take j)), (j : Int))) l.length (y := .inr (mkS (fbs l))) (fun j hj => by
          dsimp only
          rw [back_write hl (by omega) hj fun i hi => hsm _ (List.getElem_mem _), hsm _ (List.getElem_mem _)]
          rfl) (by
          unfold l05_WireBack_s1
          dsimp only
          rw [nlt_nat, List.take_length]
          rfl)
        exact this
      rw [hloop, bind_some', Sum.elim_inr, letB_eq, show wire_NewReader_g (mkS (fbs l)) = wR (mkS (fbs l)) 0 0 from rfl]
      have hlen := fbs_len (l := l) fun f hf => ⟨hl f hf, hsm f hf⟩
      have hs : (mkS (fbs l)).size ≤ 1000000000000 := by rw [mkS_size]; omega
      have eb : bl (mkS (fbs l)) = fbs l := bl_mkS fun _ => fbs_lt
      have happ : ∀ j (hj : j < l.length), fbs l = fbs (l.take j) ++ (fb l[j] ++ fbs (l.drop (j + 1))) := by
        intro j hj
        have : l = l.take j ++ l[j] :: l.drop (j + 1) := by rw [← List.drop_eq_getElem_cons hj, List.take_append_drop]
        have h2 : fbs l = fbs (l.take j ++ l[j] :: l.drop (j + 1)) := congrArg fbs this
        rw [h2]
        unfold fbs
        rw [List.flatMap_append, List.flatMap_cons]
      have hloop2 : loopO (fun q : Int × Twire_Reader => l05_WireBack_s2 l q.1 q.2) (0, wR (mkS (fbs l)) 0 0) = some (.inr (wR (mkS (fbs l)) (fbs l).length 0)) := by
        have := loopO_upto (step := fun q : Int × Twire_Reader => l05_WireBack_s2 l q.1 q.2) (fun j => ((j : Int), wR (mkS (fbs l)) (fbs (l.take j)).length 0)) l.length (y := .inr (wR (mkS (fbs l)) (fbs l).length 0)) (fun j hj => ?_) (by
          unfold l05_WireBack_s2
          dsimp only
          rw [nlt_nat, List.take_length]
          rfl)
        · exact this
        · have hok := hl _ (List.getElem_mem hj)
          have hF := fok_of hok (hsm _ (List.getElem_mem hj))
          obtain ⟨o, ho, hT⟩ := exact_eq hF hok.1
          have hle : (fbs (l.take j)).length ≤ (mkS (fbs l)).size := by
            rw [mkS_size, happ j hj, List.length_append]
            omega
          have hdrop : (bl (mkS (fbs l))).drop (fbs (l.take j)).length = fb l[j] ++ fbs (l.drop (j + 1)) := by
            rw [eb, happ j hj, List.drop_left' rfl]
          unfold l05_WireBack_s2
          dsimp only
          rw [lt_nat hj, cond_true, getI_at hj, bind_some', ho, bind_some', read0 hs hle hT.ok, bind_some', hdrop, rd_back hF hok.1.1 hT]
          dsimp only
          rw [W64_succ (by omega), err_eq]
          have en : nat_ (fbs (l.take j)).length (fb l[j]).length 0 = (fbs (l.take (j + 1))).length := by
            rw [fbs_take hj, List.length_append]
            rfl
          rw [en]
          unfold clean
          by_cases h0 : l[j].Kind = 0
          · rw [if_pos h0, bq_t h0, cond_true]
            dsimp only
            rw [bq_t rfl]
            rfl
          · rw [if_neg h0, bq_f h0, cond_false]
            by_cases h1 : l[j].Kind = 1
            · rw [if_pos h1, bq_t h1, cond_true]
              dsimp only
              rw [bq_t rfl]
              rfl
            · rw [if_neg h1, bq_f h1, cond_false]
              by_cases h2 : l[j].Kind = 2
              · rw [if_pos h2, bq_t h2, cond_true]
                dsimp only
                rw [bEq_self]
                rfl
              · rw [if_neg h2, bq_f h2, cond_false]
                dsimp only
                rw [r05_same_self hF.l]
                rfl
      rw [hloop2, bind_some', Sum.elim_inr, end_eq hs (by rw [mkS_size]; omega), left_eq hs (by rw [mkS_size]; omega), if_pos rfl, mkS_size, if_neg (by omega), aw05, Nat.sub_self]
      rfl
    · have hloop : loopO (fun q : ByteArray × Int => l05_WireBack_s1 l q.1 q.2) ((⟨#[]⟩ : ByteArray), 0) = some (.inl true) := by
        have := loopO_upto (step := fun q : ByteArray × Int => l05_WireBack_s1 l q.1 q.2) (fun j => (mkS (fbs (l.take j)), (j : Int))) k (y := .inl true) (fun j hj => by
          dsimp only
          rw [back_write hl (by omega) (by omega) fun i hi => hk2 i (by omega), hk2 j hj]
          rfl) (by
          dsimp only
          rw [back_write hl (by omega) hk hk2, hk1]
          rfl)
        exact this
      rw [hloop]
      rfl
theorem one_loop {s : ByteArray} (hs : s.size ≤ 3000) (l : List Tsawmilllaw05_Op) (hn : l.length ≤ 60) (hl : ∀ o ∈ l, o.ok) : ∀ (m i a : Nat), i + m = l.length → a ≤ s.size → ∃ (a' e : Nat), loopO (fun q : Int × Int × Twire_Reader => l05_WireOne_s1 s l q.1 q.2.1 q.2.2) ((a : Int), (i : Int), wR s a 0) = some (.inr ((a' : Int), wR s a' e)) ∧ a' ≤ s.size
  | 0, i, a, hi, ha => by
    refine ⟨a, 0, loopO_done ?_, ha⟩
    have : i = l.length := by omega
    subst this
    unfold l05_WireOne_s1
    dsimp only
    rw [nlt_nat]
    rfl
  | m + 1, i, a, hi, ha => by
    have hj : i < l.length := by omega
    have ho := hl _ (List.getElem_mem hj)
    have hsz : s.size ≤ 1000000000000 := by omega
    by_cases h : (rd ((bl s).drop a) l[i]).2.2 = 0
    · have hp := rd_pos h
      rw [drop_len] at hp
      have hv := rd_inv (l := (bl s).drop a) (o := l[i]) (fun _ => bl_drop_lt) (by rw [drop_len]; omega) h
      have hstep : l05_WireOne_s1 s l (a : Int) (i : Int) (wR s a 0) = some (.inl (((a + (rd ((bl s).drop a) l[i]).2.1 : Nat) : Int), ((i + 1 : Nat) : Int), wR s (a + (rd ((bl s).drop a) l[i]).2.1) 0)) := by
        unfold l05_WireOne_s1
        rw [lt_nat hj, cond_true, getI_at hj, bind_some', read0 hsz ha ho, bind_some', h]
        dsimp only
        rw [err_eq, show ((((0 : Nat) : Int)) != 0) = false from rfl, cond_false, show nat_ a (rd ((bl s).drop a) l[i]).2.1 0 = a + (rd ((bl s).drop a) l[i]).2.1 from rfl, left_eq hsz (by omega)]
        rw [show W64 (((s.size : Nat) : Int) - ((s.size - (a + (rd ((bl s).drop a) l[i]).2.1) : Nat) : Int)) = ((a + (rd ((bl s).drop a) l[i]).2.1 : Nat) : Int) by rw [W64_eq (by omega) (by omega)]; omega]
        rw [decide_eq_false (by omega), cond_false, decide_eq_false (by omega), cond_false, write_eq hv.2, bind_some', ssubO_eq (by omega) (by omega) (by omega), bind_some', Int.toNat_natCast, Int.toNat_natCast, mkS_extract, hv.1, bEq_self, W64_succ (by omega)]
        rfl
      obtain ⟨a', e, h1, h2⟩ := one_loop hs l hn hl m (i + 1) (a + (rd ((bl s).drop a) l[i]).2.1) (by omega) (by omega)
      exact ⟨a', e, (loopO_next (x' := (((a + (rd ((bl s).drop a) l[i]).2.1 : Nat) : Int), ((i + 1 : Nat) : Int), wR s (a + (rd ((bl s).drop a) l[i]).2.1) 0)) hstep).trans h1, h2⟩
    · refine ⟨a, (rd ((bl s).drop a) l[i]).2.2, loopO_done ?_, ha⟩
      unfold l05_WireOne_s1
      dsimp only
      rw [lt_nat hj, cond_true, getI_at hj, bind_some', read0 hsz ha ho, bind_some']
      dsimp only
      rw [err_eq, ne0_t h, cond_true]
      unfold nat_
      rw [if_neg h]
theorem wireOne_true (s : ByteArray) (l : List Tsawmilllaw05_Op) (hl : ∀ o ∈ l, o.ok) : l05_WireOne_g s l = some true := by
  unfold l05_WireOne_g
  rw [aw05]
  by_cases h1 : 3000 < s.size
  · rw [decide_eq_true (by omega)]
    rfl
  · rw [decide_eq_false (by omega), cond_false]
    by_cases h2 : 60 < l.length
    · rw [decide_eq_true (by omega)]
      rfl
    · rw [decide_eq_false (by omega), cond_false, letB_eq]
      obtain ⟨a, e, h3, h4⟩ := one_loop (s := s) (by omega) l (by omega) hl l.length 0 0 (by omega) (by omega)
      have e0 : (((0 : Nat) : Int), ((0 : Nat) : Int), wR s 0 0) = ((0 : Int), (0 : Int), wire_NewReader_g s) := rfl
      rw [e0] at h3
      rw [h3, bind_some', Sum.elim_inr]
      dsimp only
      rw [left_eq (by omega) h4, W64_eq (by omega) (by omega), bq_t (by omega)]
      rfl

end Go.Proofs.Ytlkmdaojdongjaa
