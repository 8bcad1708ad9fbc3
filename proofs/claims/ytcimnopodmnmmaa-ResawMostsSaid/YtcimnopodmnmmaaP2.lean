/- P2: what functions of the program compute (written by mod.py). -/
import Derived.Test.YtcimnopodmnmmaaP1
import Derived.KernelRfl
namespace Go.Proofs.Ytcimnopodmnmmaa
open Go Go.Ab
set_option linter.unusedSimpArgs false
set_option linter.unusedVariables false
set_option linter.unusedSectionVars false
set_option maxRecDepth 20000
set_option maxHeartbeats 1000000

theorem eqSp_self (s : Sp) : eqV encSp s s = true := by
  unfold eqV encSp
  simp [eqA, AV.cells, veq]
theorem saw_eq (t k : Int) : r27_cut_g t k = resaw_isSaw_g t k := rfl
theorem saw_ok {t k : Int} (h : resaw_isSaw_g t k = true) : 1 ≤ t ∧ t ≤ 600 ∧ 0 ≤ k ∧ k ≤ 20 := by
  unfold resaw_isSaw_g at h
  simpa [cond_eq_ite] using h
def badP (t e : Int) : Bool := decide (e < 1) || decide (t < e)
noncomputable def chk (t k : Int) (l : List Int) : Int :=
  bif !(resaw_isSaw_g t k) then 9 else bif (((l.length : Nat) : Int) == 0) then 3 else bif decide (8 < ((l.length : Nat) : Int)) then 4 else bif l.any (badP t) then 9 else bif decide (t < l.foldl (· + ·) (k * (((l.length : Nat) : Int) - 1))) then 20 else 0
theorem badP_f {t e : Int} (h : badP t e = false) : 1 ≤ e ∧ e ≤ t := by
  unfold badP at h
  simp at h
  omega
theorem mul_small {k n : Int} (hk : 0 ≤ k) (hk2 : k ≤ 20) (hn : 0 ≤ n) (hn2 : n ≤ 8) : 0 ≤ k * n ∧ k * n ≤ 160 :=
  ⟨Int.mul_nonneg hk hn, Int.le_trans (Int.mul_le_mul hk2 hn2 hn (by omega)) (by omega)⟩
theorem resaw_check_eq (t k : Int) (l : List Int) : resaw_Check_g t k l = some (chk t k l) := by
  unfold resaw_Check_g chk
  cases hs : resaw_isSaw_g t k with
  | false => rfl
  | true =>
    have hS := saw_ok hs
    rw [Bool.not_true, cond_false, cond_false]
    cases h0 : (((l.length : Nat) : Int) == 0) with
    | true => rfl
    | false =>
      have h0' : l.length ≠ 0 := by
        intro h
        rw [h] at h0
        exact absurd h0 (by decide)
      rw [cond_false, cond_false]
      by_cases h8 : 8 < ((l.length : Nat) : Int)
      · rw [decide_eq_true h8]
        rfl
      · rw [decide_eq_false h8, cond_false, cond_false]
        have hm := mul_small hS.2.2.1 hS.2.2.2 (n := ((l.length : Nat) : Int) - 1) (by omega) (by omega)
        rw [W64_eq (n := ((l.length : Nat) : Int) - 1) (by omega) (by omega), W64_eq (by omega) (by omega)]
        have := loopO_foldX (step := fun q : Int × Int => resaw_Check_s1 t l q.1 q.2) l (badP t) (· + ·) (k * (((l.length : Nat) : Int) - 1)) (fun s j => (s, (j : Int))) (.inl 9) (fun s => (.inr s : Int ⊕ Int)) (fun j s => 0 ≤ s ∧ s ≤ 160 + 600 * (j : Int)) ⟨hm.1, by omega⟩ (fun j s hj hb hI => by
          have := badP_f hb
          push_cast
          omega) (fun s j hj hI hb => by
          have h1 := badP_f hb
          show resaw_Check_s1 t l s j = _
          unfold resaw_Check_s1
          rw [lt_nat hj, cond_true, getI_at hj, bind_some', decide_eq_false (by omega), cond_false, decide_eq_false (by omega), cond_false, W64_succ (by omega), W64_eq (by omega) (by omega)]) (fun s j hj hI hb => by
          show resaw_Check_s1 t l s j = _
          unfold resaw_Check_s1
          unfold badP at hb
          rw [lt_nat hj, cond_true, getI_at hj, bind_some']
          cases hc : decide (l[j] < 1) with
          | true => rfl
          | false =>
            rw [hc, Bool.false_or] at hb
            rw [cond_false, hb]
            rfl) (fun s hI => by
          show resaw_Check_s1 t l s _ = _
          unfold resaw_Check_s1
          rw [nlt_nat]
          rfl)
        rw [show ((0 : Int)) = ((0 : Nat) : Int) from rfl, this, bind_some']
        cases l.any (badP t) with
        | true => rfl
        | false =>
          show (bif decide (t < _) then _ else _) = _
          rw [cond_false]
          cases decide (t < List.foldl (· + ·) (k * (((l.length : Nat) : Int) - 1)) l) <;> rfl
theorem foldk (k : Int) : ∀ (l : List Int) (a : Int), l.foldl (fun s e => s + k + e) a = l.foldl (· + ·) (a + k * (l.length : Int)) := by
  intro l
  induction l with
  | nil => intro a; simp
  | cons e l ih =>
    intro a
    rw [List.foldl_cons, List.foldl_cons, ih, List.length_cons]
    congr 1
    push_cast
    rw [Int.mul_add]
    omega
theorem any_f {t : Int} {l : List Int} (h : l.any (badP t) = false) : ∀ e ∈ l, 1 ≤ e ∧ e ≤ t := fun e he => badP_f (by
  rw [List.any_eq_false] at h
  simpa using h e he)
theorem r27_check_eq (t k : Int) (l : List Int) : r27_Check_g t k l = some (chk t k l) := by
  unfold r27_Check_g chk
  rw [saw_eq]
  cases hs : resaw_isSaw_g t k with
  | false => rfl
  | true =>
    have hS := saw_ok hs
    rw [Bool.not_true, cond_false, cond_false]
    cases h0 : (((l.length : Nat) : Int) == 0) with
    | true => rfl
    | false =>
      have h0' : l.length ≠ 0 := by
        intro h
        rw [h] at h0
        exact absurd h0 (by decide)
      rw [cond_false, cond_false]
      by_cases h8 : 8 < ((l.length : Nat) : Int)
      · rw [decide_eq_true h8]
        rfl
      · rw [decide_eq_false h8, cond_false, cond_false]
        have h1 := loopO_foldX (step := fun q : Int => r27_Check_s1 t l q) l (badP t) (fun (u : Unit) _ => u) () (fun _ j => (j : Int)) (.inl 9) (fun s => (.inr s : Int ⊕ Unit)) (fun _ _ => True) trivial (fun j s hj hb hI => trivial) (fun s j hj hI hb => by
          have h1 := badP_f hb
          show r27_Check_s1 t l j = _
          unfold r27_Check_s1
          rw [lt_nat hj, cond_true, getI_at hj, bind_some', decide_eq_false (by omega), cond_false, bind_some', decide_eq_false (by omega), cond_false, W64_succ (by omega)]) (fun s j hj hI hb => by
          show r27_Check_s1 t l j = _
          unfold r27_Check_s1
          unfold badP at hb
          rw [lt_nat hj, cond_true, getI_at hj, bind_some']
          cases hc : decide (l[j] < 1) with
          | true => rfl
          | false =>
            rw [hc, Bool.false_or] at hb
            rw [cond_false, bind_some', hb]
            rfl) (fun s hI => by
          show r27_Check_s1 t l _ = _
          unfold r27_Check_s1
          rw [nlt_nat]
          rfl)
        rw [show ((0 : Int)) = ((0 : Nat) : Int) from rfl, h1, bind_some']
        cases ha : l.any (badP t) with
        | true => rfl
        | false =>
          have hp := any_f ha
          have h2 := loopO_foldI (step := fun q : Int × Int => r27_Check_s2 k l q.1 q.2) l (fun s e => s + k + e) (0 - k) (fun s j => (s, (j : Int))) (fun s => s) (fun j s => -20 ≤ s ∧ s ≤ 620 * (j : Int)) ⟨by omega, by omega⟩ (fun j s hj hI => by
            have := hp _ (List.getElem_mem hj)
            push_cast
            omega) (fun s j hj hI => by
            have := hp _ (List.getElem_mem hj)
            show r27_Check_s2 k l s j = _
            unfold r27_Check_s2
            rw [lt_nat hj, cond_true, getI_at hj, bind_some', W64_succ (by omega), W64_eq (n := s + k) (by omega) (by omega), W64_eq (by omega) (by omega)]) (fun s hI => by
            show r27_Check_s2 k l s _ = _
            unfold r27_Check_s2
            rw [nlt_nat]
            rfl)
          show (Option.bind (loopO _ (W64 (0 - k), ((0 : Nat) : Int))) _) = _
          rw [W64_eq (n := 0 - k) (by omega) (by omega), h2, bind_some', foldk, cond_false, show (0 : Int) - k + k * (l.length : Int) = k * (((l.length : Nat) : Int) - 1) by rw [Int.mul_sub]; omega]
          cases decide (t < List.foldl (· + ·) (k * (((l.length : Nat) : Int) - 1)) l) <;> rfl
def tot (k : Int) : List Int → Int
  | [] => -k
  | e :: r => e + k + tot k r
theorem tot_fold (k : Int) : ∀ (l : List Int) (a : Int), l.foldl (· + ·) a = a + tot k l - k * (l.length : Int) + k := by
  intro l
  induction l with
  | nil => intro a; simp [tot]; omega
  | cons e l ih =>
    intro a
    rw [List.foldl_cons, ih, List.length_cons, tot]
    push_cast
    rw [Int.mul_add]
    omega
theorem tot_ge {k : Int} (hk : 0 ≤ k) : ∀ (l : List Int), (∀ e ∈ l, 1 ≤ e) → -k ≤ tot k l ∧ (l ≠ [] → 0 ≤ tot k l) := by
  intro l
  induction l with
  | nil => intro _; exact ⟨by simp [tot], fun h => absurd rfl h⟩
  | cons e l ih =>
    intro h
    have h1 := ih (fun e he => h e (List.mem_cons_of_mem _ he))
    have h2 := h e (List.mem_cons_self ..)
    rw [tot]
    exact ⟨by omega, fun _ => by omega⟩
def Fit (t k : Int) : Int → List Int → Prop
  | a, [] => a ≤ t
  | a, e :: r => 1 ≤ e ∧ a + e ≤ t ∧ Fit t k (min (a + e + k) t) r
theorem fit_of {t k : Int} (hk : 0 ≤ k) : ∀ (l : List Int) (a : Int), (∀ e ∈ l, 1 ≤ e) → a ≤ t → (l ≠ [] → a + tot k l ≤ t) → Fit t k a l := by
  intro l
  induction l with
  | nil => intro a _ h _; exact h
  | cons e l ih =>
    intro a h ha ht
    have h1 := tot_ge hk l (fun e he => h e (List.mem_cons_of_mem _ he))
    have h2 := h e (List.mem_cons_self ..)
    have h3 := ht (by simp)
    rw [tot] at h3
    refine ⟨h2, by omega, ih _ (fun e he => h e (List.mem_cons_of_mem _ he)) (by omega) (fun hn => ?_)⟩
    have := h1.2 hn
    omega
theorem chk_ok {t k : Int} {l : List Int} (h : chk t k l = 0) : (1 ≤ t ∧ t ≤ 600 ∧ 0 ≤ k ∧ k ≤ 20) ∧ 1 ≤ l.length ∧ l.length ≤ 8 ∧ (∀ e ∈ l, 1 ≤ e ∧ e ≤ t) ∧ tot k l ≤ t ∧ Fit t k 0 l := by
  unfold chk at h
  cases hs : resaw_isSaw_g t k with
  | false => rw [hs] at h; exact absurd (show (9 : Int) = 0 from h) (by omega)
  | true =>
    have hS := saw_ok hs
    rw [hs, Bool.not_true, cond_false] at h
    cases h0 : (((l.length : Nat) : Int) == 0) with
    | true => rw [h0] at h; exact absurd (show (3 : Int) = 0 from h) (by omega)
    | false =>
      have h0' : l.length ≠ 0 := by
        intro h
        rw [h] at h0
        exact absurd h0 (by decide)
      rw [h0, cond_false] at h
      by_cases h8 : 8 < ((l.length : Nat) : Int)
      · rw [decide_eq_true h8] at h
        exact absurd (show (4 : Int) = 0 from h) (by omega)
      · rw [decide_eq_false h8, cond_false] at h
        cases ha : l.any (badP t) with
        | true => rw [ha] at h; exact absurd (show (9 : Int) = 0 from h) (by omega)
        | false =>
          rw [ha, cond_false] at h
          by_cases hf : t < l.foldl (· + ·) (k * (((l.length : Nat) : Int) - 1))
          · rw [decide_eq_true hf] at h
            exact absurd (show (20 : Int) = 0 from h) (by omega)
          · rw [tot_fold k, Int.mul_sub] at hf
            have hp := any_f ha
            have ht : tot k l ≤ t := by omega
            exact ⟨hS, by omega, by omega, hp, ht, fit_of hS.2.2.1 l 0 (fun e he => (hp e he).1) (by omega) (fun _ => by omega)⟩
def brdR (t k : Int) : Int → List Int → List Sp
  | _, [] => []
  | a, e :: r => ⟨a, a + e⟩ :: brdR t k (min (a + e + k) t) r
def dstR (t k : Int) : Int → List Int → List Sp
  | _, [] => []
  | a, e :: r => (if a + e < min (a + e + k) t then [⟨a + e, min (a + e + k) t⟩] else []) ++ dstR t k (min (a + e + k) t) r
def endR (t k : Int) : Int → List Int → Int
  | a, [] => a
  | a, e :: r => endR t k (min (a + e + k) t) r
theorem getI_mid {α : Type} (p : List α) (e : α) (r : List α) : getI (p ++ e :: r) (p.length : Int) = some e := by
  rw [getI_at (by simp)]
  simp
theorem spans_step {t k a e : Int} {p r : List Int} (hS : 1 ≤ t ∧ t ≤ 600 ∧ 0 ≤ k ∧ k ≤ 20) (B D : List Sp) (hl : p.length ≤ 100) (hB : B.length ≤ p.length) (hD : D.length ≤ p.length) (ha : 0 ≤ a) (he : 1 ≤ e) (hae : a + e ≤ t) :
    resaw_Spans_s1 t k (p ++ e :: r) B D (p.length : Int) a = some (.inl (B ++ [⟨a, a + e⟩], D ++ (if a + e < min (a + e + k) t then [⟨a + e, min (a + e + k) t⟩] else []), ((p ++ [e]).length : Int), min (a + e + k) t)) := by
  unfold resaw_Spans_s1
  rw [decide_eq_true (by simp; omega), cond_true, getI_mid, bind_some']
  have h1 : resaw_Spans_1_g B e a t = some (B ++ [⟨a, a + e⟩], a + e) := by
    unfold resaw_Spans_1_g
    rw [W64_eq (by omega) (by omega), show min (a + e) t = a + e by omega, decide_eq_false (by omega), cond_false, appO_eq (by simp; omega) (by simp; omega), bind_some']
  have h2 : resaw_Spans_1_g D k (a + e) t = some (D ++ (if a + e < min (a + e + k) t then [⟨a + e, min (a + e + k) t⟩] else []), min (a + e + k) t) := by
    unfold resaw_Spans_1_g
    rw [W64_eq (by omega) (by omega)]
    by_cases h : a + e < min (a + e + k) t
    · rw [decide_eq_false (by omega), cond_false, appO_eq (by simp; omega) (by simp; omega), bind_some', if_pos h]
    · rw [decide_eq_true (by omega), cond_true, if_neg h, List.append_nil, show min (a + e + k) t = a + e by omega]
  rw [h1, bind_some', h2, bind_some', W64_succ (by omega)]
  simp
theorem spans_step2 {t k a e : Int} {p r : List Int} (hS : 1 ≤ t ∧ t ≤ 600 ∧ 0 ≤ k ∧ k ≤ 20) (B D : List Sp) (hl : p.length ≤ 100) (hB : B.length ≤ p.length) (hD : D.length ≤ p.length) (ha : 0 ≤ a) (he : 1 ≤ e) (hae : a + e ≤ t) :
    r27_Spans_s1 t k (p ++ e :: r) B D a (p.length : Int) = some (.inl (B ++ [⟨a, a + e⟩], D ++ (if a + e < min (a + e + k) t then [⟨a + e, min (a + e + k) t⟩] else []), min (a + e + k) t, ((p ++ [e]).length : Int))) := by
  unfold r27_Spans_s1
  rw [decide_eq_true (by simp; omega), cond_true, getI_mid, bind_some', W64_eq (n := a + e) (by omega) (by omega), W64_eq (n := a + e + k) (by omega) (by omega), appO_eq (by simp; omega) (by simp; omega), bind_some', W64_succ (by omega)]
  by_cases h : a + e < min (a + e + k) t
  · rw [decide_eq_true h, cond_true, appO_eq (by simp; omega) (by simp; omega), bind_some', if_pos h]
    simp
  · rw [decide_eq_false h, cond_false, if_neg h]
    simp
theorem spans_loop {t k : Int} (hS : 1 ≤ t ∧ t ≤ 600 ∧ 0 ≤ k ∧ k ≤ 20) : ∀ (r p : List Int) (B D : List Sp) (a : Int), (p ++ r).length ≤ 8 → B.length ≤ p.length → D.length ≤ p.length → 0 ≤ a → Fit t k a r →
    loopO (fun q : List Sp × List Sp × Int × Int => resaw_Spans_s1 t k (p ++ r) q.1 q.2.1 q.2.2.1 q.2.2.2) (B, D, (p.length : Int), a) = some (B ++ brdR t k a r, D ++ dstR t k a r, endR t k a r) ∧
    loopO (fun q : List Sp × List Sp × Int × Int => r27_Spans_s1 t k (p ++ r) q.1 q.2.1 q.2.2.1 q.2.2.2) (B, D, a, (p.length : Int)) = some (B ++ brdR t k a r, D ++ dstR t k a r, endR t k a r) := by
  intro r
  induction r with
  | nil =>
    intro p B D a hl hB hD ha hF
    rw [List.append_nil]
    constructor
    · refine loopO_done ?_
      show resaw_Spans_s1 t k p B D (p.length : Int) a = _
      unfold resaw_Spans_s1
      rw [nlt_nat, cond_false]
      simp [brdR, dstR, endR]
    · refine loopO_done ?_
      show r27_Spans_s1 t k p B D a (p.length : Int) = _
      unfold r27_Spans_s1
      rw [nlt_nat, cond_false]
      simp [brdR, dstR, endR]
  | cons e r ih =>
    intro p B D a hl hB hD ha hF
    obtain ⟨h1, h2, h3⟩ := hF
    have hl' : p.length + (r.length + 1) ≤ 8 := by simpa using hl
    have hd : (D ++ (if a + e < min (a + e + k) t then [(⟨a + e, min (a + e + k) t⟩ : Sp)] else [])).length ≤ (p ++ [e]).length := by
      by_cases h : a + e < min (a + e + k) t
      · rw [if_pos h]
        simp
        omega
      · rw [if_neg h]
        simp
        omega
    have := ih (p ++ [e]) (B ++ [⟨a, a + e⟩]) (D ++ (if a + e < min (a + e + k) t then [⟨a + e, min (a + e + k) t⟩] else [])) (min (a + e + k) t) (by simp; omega) (by simp; omega) hd (by omega) h3
    rw [show p ++ [e] ++ r = p ++ e :: r by simp] at this
    constructor
    · rw [loopO_next (spans_step hS B D (by omega) hB hD ha h1 h2)]
      rw [brdR, dstR, endR, this.1]
      simp
    · rw [loopO_next (spans_step2 hS B D (by omega) hB hD ha h1 h2)]
      rw [brdR, dstR, endR, this.2]
      simp
noncomputable def spansP (t k : Int) (l : List Int) : List Sp × List Sp × Sp × Int :=
  bif chk t k l != 0 then ([], [], ⟨0, 0⟩, chk t k l) else (brdR t k 0 l, dstR t k 0 l, bif decide (endR t k 0 l < t) then ⟨endR t k 0 l, t⟩ else ⟨0, 0⟩, 0)
theorem spans_both (t k : Int) (l : List Int) : resaw_Spans_g t k l = some (spansP t k l) ∧ r27_Spans_g t k l = some (spansP t k l) := by
  unfold resaw_Spans_g r27_Spans_g spansP
  rw [resaw_check_eq, r27_check_eq, bind_some', bind_some']
  by_cases h : chk t k l = 0
  · obtain ⟨hS, h1, h2, h3, h4, h5⟩ := chk_ok h
    rw [h, ne_f, cond_false, cond_false, cond_false]
    have := spans_loop hS l [] [] [] 0 (by simpa using h2) (by simp) (by simp) (by omega) h5
    rw [List.nil_append] at this
    rw [show (([] : List Sp), ([] : List Sp), (0 : Int), (0 : Int)) = ([], [], ((([] : List Int).length : Nat) : Int), 0) from rfl, this.1, bind_some']
    rw [show (([] : List Sp), ([] : List Sp), ((([] : List Int).length : Nat) : Int), (0 : Int)) = ([], [], 0, ((([] : List Int).length : Nat) : Int)) from rfl, this.2, bind_some']
    dsimp only
    cases decide (endR t k 0 l < t) <;> exact ⟨rfl, rfl⟩
  · rw [ne_t h, cond_true, cond_true, cond_true]
    exact ⟨rfl, rfl⟩
theorem dst_len {t k : Int} : ∀ (l : List Int) (a : Int), (dstR t k a l).length ≤ l.length ∧ (brdR t k a l).length = l.length := by
  intro l
  induction l with
  | nil => intro a; simp [dstR, brdR]
  | cons e r ih =>
    intro a
    have := ih (min (a + e + k) t)
    rw [dstR, brdR]
    by_cases h : a + e < min (a + e + k) t
    · rw [if_pos h]
      simp
      omega
    · rw [if_neg h]
      simp
      omega
theorem same_self {a : List Sp} (hl : a.length ≤ 1000000) : r27_SameSpans_g a a = some true := by
  unfold r27_SameSpans_g
  rw [show (((a.length : Nat) : Int) != ((a.length : Nat) : Int)) = false by simp, cond_false]
  rw [show (0 : Int) = ((0 : Nat) : Int) from rfl, loopO_upto (step := fun q : Int => r27_SameSpans_s1 a a q) (fun j => (j : Int)) a.length (y := .inr ()) (fun j hj => by
    show r27_SameSpans_s1 a a j = _
    unfold r27_SameSpans_s1
    rw [lt_nat hj, cond_true, getI_at hj, bind_some', bind_some', eqSp_self, Bool.not_true, cond_false, W64_succ (by omega)]) (by
    show r27_SameSpans_s1 a a _ = _
    unfold r27_SameSpans_s1
    rw [nlt_nat]
    rfl), bind_some']
  rfl
theorem spansP_len (t k : Int) (l : List Int) : (spansP t k l).1.length ≤ 8 ∧ (spansP t k l).2.1.length ≤ 8 := by
  unfold spansP
  by_cases h : chk t k l = 0
  · obtain ⟨hS, h1, h2, h3, h4, h5⟩ := chk_ok h
    rw [h, ne_f, cond_false]
    have := dst_len (t := t) (k := k) l 0
    dsimp only
    omega
  · rw [ne_t h, cond_true]
    simp
theorem resawSpans_true (x : Tsawmilllaw27_Parts) : l27_ResawSpans_g x = some true := by
  unfold l27_ResawSpans_g
  rw [aw27]
  cases l27_few_g x with
  | false => rfl
  | true =>
    have hb := spans_both x.Thick x.Kerf x.Sizes
    have hl := spansP_len x.Thick x.Kerf x.Sizes
    rw [Bool.not_true, cond_false, hb.1, hb.2, resaw_check_eq, r27_check_eq]
    simp only [bind_some', beq_self_eq_true, cond_true]
    rw [same_self (by omega), bind_some', cond_true, same_self (by omega), bind_some', cond_true, eqSp_self, cond_true]
theorem dst_gt {t k : Int} (hk : 0 ≤ k) : ∀ (l : List Int) (a : Int), Fit t k a l → ∀ d ∈ dstR t k a l, a < d.a := by
  intro l
  induction l with
  | nil => intro a _ d hd; exact absurd hd (by simp [dstR])
  | cons e r ih =>
    intro a hF d hd
    obtain ⟨h1, h2, h3⟩ := hF
    rw [dstR, List.mem_append] at hd
    rcases hd with hd | hd
    · by_cases h : a + e < min (a + e + k) t
      · rw [if_pos h, List.mem_singleton] at hd
        rw [hd]
        show a < a + e
        omega
      · rw [if_neg h] at hd
        exact absurd hd (by simp)
    · have := ih _ h3 d hd
      omega
theorem end_le {t k : Int} : ∀ (l : List Int) (a : Int), Fit t k a l → endR t k a l ≤ t := by
  intro l
  induction l with
  | nil => intro a h; exact h
  | cons e r ih => intro a h; exact ih _ h.2.2
theorem parts_loop (x : Tsawmilllaw27_Parts) (sv : List Sp × List Sp × Sp × Int) (hS : 1 ≤ x.Thick ∧ x.Thick ≤ 600 ∧ 0 ≤ x.Kerf ∧ x.Kerf ≤ 20) : ∀ (r p : List Int) (B D : List Sp) (a : Int), x.Sizes = p ++ r → sv.1 = B ++ brdR x.Thick x.Kerf a r → sv.2.1 = D ++ dstR x.Thick x.Kerf a r → x.Sizes.length ≤ 8 → B.length = p.length → D.length ≤ p.length → 0 ≤ a → Fit x.Thick x.Kerf a r →
    loopO (fun q : Int × Int × Int => l27_ResawParts_s1 x sv q.1 q.2.1 q.2.2) (a, (D.length : Int), (B.length : Int)) = some (.inr (endR x.Thick x.Kerf a r, (sv.2.1.length : Int))) := by
  intro r
  induction r with
  | nil =>
    intro p B D a hx hB hD hl hbl hdl ha hF
    refine loopO_done ?_
    show l27_ResawParts_s1 x sv a (D.length : Int) (B.length : Int) = _
    unfold l27_ResawParts_s1
    rw [brdR, List.append_nil] at hB
    rw [dstR, List.append_nil] at hD
    rw [hB, nlt_nat, cond_false, hD]
    rfl
  | cons e r ih =>
    intro p B D a hx hB hD hl hbl hdl ha hF
    obtain ⟨h1, h2, h3⟩ := hF
    rw [brdR] at hB
    rw [dstR] at hD
    have hlx : p.length + (r.length + 1) ≤ 8 := by
      rw [hx] at hl
      simpa using hl
    have hB' : sv.1 = (B ++ [⟨a, a + e⟩]) ++ brdR x.Thick x.Kerf (min (a + e + x.Kerf) x.Thick) r := by rw [hB]; simp
    have hx' : x.Sizes = (p ++ [e]) ++ r := by rw [hx]; simp
    have g1 : getI sv.1 (B.length : Int) = some ⟨a, a + e⟩ := by rw [hB, getI_mid]
    have g2 : getI x.Sizes (B.length : Int) = some e := by rw [hx, hbl, getI_mid]
    have hs : l27_ResawParts_s1 x sv a (D.length : Int) (B.length : Int) = some (.inl (min (a + e + x.Kerf) x.Thick, ((D ++ (if a + e < min (a + e + x.Kerf) x.Thick then [(⟨a + e, min (a + e + x.Kerf) x.Thick⟩ : Sp)] else [])).length : Int), ((B ++ [(⟨a, a + e⟩ : Sp)]).length : Int))) := by
      unfold l27_ResawParts_s1
      rw [decide_eq_true (by rw [hB]; simp; omega), cond_true, g1, bind_some', g2, bind_some', W64_eq (n := a + e) (by omega) (by omega), eqSp_self, Bool.not_true, cond_false, bind_some']
      dsimp only
      by_cases h : a + e < min (a + e + x.Kerf) x.Thick
      · rw [if_pos h] at hD ⊢
        have g3 : getI sv.2.1 (D.length : Int) = some ⟨a + e, min (a + e + x.Kerf) x.Thick⟩ := by rw [hD, List.singleton_append, getI_mid]
        rw [decide_eq_true (p := ((D.length : Nat) : Int) < _) (by rw [hD]; simp; omega), cond_true, g3]
        simp only [bind_some', beq_self_eq_true, cond_true]
        rw [decide_eq_false (by omega), cond_false, decide_eq_false (by omega), cond_false, W64_eq (n := min (a + e + x.Kerf) x.Thick - (a + e)) (by omega) (by omega), decide_eq_false (by omega), cond_false, W64_succ (by omega), W64_succ (by omega)]
        by_cases h5 : min (a + e + x.Kerf) x.Thick - (a + e) < x.Kerf
        · rw [decide_eq_true h5, cond_true, show (min (a + e + x.Kerf) x.Thick != x.Thick) = false by simp; omega, cond_false]
          simp
        · rw [decide_eq_false h5, cond_false]
          simp
      · rw [if_neg h] at hD ⊢
        rw [List.nil_append] at hD
        have g3 : ((bif (decide (((D.length : Nat) : Int) < ((sv.2.1.length : Nat) : Int))) then (Option.bind (getI sv.2.1 ((D.length : Nat) : Int)) (fun e3 => some (e3.a == a + e))) else some false) : Option Bool) = some false := by
          have hgt := dst_gt hS.2.2.1 r _ h3
          cases hr : dstR x.Thick x.Kerf (min (a + e + x.Kerf) x.Thick) r with
          | nil =>
            rw [hr, List.append_nil] at hD
            rw [hD, nlt_nat]
            rfl
          | cons d ds =>
            rw [hr] at hD hgt
            have := hgt d (List.mem_cons_self ..)
            rw [hD, decide_eq_true (by simp; omega), cond_true, getI_mid, bind_some', show (d.a == a + e) = false by simp; omega]
        rw [g3, bind_some', cond_false, W64_succ (by omega), show min (a + e + x.Kerf) x.Thick = a + e by omega]
        by_cases h5 : 0 < x.Kerf
        · rw [decide_eq_true h5, cond_true, decide_eq_false (by omega), cond_false]
          simp
        · rw [decide_eq_false h5, cond_false]
          simp
    rw [loopO_next hs, endR]
    refine ih (p ++ [e]) _ _ _ hx' hB' (by rw [hD]; simp) hl (by simp [hbl]) ?_ (by omega) h3
    by_cases h : a + e < min (a + e + x.Kerf) x.Thick
    · rw [if_pos h]
      simp
      omega
    · rw [if_neg h]
      simp
      omega
theorem resawParts_true (x : Tsawmilllaw27_Parts) : l27_ResawParts_g x = some true := by
  unfold l27_ResawParts_g
  rw [aw27]
  cases l27_few_g x with
  | false => rfl
  | true =>
    rw [Bool.not_true, cond_false, (spans_both x.Thick x.Kerf x.Sizes).1, resaw_check_eq, bind_some', bind_some']
    by_cases h : chk x.Thick x.Kerf x.Sizes = 0
    · obtain ⟨hS, h1, h2, h3, h4, h5⟩ := chk_ok h
      have hP : spansP x.Thick x.Kerf x.Sizes = (brdR x.Thick x.Kerf 0 x.Sizes, dstR x.Thick x.Kerf 0 x.Sizes, bif decide (endR x.Thick x.Kerf 0 x.Sizes < x.Thick) then ⟨endR x.Thick x.Kerf 0 x.Sizes, x.Thick⟩ else ⟨0, 0⟩, 0) := by
        unfold spansP
        rw [h]
        rfl
      have hl := dst_len (t := x.Thick) (k := x.Kerf) x.Sizes 0
      have := parts_loop x (spansP x.Thick x.Kerf x.Sizes) hS x.Sizes [] [] [] 0 rfl (by rw [hP]; rfl) (by rw [hP]; rfl) h2 rfl (by simp) (by omega) h5
      have he := end_le x.Sizes 0 h5
      rw [h, hP] at *
      dsimp only at *
      rw [show ((0 : Int) != 0) = false from rfl, cond_false, cond_false, show (((brdR x.Thick x.Kerf 0 x.Sizes).length : Int) != ((x.Sizes.length : Nat) : Int)) = false by rw [hl.2]; simp, cond_false]
      rw [show ((0 : Int), (0 : Int), (0 : Int)) = (0, (([] : List Sp).length : Int), (([] : List Sp).length : Int)) from rfl, this, bind_some']
      show (bif decide (endR x.Thick x.Kerf 0 x.Sizes < x.Thick) then _ else _) = _
      by_cases hh : endR x.Thick x.Kerf 0 x.Sizes < x.Thick
      · rw [decide_eq_true hh]
        simp only [cond_true, beq_self_eq_true, eqSp_self, bind_some']
      · rw [decide_eq_false hh, show endR x.Thick x.Kerf 0 x.Sizes = x.Thick by omega]
        simp only [cond_true, cond_false, beq_self_eq_true, eqSp_self, bind_some']
    · have hP : spansP x.Thick x.Kerf x.Sizes = ([], [], ⟨0, 0⟩, chk x.Thick x.Kerf x.Sizes) := by
        unfold spansP
        rw [ne_t h]
        rfl
      rw [hP]
      dsimp only
      rw [show (chk x.Thick x.Kerf x.Sizes != chk x.Thick x.Kerf x.Sizes) = false by simp, cond_false, ne_t h, cond_true, eqSp_self]
      rfl

end Go.Proofs.Ytcimnopodmnmmaa
