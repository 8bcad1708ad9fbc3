/- P16: what functions of the program compute (written by mod.py). -/
import Derived.Test.YtjdgaclkcmjjcaaP15
import Derived.KernelRfl
namespace Go.Proofs.Ytjdgaclkcmjjcaa
open Go Go.Ab
set_option linter.unusedSimpArgs false
set_option linter.unusedVariables false
set_option maxRecDepth 20000

/-! the best is the best -/
def SLt (y z : Sp) : Prop := y.a < z.a ∨ (y.a = z.a ∧ y.b < z.b)
theorem wo_cases (l : List TSlice) (d : List Df) (p : TProduct) (b : Bx) (fine : Int) : wo l d p b fine = (0, false) ∨ (r20_from_g fine 0 1000000 = true ∧ vld l d p = true ∧ acc l d p b = true ∧ wo l d p b fine = (val d p b fine, true)) := by
  unfold wo
  cases r20_from_g fine 0 1000000 with
  | false => exact .inl rfl
  | true =>
    cases vld l d p with
    | false => exact .inl rfl
    | true =>
      cases acc l d p b with
      | false => exact .inl rfl
      | true => exact .inr ⟨rfl, rfl, rfl, rfl⟩
def InvB (l : List TSlice) (d : List Df) (p : TProduct) (vr : TRect) (fine : Int) (pre : List Sp) (s : Int × Bool × Sp) : Prop :=
  (s = (0, false, ⟨0, 0⟩) ∧ ∀ c ∈ pre, acc l d p ⟨vr.X, vr.Y, c⟩ = false) ∨
  (s.2.1 = true ∧ s.2.2 ∈ pre ∧ acc l d p ⟨vr.X, vr.Y, s.2.2⟩ = true ∧ s.1 = val d p ⟨vr.X, vr.Y, s.2.2⟩ fine ∧ ∀ c ∈ pre, acc l d p ⟨vr.X, vr.Y, c⟩ = true → val d p ⟨vr.X, vr.Y, c⟩ fine < s.1 ∨ (val d p ⟨vr.X, vr.Y, c⟩ fine = s.1 ∧ (c = s.2.2 ∨ SLt s.2.2 c)))
theorem invB_step {l : List TSlice} {d : List Df} {p : TProduct} {vr : TRect} {fine : Int} {pre : List Sp} {s : Int × Bool × Sp} {z : Sp} (hz : ∀ c ∈ pre, SLt c z) (h : InvB l d p vr fine pre s) : InvB l d p vr fine (pre ++ [z]) (bs l d p vr fine s z) := by
  unfold bs
  cases ha : acc l d p ⟨vr.X, vr.Y, z⟩ with
  | false =>
    rcases h with ⟨h1, h2⟩ | ⟨h1, h2, h3, h4, h5⟩
    · refine .inl ⟨h1, fun c hc => ?_⟩
      rcases List.mem_append.1 hc with hc | hc
      · exact h2 c hc
      · rw [List.mem_singleton] at hc
        subst hc
        exact ha
    · refine .inr ⟨h1, List.mem_append_left _ h2, h3, h4, fun c hc hac => ?_⟩
      rcases List.mem_append.1 hc with hc | hc
      · exact h5 c hc hac
      · rw [List.mem_singleton] at hc
        subst hc
        rw [ha] at hac
        exact absurd hac (by simp)
  | true =>
    rw [cond_true]
    rcases h with ⟨h1, h2⟩ | ⟨h1, h2, h3, h4, h5⟩
    · subst h1
      refine .inr ⟨rfl, List.mem_append_right _ (List.mem_singleton.2 rfl), ha, rfl, fun c hc hac => ?_⟩
      rcases List.mem_append.1 hc with hc | hc
      · rw [h2 c hc] at hac
        exact absurd hac (by simp)
      · rw [List.mem_singleton] at hc
        subst hc
        exact .inr ⟨rfl, .inl rfl⟩
    · rw [h1]
      by_cases hlt : s.1 < val d p ⟨vr.X, vr.Y, z⟩ fine
      · rw [decide_eq_true hlt]
        refine .inr ⟨rfl, List.mem_append_right _ (List.mem_singleton.2 rfl), ha, rfl, fun c hc hac => ?_⟩
        show val d p ⟨vr.X, vr.Y, c⟩ fine < val d p ⟨vr.X, vr.Y, z⟩ fine ∨ _
        rcases List.mem_append.1 hc with hc | hc
        · rcases h5 c hc hac with h6 | h6
          · exact .inl (by omega)
          · exact .inl (by omega)
        · rw [List.mem_singleton] at hc
          subst hc
          exact .inr ⟨rfl, .inl rfl⟩
      · rw [decide_eq_false hlt]
        refine .inr ⟨h1, List.mem_append_left _ h2, h3, h4, fun c hc hac => ?_⟩
        rcases List.mem_append.1 hc with hc | hc
        · exact h5 c hc hac
        · rw [List.mem_singleton] at hc
          subst hc
          have : val d p ⟨vr.X, vr.Y, c⟩ fine < s.1 ∨ val d p ⟨vr.X, vr.Y, c⟩ fine = s.1 := by omega
          rcases this with h6 | h6
          · exact .inl h6
          · exact .inr ⟨h6, .inr (hz _ h2)⟩
theorem invB_fold {l : List TSlice} {d : List Df} {p : TProduct} {vr : TRect} {fine : Int} : ∀ (rest pre : List Sp) (s : Int × Bool × Sp), (pre ++ rest).Pairwise SLt → InvB l d p vr fine pre s → InvB l d p vr fine (pre ++ rest) (rest.foldl (bs l d p vr fine) s)
  | [], pre, s, _, h => by simpa using h
  | z :: rest, pre, s, hp, h => by
    have h1 : pre ++ z :: rest = (pre ++ [z]) ++ rest := by simp
    rw [h1] at hp ⊢
    refine invB_fold rest (pre ++ [z]) _ hp (invB_step (fun c hc => ?_) h)
    have := (List.pairwise_append.1 hp).1
    exact (List.pairwise_append.1 this).2.2 c hc z (List.mem_singleton.2 rfl)
theorem asc {p : TProduct} (hp : ProdOk p) : p.Lengths.Pairwise (· < ·) := by
  rw [List.pairwise_iff_getElem]
  have : ∀ (k i : Nat) (h : i + 1 + k < p.Lengths.length), p.Lengths[i]'(by omega) < p.Lengths[i + 1 + k] := by
    intro k
    induction k with
    | zero =>
      intro i h
      have := (hp.r (i + 1) h).2.2 (by omega)
      exact this
    | succ k ih =>
      intro i h
      have h1 := ih i (by omega)
      have h2 := (hp.r (i + 1 + (k + 1)) h).2.2 (by omega)
      have h3 : p.Lengths[i + 1 + (k + 1) - 1]'(by omega) = p.Lengths[i + 1 + k]'(by omega) := by congr 1
      rw [h3] at h2
      exact Int.lt_trans h1 h2
  intro i j hi hj hij
  have := this (j - i - 1) i (by omega)
  have h3 : p.Lengths[i + 1 + (j - i - 1)]'(by omega) = p.Lengths[j] := by congr 1; omega
  rw [h3] at this
  exact this
theorem cand_mem {p : TProduct} {step : Int} {n : Nat} {c : Sp} (h : c ∈ cand p step n) : ∃ k : Nat, k < n ∧ ∃ e ∈ p.Lengths, c = ⟨(k : Int) * step, (k : Int) * step + e⟩ := by
  unfold cand at h
  rw [List.mem_flatMap] at h
  obtain ⟨k, hk, hc⟩ := h
  rw [List.mem_map] at hc
  obtain ⟨e, he, rfl⟩ := hc
  exact ⟨k, List.mem_range.1 hk, e, he, rfl⟩
theorem mem_cand {p : TProduct} {step : Int} {n k : Nat} {e : Int} (hk : k < n) (he : e ∈ p.Lengths) : (⟨(k : Int) * step, (k : Int) * step + e⟩ : Sp) ∈ cand p step n := by
  unfold cand
  rw [List.mem_flatMap]
  exact ⟨k, List.mem_range.2 hk, List.mem_map.2 ⟨e, he, rfl⟩⟩
theorem cand_asc {p : TProduct} (hp : ProdOk p) {step : Int} (hs : 1 ≤ step) : ∀ n : Nat, (cand p step n).Pairwise SLt
  | 0 => by simp [cand]
  | n + 1 => by
    rw [cand_succ, List.pairwise_append]
    refine ⟨cand_asc hp hs n, ?_, fun a ha b hb => ?_⟩
    · rw [List.pairwise_map]
      exact (asc hp).imp fun {a b} h => .inr ⟨rfl, by show (n : Int) * step + a < (n : Int) * step + b; omega⟩
    · obtain ⟨k, hk, e, he, rfl⟩ := cand_mem ha
      rw [List.mem_map] at hb
      obtain ⟨f, hf, rfl⟩ := hb
      refine .inl ?_
      show (k : Int) * step < (n : Int) * step
      exact Int.mul_lt_mul_of_pos_right (by omega) (by omega)
theorem best_inv {l : List TSlice} {d : List Df} {p : TProduct} (hp : ProdOk p) (vr : TRect) {step : Int} (hs : 1 ≤ step) (fine : Int) (n : Nat) : InvB l d p vr fine (cand p step n) (bst l d p vr step fine n) := by
  have := invB_fold (l := l) (d := d) (p := p) (vr := vr) (fine := fine) (cand p step n) [] (0, false, ⟨0, 0⟩) (by simpa using cand_asc hp hs n) (.inl ⟨rfl, by simp⟩)
  unfold bst
  simpa using this
theorem eqSp0 : eqV encSp (⟨0, 0⟩ : Sp) ⟨0, 0⟩ = true := eqSp_self _
theorem tmod_self_mul (k : Nat) (s : Int) : Int.tmod ((k : Int) * s) s = 0 := Int.mul_tmod_left ..
theorem acc_in {l : List TSlice} {d : List Df} {p : TProduct} {b : Bx} (h : acc l d p b = true) : 0 ≤ b.z.a ∧ b.z.a < b.z.b ∧ b.z.b ≤ slen l := by
  unfold acc at h
  simp only [Bool.and_eq_true] at h
  exact wthin_t h.2.2.1
theorem idx_ok {n m : Int} (hn : 1 ≤ n ∧ n ≤ 1000) : WU64 n = n ∧ 0 ≤ W64 (Int.tmod (WU64 m) n) ∧ W64 (Int.tmod (WU64 m) n) < n := by
  have h1 : WU64 n = n := by
    rw [WU64_def]
    omega
  have h2 : 0 ≤ WU64 m := by
    rw [WU64_def]
    omega
  have h3 := Int.tmod_lt_of_pos (WU64 m) (show 0 < n by omega)
  have h4 := Int.tmod_nonneg n h2
  rw [W64_eq (by omega) (by omega)]
  exact ⟨h1, h4, h3⟩
theorem worthBest_true (g : Tsawmilllaw20_Given) (vr : TRect) (t : Int × Int × Int) (hl : LowOk g.Solid) : l20_WorthBest_g g vr t = some true := by
  unfold l20_WorthBest_g
  obtain ⟨c, hc, hsm⟩ := small_total g
  obtain ⟨o, h1, _, hB⟩ := lbest_both hl vr t.1 (g := g)
  rw [hc, bind_some', aw20, h1]
  cases c with
  | false => rfl
  | true =>
    cases l20_rare_g t.1 with
    | false => rfl
    | true =>
      have hlen := (hsm rfl).2.2.1
      simp only [bind_some', Bool.not_true, cond_false]
      rw [of_eq hl, bind_some']
      -- what is found
      have hF : (o.2.2 = false ∧ o.2.1 = 0 ∧ o.1 = ⟨0, 0⟩) ∨ (o.2.2 = true ∧ wo g.Solid g.Defects g.Product ⟨vr.X, vr.Y, o.1⟩ g.Fine = (o.2.1, true) ∧ 1 ≤ t.1 ∧ Int.tmod o.1.a t.1 = 0) := by
        rcases hB with ⟨_, rfl⟩ | ⟨hV, hs, hf, hv, n, hn1, hn2, rfl⟩
        · exact .inl ⟨rfl, rfl, rfl⟩
        · have hI := best_inv hV.prod vr hs.1 g.Fine n (l := g.Solid) (d := g.Defects)
          rcases hI with ⟨e1, _⟩ | ⟨e1, e2, e3, e4, _⟩
          · rw [e1]
            exact .inl ⟨rfl, rfl, rfl⟩
          · refine .inr ⟨e1, ?_, hs.1, ?_⟩
            · unfold wo
              rw [hv, e3, e4]
              have : r20_from_g g.Fine 0 1000000 = true := by
                rw [from_dec, decide_eq_true hf.1, decide_eq_true hf.2]
                rfl
              rw [this]
              rfl
            · obtain ⟨k, _, e, _, hk⟩ := cand_mem e2
              show Int.tmod (bst _ _ _ _ _ _ _).2.2.a _ = 0
              rw [hk]
              exact tmod_self_mul k t.1
      have hX : ∀ (K : Bool → Option Bool), ((Option.bind ((bif o.2.2 then (bif (!(wo g.Solid g.Defects g.Product ⟨vr.X, vr.Y, o.1⟩ g.Fine).2) then some (Sum.inl false) else (bif ((wo g.Solid g.Defects g.Product ⟨vr.X, vr.Y, o.1⟩ g.Fine).1 != o.2.1) then some (Sum.inl false) else (bif (decide (t.1 < 1)) then some (Sum.inl false) else (bif (t.1 != 0) then (bif ((Int.tmod o.1.a t.1) != 0) then some (Sum.inl false) else some (Sum.inr true)) else none)))) else some (Sum.inr false)) : Option (Bool ⊕ Bool)) (Sum.elim (fun q => some q) K)) = K o.2.2) := by
        intro K
        rcases hF with ⟨e1, e2, e3⟩ | ⟨e1, e2, e3, e4⟩
        · rw [e1]
          rfl
        · rw [e1, e2, e4, decide_eq_false (by omega), ne_t (n := t.1) (by omega)]
          simp
      rw [hX]
      have hY : ∀ (K : Unit → Option Bool), (Option.bind ((bif (!o.2.2) then (bif (o.2.1 != 0) then some (Sum.inl false) else (bif (!(eqV encSp o.1 (⟨0, 0⟩ : Sp))) then some (Sum.inl false) else some (Sum.inr ()))) else some (Sum.inr ())) : Option (Bool ⊕ Unit)) (Sum.elim (fun q => some q) K)) = K () := by
        intro K
        rcases hF with ⟨e1, e2, e3⟩ | ⟨e1, e2, e3, e4⟩
        · rw [e1, e2, e3, eqSp0]
          rfl
        · rw [e1]
          rfl
      rw [hY]
      by_cases g1 : t.1 < 1
      · rw [decide_eq_true g1]; rfl
      by_cases g2 : 20000 < t.1
      · rw [decide_eq_false g1, decide_eq_true g2]; rfl
      by_cases g3 : t.2.1 < 0
      · rw [decide_eq_false g1, decide_eq_false g2, decide_eq_true g3]; rfl
      by_cases g4 : 20000 < t.2.1
      · rw [decide_eq_false g1, decide_eq_false g2, decide_eq_false g3, decide_eq_true g4]; rfl
      rw [decide_eq_false g1, decide_eq_false g2, decide_eq_false g3, decide_eq_false g4]
      by_cases g5 : g.Product.Lengths.length = 0
      · rw [show (((g.Product.Lengths.length : Nat) : Int) == 0) = true by simp [g5]]; rfl
      rw [show (((g.Product.Lengths.length : Nat) : Int) == 0) = false by simp; intro h; simp [h] at g5, ne_t (n := t.1) (by omega)]
      obtain ⟨i1, i2, i3⟩ := idx_ok (n := ((g.Product.Lengths.length : Nat) : Int)) (m := t.2.2) (by omega)
      rw [i1, ne_t (n := ((g.Product.Lengths.length : Nat) : Int)) (by omega)]
      simp only [cond_false, cond_true]
      generalize W64 (Int.tmod (WU64 t.2.2) ((g.Product.Lengths.length : Nat) : Int)) = ix at i2 i3
      obtain ⟨j, rfl⟩ := Int.eq_ofNat_of_zero_le i2
      have hj : j < g.Product.Lengths.length := by omega
      rw [show getI g.Product.Lengths ((j : Nat) : Int) = some g.Product.Lengths[j] from getI_at hj, bind_some']
      by_cases g6 : g.Product.Lengths[j] < 0
      · rw [decide_eq_true g6]; rfl
      by_cases g7 : 20000 < g.Product.Lengths[j]
      · rw [decide_eq_false g6, decide_eq_true g7]; rfl
      rw [decide_eq_false g6, decide_eq_false g7]
      -- the position
      have hq : Int.tdiv t.2.1 t.1 = t.2.1 / t.1 := Int.tdiv_eq_ediv_of_nonneg (by omega)
      have hq0 : 0 ≤ t.2.1 / t.1 := Int.ediv_nonneg (by omega) (by omega)
      have hq1 : t.2.1 / t.1 * t.1 ≤ t.2.1 := Int.ediv_mul_le _ (by omega)
      have hq2 : 0 ≤ t.2.1 / t.1 * t.1 := Int.mul_nonneg hq0 (by omega)
      have hq3 : t.2.1 / t.1 ≤ t.2.1 := Int.ediv_le_self _ (by omega)
      rw [hq, W64_eq (n := t.2.1 / t.1) (by omega) (by omega), W64_eq (n := t.2.1 / t.1 * t.1) (by omega) (by omega), W64_eq (n := _ + g.Product.Lengths[j]) (by omega) (by omega)]
      simp only [cond_false]
      rw [of_eq hl, bind_some']
      rcases wo_cases g.Solid g.Defects g.Product ⟨vr.X, vr.Y, ⟨t.2.1 / t.1 * t.1, t.2.1 / t.1 * t.1 + g.Product.Lengths[j]⟩⟩ g.Fine with hw | ⟨w1, w2, w3, hw⟩
      · rw [hw]
        rfl
      · rw [hw]
        have hin := acc_in w3
        dsimp only at hin
        rcases hB with ⟨hn, _⟩ | ⟨hV, hs, hf, hv, n, hn1, hn2, rfl⟩
        · rw [w1, w2, from_dec, decide_eq_true (show 1 ≤ t.1 by omega), decide_eq_true (show t.1 ≤ 20000 by omega)] at hn
          exact absurd hn (by simp)
        · obtain ⟨k, hk⟩ := Int.eq_ofNat_of_zero_le hq0
          rw [hk] at hin w3 hw ⊢
          have hkn : k < n := by
            rcases Nat.lt_or_ge k n with h | h
            · exact h
            · have := Int.mul_le_mul_of_nonneg_right (show ((n : Nat) : Int) ≤ ((k : Nat) : Int) by omega) (show 0 ≤ t.1 by omega)
              omega
          have hmem := mem_cand (step := t.1) hkn (List.getElem_mem hj)
          have hI := best_inv hV.prod vr hs.1 g.Fine n (l := g.Solid) (d := g.Defects)
          rcases hI with ⟨_, e2⟩ | ⟨e1, e2, e3, e4, e5⟩
          · have := e2 _ hmem
            rw [w3] at this
            exact absurd this (by simp)
          · have h6 := e5 _ hmem w3
            dsimp only
            rw [e1]
            generalize bst g.Solid g.Defects g.Product vr t.1 g.Fine n = s at *
            simp only [Bool.not_true, cond_false]
            rcases h6 with h6 | ⟨h6, h7⟩
            · rw [decide_eq_false (by omega), decide_eq_true h6]
              rfl
            · rw [h6, decide_eq_false (by omega), cond_false, cond_false]
              rcases h7 with h7 | h7
              · rw [← h7]
                dsimp only
                rw [decide_eq_false (by omega), beq_self_eq_true, decide_eq_true (by omega)]
                rfl
              · unfold SLt at h7
                dsimp only at h7
                by_cases h8 : s.2.2.a < (k : Int) * t.1
                · rw [decide_eq_true h8]
                  rfl
                · rw [decide_eq_false h8, show (s.2.2.a == (k : Int) * t.1) = true by simp; omega, decide_eq_true (by omega)]
                  rfl

end Go.Proofs.Ytjdgaclkcmjjcaa
