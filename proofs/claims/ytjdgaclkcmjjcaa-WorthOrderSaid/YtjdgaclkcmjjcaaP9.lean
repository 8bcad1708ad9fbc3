/- P9: what functions of the program compute (written by mod.py). -/
import Derived.Test.YtjdgaclkcmjjcaaP8
import Derived.KernelRfl
namespace Go.Proofs.Ytjdgaclkcmjjcaa
open Go Go.Ab
set_option linter.unusedSimpArgs false
set_option linter.unusedVariables false
set_option maxRecDepth 20000

/-! the worth of a board on both sides -/
/-- A loop over a list that folds it and leaves at the first bad one. -/
theorem loopO_foldX {X Y α S : Type} {step : X → Option (X ⊕ Y)} (l : List α) (bad : α → Bool) (f : S → α → S) (s0 : S) (mk : S → Nat → X) (E : Y) (out : S → Y) (I : Nat → S → Prop) (h0 : I 0 s0) (hI : ∀ j s (hj : j < l.length), bad l[j] = false → I j s → I (j + 1) (f s l[j]))
    (h : ∀ s j (hj : j < l.length), I j s → bad l[j] = false → step (mk s j) = some (.inl (mk (f s l[j]) (j + 1)))) (hb : ∀ s j (hj : j < l.length), I j s → bad l[j] = true → step (mk s j) = some (.inr E)) (he : ∀ s, I l.length s → step (mk s l.length) = some (.inr (out s))) :
    loopO step (mk s0 0) = some (bif l.any bad then E else out (l.foldl f s0)) := by
  have : ∀ (r : List α) (j : Nat) (s : S), l.drop j = r → j ≤ l.length → I j s → loopO step (mk s j) = some (bif r.any bad then E else out (r.foldl f s)) := by
    intro r
    induction r with
    | nil =>
      intro j s hr hj hs
      have : l.length ≤ j := List.drop_eq_nil_iff.1 hr
      have : j = l.length := by omega
      subst this
      exact loopO_done (he s hs)
    | cons a r ih =>
      intro j s hr hj hs
      have hlt : j < l.length := by
        rcases Nat.lt_or_ge j l.length with h | h
        · exact h
        · rw [List.drop_eq_nil_of_le h] at hr
          exact absurd hr (by simp)
      have hcl := List.drop_eq_getElem_cons hlt
      rw [hr] at hcl
      obtain ⟨ha, hr'⟩ := List.cons.inj hcl
      rw [List.any_cons, List.foldl_cons, ha]
      cases hbad : bad l[j] with
      | true => exact loopO_done (hb s j hlt hs hbad)
      | false =>
        rw [loopO_next (h s j hlt hs hbad)]
        exact ih (j + 1) (f s l[j]) hr'.symm (by omega) (hI j s hlt hbad hs)
  exact this l 0 s0 (List.drop_zero ..) (by omega) h0
def ov (a b : Sp) : Prop := max a.a b.a < min a.b b.b
instance (a b : Sp) : Decidable (ov a b) := by unfold ov; infer_instance
theorem meet_nonempty (a b : Sp) : decide ((r03_Meet_g a b).b ≤ (r03_Meet_g a b).a) = !decide (ov a b) := by
  unfold r03_Meet_g ov
  by_cases h : min a.b b.b ≤ max a.a b.a
  · rw [decide_eq_true h, cond_true, decide_eq_false (p := max a.a b.a < min a.b b.b) (by omega)]
    rfl
  · rw [decide_eq_false h, cond_false, decide_eq_true (p := max a.a b.a < min a.b b.b) (by omega)]
    exact decide_eq_false h
def tch (b : Bx) (d : Df) : Bool := decide (ov d.b.x b.x) && (decide (ov d.b.y b.y) && decide (ov d.b.z b.z))
theorem tch_eq (d : Df) (b : Bx) : r13_Touches_g d b = tch b d := by
  unfold r13_Touches_g r13_Meet_g r13_Empty_g tch
  simp only [letB_eq, meet_nonempty]
  cases decide (ov d.b.x b.x) <;> cases decide (ov d.b.y b.y) <;> cases decide (ov d.b.z b.z) <;> rfl
def bad3 (b : Bx) (d : Df) : Bool := d.k == 3 && tch b d
def vf (b : Bx) (fine : Int) (n : Int) (d : Df) : Int := if tch b d = true then n - fine else n
theorem price_total {p : TProduct} (hl : p.Lengths.length ≤ 1000) (n : Int) : ∃ pr : Int × Bool, r19_Price_g p n = some pr ∧ (pr.2 = false → pr.1 = 0) ∧ (pr.2 = true → ∃ (j : Nat) (h1 : j < p.Lengths.length) (h2 : j < p.Prices.length), p.Lengths[j] = n ∧ p.Prices[j] = pr.1) := by
  unfold r19_Price_g
  obtain ⟨y, hy, hG⟩ := loopO_inv (step := fun q : Int => r19_Price_s1 p n q) (fun q => ∃ k : Nat, k ≤ p.Lengths.length ∧ q = (k : Int)) (fun q => p.Lengths.length - q.toNat) (fun y => y = .inr () ∨ y = .inl (0, false) ∨ ∃ (j : Nat) (h1 : j < p.Lengths.length) (h2 : j < p.Prices.length), p.Lengths[j] = n ∧ y = .inl (p.Prices[j], true)) (by
    rintro q ⟨k, hk, rfl⟩
    unfold r19_Price_s1
    rcases Nat.lt_or_ge k p.Lengths.length with hlt | hge
    · rw [lt_nat hlt, cond_true, getI_at hlt, bind_some', W64_succ (by omega)]
      by_cases h1 : p.Lengths[k] = n
      · rw [show (p.Lengths[k] == n) = true by simp [h1], cond_true]
        by_cases h2 : p.Prices.length ≤ k
        · rw [decide_eq_true (by omega)]
          exact .inr ⟨_, rfl, .inr (.inl rfl)⟩
        · rw [decide_eq_false (by omega), cond_false, getI_at (by omega), bind_some']
          exact .inr ⟨_, rfl, .inr (.inr ⟨k, hlt, by omega, h1, rfl⟩)⟩
      · rw [show (p.Lengths[k] == n) = false by simp [h1]]
        exact .inl ⟨_, rfl, ⟨k + 1, by omega, rfl⟩, by omega⟩
    · have : k = p.Lengths.length := by omega
      subst this
      rw [nlt_nat]
      exact .inr ⟨_, rfl, .inl rfl⟩) 0 ⟨0, by omega, rfl⟩
  rw [hy, bind_some']
  rcases hG with rfl | rfl | ⟨j, h1, h2, h3, rfl⟩
  · exact ⟨(0, false), rfl, fun _ => rfl, fun h => by simp at h⟩
  · exact ⟨(0, false), rfl, fun _ => rfl, fun h => by simp at h⟩
  · exact ⟨(p.Prices[j], true), rfl, fun h => by simp at h, fun _ => ⟨j, h1, h2, h3, rfl⟩⟩
/-- The value of a box: the price less the fines. -/
def vsum (d : List Df) (b : Bx) (fine pr : Int) : Int := d.foldl (vf b fine) pr
theorem value_loop {d : List Df} (hd : d.length ≤ 1000) (b : Bx) {fine pr : Int} (hf : 0 ≤ fine ∧ fine ≤ 1000000) (hp : 0 ≤ pr ∧ pr ≤ 1000000) : loopO (fun q : Int × Int => r20_value_s1 d b fine q.1 q.2) (pr, 0) = some (vsum d b fine pr) := by
  have := loopO_foldI (step := fun q : Int × Int => r20_value_s1 d b fine q.1 q.2) d (vf b fine) pr (fun n j => (n, (j : Int))) (fun n => n) (fun j n => -1000000 * (j : Int) ≤ n ∧ n ≤ 1000000) (by omega) (fun j n hj hn => by
    unfold vf
    split <;> omega) (fun n j hj hn => by
    unfold r20_value_s1 vf
    dsimp only
    rw [lt_nat hj, cond_true, getI_at hj, bind_some', tch_eq, W64_succ (by omega)]
    cases tch b d[j] with
    | true =>
      rw [cond_true, W64_eq (by omega) (by omega), if_pos rfl]
    | false =>
      rw [cond_false, if_neg (by simp)]) (fun n _ => by
    unfold r20_value_s1
    dsimp only
    rw [nlt_nat]
    rfl)
  exact this
theorem accept_loop {d : List Df} (hd : d.length ≤ 1000) (b : Bx) : loopO (fun q : Int => r20_accept_s1 d b q) 0 = some (bif d.any (bad3 b) then .inl false else .inr ()) := by
  have := loopO_foldX (step := fun q : Int => r20_accept_s1 d b q) d (bad3 b) (fun (u : Unit) _ => u) () (fun _ j => (j : Int)) (.inl false) (fun _ => .inr ()) (fun _ _ => True) trivial (fun _ _ _ _ _ => trivial) (fun s j hj _ hbad => by
    unfold bad3 at hbad
    unfold r20_accept_s1
    rw [lt_nat hj, cond_true, getI_at hj, bind_some', bind_some', tch_eq, W64_succ (by omega)]
    cases h1 : (d[j].k == 3) with
    | false => rfl
    | true =>
      rw [h1, Bool.true_and] at hbad
      rw [hbad]
      rfl) (fun s j hj _ hbad => by
    unfold bad3 at hbad
    rw [Bool.and_eq_true] at hbad
    unfold r20_accept_s1
    rw [lt_nat hj, cond_true, getI_at hj, bind_some', bind_some', tch_eq, hbad.1, hbad.2]
    rfl) (fun _ _ => by
    unfold r20_accept_s1
    rw [nlt_nat]
    rfl)
  exact this

end Go.Proofs.Ytjdgaclkcmjjcaa
