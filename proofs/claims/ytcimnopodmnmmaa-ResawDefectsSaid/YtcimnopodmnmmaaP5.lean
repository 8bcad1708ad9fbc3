/- P5: what functions of the program compute (written by mod.py). -/
import Derived.Test.YtcimnopodmnmmaaP4
import Derived.KernelRfl
namespace Go.Proofs.Ytcimnopodmnmmaa
open Go Go.Ab
set_option linter.unusedSimpArgs false
set_option linter.unusedVariables false
set_option maxRecDepth 20000
set_option maxHeartbeats 1000000

/-! what a split holds: volumes and defects -/
def dj (s u : Sp) : Prop := s.b ≤ u.a ∨ u.b ≤ s.a
def slen (l : List Sp) : Int := (l.map fun s => s.b - s.a).sum
theorem slen_nil : slen [] = 0 := rfl
theorem slen_cons (s : Sp) (l : List Sp) : slen (s :: l) = s.b - s.a + slen l := rfl
theorem slen_append (l m : List Sp) : slen (l ++ m) = slen l + slen m := by
  unfold slen
  rw [List.map_append, List.sum_append]
theorem spans_in {t k : Int} (hk : 0 ≤ k) : ∀ (l : List Int) (a : Int), Fit t k a l →
    (∀ s ∈ brdR t k a l, a ≤ s.a ∧ s.a < s.b ∧ s.b ≤ endR t k a l) ∧ (∀ s ∈ dstR t k a l, a ≤ s.a ∧ s.a < s.b ∧ s.b ≤ endR t k a l) ∧ (brdR t k a l ++ dstR t k a l).Pairwise dj ∧ slen (brdR t k a l) + slen (dstR t k a l) = endR t k a l - a := by
  intro l
  induction l with
  | nil => intro a _; simp [brdR, dstR, endR, slen]
  | cons e r ih =>
    intro a h
    obtain ⟨h1, h2, h3⟩ := h
    obtain ⟨i1, i2, i3, i4⟩ := ih _ h3
    have he := end_ge hk r _ h3
    have ha' : a + e ≤ min (a + e + k) t := by omega
    rw [brdR, dstR, endR]
    generalize min (a + e + k) t = a' at *
    have hD : ∀ s ∈ (if a + e < a' then [(⟨a + e, a'⟩ : Sp)] else []), s = ⟨a + e, a'⟩ ∧ a + e < a' := by
      intro s hs
      by_cases hh : a + e < a'
      · rw [if_pos hh, List.mem_singleton] at hs
        exact ⟨hs, hh⟩
      · rw [if_neg hh] at hs
        exact absurd hs (by simp)
    refine ⟨?_, ?_, ?_, ?_⟩
    · intro s hs
      rw [List.mem_cons] at hs
      rcases hs with rfl | hs
      · exact ⟨by dsimp only; omega, by dsimp only; omega, by dsimp only; omega⟩
      · have := i1 s hs
        omega
    · intro s hs
      rw [List.mem_append] at hs
      rcases hs with hs | hs
      · obtain ⟨rfl, hh⟩ := hD s hs
        exact ⟨by dsimp only; omega, by dsimp only; omega, by dsimp only; omega⟩
      · have := i2 s hs
        omega
    · rw [List.pairwise_append] at i3 ⊢
      obtain ⟨j1, j2, j3⟩ := i3
      refine ⟨?_, ?_, ?_⟩
      · rw [List.pairwise_cons]
        refine ⟨fun s hs => .inl ?_, j1⟩
        have := i1 s hs
        dsimp only
        omega
      · rw [List.pairwise_append]
        refine ⟨?_, j2, ?_⟩
        · by_cases hh : a + e < a'
          · rw [if_pos hh]; simp
          · rw [if_neg hh]; simp
        · intro s hs u hu
          obtain ⟨rfl, hh⟩ := hD s hs
          have := i2 u hu
          exact .inl (by dsimp only; omega)
      · intro s hs u hu
        rw [List.mem_cons] at hs
        rw [List.mem_append] at hu
        rcases hu with hu | hu
        · obtain ⟨rfl, hh⟩ := hD u hu
          rcases hs with rfl | hs
          · exact .inl (by dsimp only; omega)
          · have := i1 s hs
            exact .inr (by dsimp only; omega)
        · rcases hs with rfl | hs
          · have := i2 u hu
            exact .inl (by dsimp only; omega)
          · exact j3 s hs u hu
    · rw [slen_cons, slen_append]
      have : slen (if a + e < a' then [(⟨a + e, a'⟩ : Sp)] else []) = a' - (a + e) := by
        by_cases hh : a + e < a'
        · rw [if_pos hh]; simp [slen]
        · rw [if_neg hh]; simp [slen]; omega
      dsimp only
      omega
noncomputable def allS (t k : Int) (ts : List Int) : List Sp := brdR t k 0 ts ++ dstR t k 0 ts ++ (bif decide (endR t k 0 ts < t) then [⟨endR t k 0 ts, t⟩] else [])
theorem allS_ok {t k : Int} (hk : 0 ≤ k) {ts : List Int} (hF : Fit t k 0 ts) : (∀ s ∈ allS t k ts, 0 ≤ s.a ∧ s.a < s.b ∧ s.b ≤ t) ∧ (allS t k ts).Pairwise dj ∧ slen (allS t k ts) = t := by
  obtain ⟨h1, h2, h3, h4⟩ := spans_in hk ts 0 hF
  have he := end_le ts 0 hF
  have he0 := end_ge hk ts 0 hF
  unfold allS
  by_cases hh : endR t k 0 ts < t
  · rw [decide_eq_true hh, cond_true]
    refine ⟨?_, ?_, ?_⟩
    · intro s hs
      rw [List.mem_append, List.mem_append, List.mem_singleton] at hs
      rcases hs with (hs | hs) | rfl
      · have := h1 s hs
        omega
      · have := h2 s hs
        omega
      · exact ⟨he0, hh, Int.le_refl _⟩
    · rw [List.pairwise_append]
      refine ⟨h3, by simp, ?_⟩
      intro s hs u hu
      rw [List.mem_singleton] at hu
      subst hu
      rw [List.mem_append] at hs
      rcases hs with hs | hs
      · exact .inl (h1 s hs).2.2
      · exact .inl (h2 s hs).2.2
    · rw [slen_append, slen_append, slen_cons, slen_nil]
      dsimp only
      omega
  · rw [decide_eq_false hh, cond_false, List.append_nil]
    refine ⟨?_, h3, ?_⟩
    · intro s hs
      rw [List.mem_append] at hs
      rcases hs with hs | hs
      · have := h1 s hs
        omega
      · have := h2 s hs
        omega
    · rw [slen_append]
      omega
structure Cut (b : TBoard) (ax : Bool) (t w : Int) : Prop where
  bd : BdB b
  t1 : 1 ≤ t ∧ t ≤ 600
  w1 : 1 ≤ w
  s : if ax then b.Box.x.b - b.Box.x.a = t ∧ b.Box.y.b - b.Box.y.a = w else b.Box.y.b - b.Box.y.a = t ∧ b.Box.x.b - b.Box.x.a = w
section
variable {b : TBoard} {ax : Bool} {t w : Int} (hC : Cut b ax t w)
include hC
theorem mkX_t (hax : ax = true) {s : Sp} (hs : 0 ≤ s.a ∧ s.a < s.b ∧ s.b ≤ t) : mkX b ax (lowOf b ax) s = ⟨⟨b.Box.x.a + s.a, b.Box.x.a + s.b⟩, b.Box.y, b.Box.z⟩ := by
  subst hax
  have := hC.bd.x
  have := hC.t1
  unfold mkX lowOf resaw_with_g
  simp only [cond_true]
  rw [W64_eq (by omega) (by omega), W64_eq (by omega) (by omega)]
theorem mkX_f (hax : ax = false) {s : Sp} (hs : 0 ≤ s.a ∧ s.a < s.b ∧ s.b ≤ t) : mkX b ax (lowOf b ax) s = ⟨b.Box.x, ⟨b.Box.y.a + s.a, b.Box.y.a + s.b⟩, b.Box.z⟩ := by
  subst hax
  have := hC.bd.y
  have := hC.t1
  unfold mkX lowOf resaw_with_g
  simp only [cond_false]
  rw [W64_eq (by omega) (by omega), W64_eq (by omega) (by omega)]
theorem mk_inside {s : Sp} (hs : 0 ≤ s.a ∧ s.a < s.b ∧ s.b ≤ t) : l27_inside_g (mkX b ax (lowOf b ax) s) b.Box = true := by
  have hS := hC.s
  cases ax with
  | true =>
    have hS' : b.Box.x.b - b.Box.x.a = t ∧ b.Box.y.b - b.Box.y.a = w := hS
    rw [mkX_t hC rfl hs]
    unfold l27_inside_g
    simp only [Bool.cond_false_right, Bool.and_eq_true, decide_eq_true_eq]
    omega
  | false =>
    have hS' : b.Box.y.b - b.Box.y.a = t ∧ b.Box.x.b - b.Box.x.a = w := by simpa using hS
    rw [mkX_f hC rfl hs]
    unfold l27_inside_g
    simp only [Bool.cond_false_right, Bool.and_eq_true, decide_eq_true_eq]
    omega
theorem mk_apart {s u : Sp} (hs : 0 ≤ s.a ∧ s.a < s.b ∧ s.b ≤ t) (hu : 0 ≤ u.a ∧ u.a < u.b ∧ u.b ≤ t) (hd : dj s u) : l27_apart_g (mkX b ax (lowOf b ax) s) (mkX b ax (lowOf b ax) u) = true := by
  unfold dj at hd
  cases ax with
  | true =>
    rw [mkX_t hC rfl hs, mkX_t hC rfl hu]
    unfold l27_apart_g
    simp only [Bool.cond_true_left, Bool.or_eq_true, decide_eq_true_eq]
    rcases hd with hd | hd
    · exact .inl (by omega)
    · exact .inr (.inl (by omega))
  | false =>
    rw [mkX_f hC rfl hs, mkX_f hC rfl hu]
    unfold l27_apart_g
    simp only [Bool.cond_true_left, Bool.or_eq_true, decide_eq_true_eq]
    rcases hd with hd | hd
    · exact .inr (.inr (.inl (by omega)))
    · exact .inr (.inr (.inr (.inl (by omega))))
theorem vol_bd : w ≤ 1200 ∧ 1 ≤ b.Box.z.b - b.Box.z.a ∧ b.Box.z.b - b.Box.z.a ≤ 20000 ∧ 1 ≤ w * (b.Box.z.b - b.Box.z.a) ∧ w * (b.Box.z.b - b.Box.z.a) ≤ 24000000 := by
  have hx := hC.bd.x
  have hy := hC.bd.y
  have hz := hC.bd.z
  have hw := hC.w1
  have hS := hC.s
  have hw2 : w ≤ 1200 := by
    cases ax with
    | true =>
      have hS' : b.Box.x.b - b.Box.x.a = t ∧ b.Box.y.b - b.Box.y.a = w := hS
      omega
    | false =>
      have hS' : b.Box.y.b - b.Box.y.a = t ∧ b.Box.x.b - b.Box.x.a = w := by simpa using hS
      omega
  have m1 : 1 * 1 ≤ w * (b.Box.z.b - b.Box.z.a) := Int.mul_le_mul hw (by omega) (by omega) (by omega)
  have m2 : w * (b.Box.z.b - b.Box.z.a) ≤ 1200 * 20000 := Int.mul_le_mul hw2 (by omega) (by omega) (by omega)
  exact ⟨hw2, by omega, by omega, by omega, by omega⟩
theorem mk_vol {s : Sp} (hs : 0 ≤ s.a ∧ s.a < s.b ∧ s.b ≤ t) : l27_volume_g (mkX b ax (lowOf b ax) s) = (s.b - s.a) * (w * (b.Box.z.b - b.Box.z.a)) := by
  obtain ⟨v1, v2, v3, v4, v5⟩ := vol_bd hC
  have ht := hC.t1
  have hw := hC.w1
  have m1 : 0 ≤ (s.b - s.a) * w := Int.mul_nonneg (by omega) (by omega)
  have m2 : (s.b - s.a) * w ≤ 600 * 1200 := Int.mul_le_mul (by omega) v1 (by omega) (by omega)
  have m3 : 0 ≤ (s.b - s.a) * (w * (b.Box.z.b - b.Box.z.a)) := Int.mul_nonneg (by omega) (by omega)
  have m4 : (s.b - s.a) * (w * (b.Box.z.b - b.Box.z.a)) ≤ 600 * 24000000 := Int.mul_le_mul (by omega) v5 (by omega) (by omega)
  have hS := hC.s
  have hzz := hC.bd.z
  cases ax with
  | true =>
    have hS' : b.Box.x.b - b.Box.x.a = t ∧ b.Box.y.b - b.Box.y.a = w := hS
    rw [mkX_t hC rfl hs]
    unfold l27_volume_g
    dsimp only
    rw [show b.Box.x.a + s.b - (b.Box.x.a + s.a) = s.b - s.a by omega, hS'.2, W64_eq (n := s.b - s.a) (by omega) (by omega), W64_eq (n := w) (by omega) (by omega), W64_eq (n := b.Box.z.b - b.Box.z.a) (by omega) (by omega), W64_eq (n := (s.b - s.a) * w) (by omega) (by omega), Int.mul_assoc, W64_eq (by omega) (by omega)]
  | false =>
    have hS' : b.Box.y.b - b.Box.y.a = t ∧ b.Box.x.b - b.Box.x.a = w := by simpa using hS
    rw [mkX_f hC rfl hs]
    unfold l27_volume_g
    dsimp only
    rw [show b.Box.y.a + s.b - (b.Box.y.a + s.a) = s.b - s.a by omega, hS'.2, W64_eq (n := s.b - s.a) (by omega) (by omega), W64_eq (n := w) (by omega) (by omega), W64_eq (n := b.Box.z.b - b.Box.z.a) (by omega) (by omega), Int.mul_comm w (s.b - s.a), W64_eq (n := (s.b - s.a) * w) (by omega) (by omega), Int.mul_assoc, W64_eq (by omega) (by omega)]
theorem box_vol : l27_volume_g b.Box = t * (w * (b.Box.z.b - b.Box.z.a)) := by
  have ht := hC.t1
  have hS := hC.s
  have h := mk_vol hC (s := ⟨0, t⟩) ⟨by dsimp only; omega, by dsimp only; omega, by dsimp only; omega⟩
  dsimp only at h
  rw [show t - 0 = t by omega] at h
  rw [← h]
  cases ax with
  | true =>
    have hS' : b.Box.x.b - b.Box.x.a = t ∧ b.Box.y.b - b.Box.y.a = w := hS
    rw [mkX_t hC rfl ⟨by dsimp only; omega, by dsimp only; omega, by dsimp only; omega⟩]
    unfold l27_volume_g
    dsimp only
    rw [show b.Box.x.a + t - (b.Box.x.a + 0) = b.Box.x.b - b.Box.x.a by omega]
  | false =>
    have hS' : b.Box.y.b - b.Box.y.a = t ∧ b.Box.x.b - b.Box.x.a = w := by simpa using hS
    rw [mkX_f hC rfl ⟨by dsimp only; omega, by dsimp only; omega, by dsimp only; omega⟩]
    unfold l27_volume_g
    dsimp only
    rw [show b.Box.y.a + t - (b.Box.y.a + 0) = b.Box.y.b - b.Box.y.a by omega]
end
theorem slen_take {t : Int} (ht : t ≤ 600) : ∀ {l : List Sp}, (∀ s ∈ l, 0 ≤ s.a ∧ s.a < s.b ∧ s.b ≤ t) → 0 ≤ slen l ∧ slen l ≤ 600 * (l.length : Int)
  | [], _ => by simp [slen]
  | s :: l, h => by
    have h1 := slen_take ht (l := l) (fun s hs => h s (List.mem_cons_of_mem _ hs))
    have h2 := h s (List.mem_cons_self ..)
    rw [slen_cons, List.length_cons]
    push_cast
    omega
theorem inner_apart {x : Tsawmilllaw27_Split} {ax : Bool} {t w : Int} (hC : Cut x.Board ax t w) {L : List Sp} (hL : ∀ s ∈ L, 0 ≤ s.a ∧ s.a < s.b ∧ s.b ≤ t) (hd : L.Pairwise dj) (hl : L.length ≤ 100) {i : Nat} (hi : i < L.length) :
    loopO (fun q => l27_ResawBoards_s3 (L.map (mkX x.Board ax (lowOf x.Board ax))) (i : Int) q) 0 = some (.inr ()) := by
  refine loopO_upto (step := fun q : Int => l27_ResawBoards_s3 (L.map (mkX x.Board ax (lowOf x.Board ax))) (i : Int) q) (fun j => (j : Int)) i (fun j hj => ?_) ?_
  · show l27_ResawBoards_s3 _ (i : Int) (j : Int) = _
    unfold l27_ResawBoards_s3
    have hj' : j < L.length := by omega
    have hp := List.pairwise_iff_getElem.1 hd j i hj' hi hj
    rw [lt_nat hj, cond_true, getI_at (by rw [List.length_map]; exact hi), bind_some', getI_at (by rw [List.length_map]; exact hj'), bind_some', List.getElem_map, List.getElem_map, mk_apart hC (hL _ (List.getElem_mem hi)) (hL _ (List.getElem_mem hj')) hp.symm, Bool.not_true, cond_false, W64_succ (by omega)]
  · show l27_ResawBoards_s3 _ (i : Int) (i : Int) = _
    unfold l27_ResawBoards_s3
    rw [nlt_nat]
    rfl
theorem outer_vol {x : Tsawmilllaw27_Split} {ax : Bool} {t w : Int} (hC : Cut x.Board ax t w) {L : List Sp} (hL : ∀ s ∈ L, 0 ≤ s.a ∧ s.a < s.b ∧ s.b ≤ t) (hd : L.Pairwise dj) (hl : L.length ≤ 100) :
    loopO (fun q : Int × Int => l27_ResawBoards_s2 x (L.map (mkX x.Board ax (lowOf x.Board ax))) q.1 q.2) (0, 0) = some (.inr (slen L * (w * (x.Board.Box.z.b - x.Board.Box.z.a)))) := by
  obtain ⟨v1, v2, v3, v4, v5⟩ := vol_bd hC
  have ht := hC.t1
  have hw := hC.w1
  have := loopO_upto (step := fun q : Int × Int => l27_ResawBoards_s2 x (L.map (mkX x.Board ax (lowOf x.Board ax))) q.1 q.2) (fun j => (slen (L.take j) * (w * (x.Board.Box.z.b - x.Board.Box.z.a)), (j : Int))) L.length (y := .inr (slen L * (w * (x.Board.Box.z.b - x.Board.Box.z.a)))) (fun j hj => by
    show l27_ResawBoards_s2 x _ _ (j : Int) = _
    unfold l27_ResawBoards_s2
    have hs := hL _ (List.getElem_mem hj)
    have hb1 := slen_take ht.2 (l := L.take j) (fun s hs => hL s (List.mem_of_mem_take hs))
    have hlt : (L.take j).length ≤ 100 := by rw [List.length_take]; omega
    have m1 : 0 ≤ slen (L.take j) * (w * (x.Board.Box.z.b - x.Board.Box.z.a)) := Int.mul_nonneg hb1.1 (by omega)
    have m2 : slen (L.take j) * (w * (x.Board.Box.z.b - x.Board.Box.z.a)) ≤ 60000 * 24000000 := Int.mul_le_mul (by omega) v5 (by omega) (by omega)
    have m3 : 1 * 1 ≤ (L[j].b - L[j].a) * (w * (x.Board.Box.z.b - x.Board.Box.z.a)) := Int.mul_le_mul (by omega) v4 (by omega) (by omega)
    have m4 : (L[j].b - L[j].a) * (w * (x.Board.Box.z.b - x.Board.Box.z.a)) ≤ 600 * 24000000 := Int.mul_le_mul (by omega) v5 (by omega) (by omega)
    have hg : getI (L.map (mkX x.Board ax (lowOf x.Board ax))) (j : Int) = some (mkX x.Board ax (lowOf x.Board ax) L[j]) := by
      rw [getI_at (by rw [List.length_map]; exact hj), List.getElem_map]
    rw [decide_eq_true (by rw [List.length_map]; omega), cond_true, hg]
    simp only [bind_some']
    rw [mk_inside hC hs, mk_vol hC hs, Bool.not_true, cond_false, decide_eq_false (by omega), cond_false, inner_apart hC hL hd hl hj]
    show some (Sum.inl (W64 _, W64 _)) = _
    rw [W64_succ (by omega), W64_eq (by omega) (by omega), List.take_succ_eq_append_getElem hj, slen_append, slen_cons, slen_nil, Int.add_zero, Int.add_mul]) (by
    show l27_ResawBoards_s2 x _ _ (L.length : Int) = _
    unfold l27_ResawBoards_s2
    rw [decide_eq_false (by rw [List.length_map]; omega), cond_false, List.take_length])
  simpa [slen] using this
theorem boxes_loop (x : Tsawmilllaw27_Split) {ax : Bool} {low : Int} {S : List Sp} {ov : List TBoard × List Bx × List Bx × Int} (ho : ov.1 = (x.Parts.zip S).map (mkB x.Board ax low)) (hS : S.length = x.Parts.length) (hl : S.length ≤ 100) :
    loopO (fun q : List Bx × Int => l27_ResawBoards_s1 x ov q.1 q.2) ([], 0) = some (.inr (S.map (mkX x.Board ax low))) := by
  have hlen : ov.1.length = S.length := by rw [ho, List.length_map, List.length_zip]; omega
  refine loopO_upto (step := fun q : List Bx × Int => l27_ResawBoards_s1 x ov q.1 q.2) (fun j => ((S.take j).map (mkX x.Board ax low), (j : Int))) S.length (fun j hj => ?_) ?_
  · show l27_ResawBoards_s1 x ov _ (j : Int) = _
    unfold l27_ResawBoards_s1
    have hg : getI ov.1 (j : Int) = some (mkB x.Board ax low (x.Parts[j], S[j])) := by
      rw [getI_at (by omega)]
      congr 1
      simp only [ho, List.getElem_map, List.getElem_zip]
    rw [decide_eq_true (by omega), cond_true, hg, bind_some', getI_at (l := x.Parts) (by omega), bind_some']
    have hz : (mkB x.Board ax low (x.Parts[j], S[j])).Box.z = x.Board.Box.z := by
      unfold mkB mkX resaw_with_g
      cases ax <;> rfl
    rw [hz, eqSp_self]
    show (bif !(bEq (⟨#[]⟩ : ByteArray) ⟨#[]⟩) then _ else bif !(bEq x.Board.Log x.Board.Log) then _ else bif !(bEq x.Board.Species x.Board.Species) then _ else bif x.Parts[j] != x.Parts[j] then _ else bif (0 : Int) != 0 then _ else bif x.Board.Wane != x.Board.Wane then _ else bif !(eqV encTCell x.Board.Cell x.Board.Cell) then _ else bif !(x.Board.Dried == x.Board.Dried) then _ else bif (0 : Int) != 0 then _ else bif !true then _ else _) = _
    simp only [bEq_self, eqCell_self, Bool.not_true, cond_false, bne_self_eq_false, beq_self_eq_true]
    rw [appO_eq (by rw [List.length_map, List.length_take]; simp; omega) (by rw [List.length_map, List.length_take]; simp; omega), bind_some', W64_succ (by omega), List.take_succ_eq_append_getElem hj, List.map_append]
    rfl
  · show l27_ResawBoards_s1 x ov _ (S.length : Int) = _
    unfold l27_ResawBoards_s1
    rw [decide_eq_false (by omega), cond_false, List.take_length]
theorem resawBoards_true (x : Tsawmilllaw27_Split) : l27_ResawBoards_g x = some true := by
  unfold l27_ResawBoards_g l27_of_g
  rw [aw27]
  obtain ⟨v, hv, hs⟩ := small_tot x
  rw [hv, bind_some']
  cases v with
  | false => rfl
  | true =>
    obtain ⟨s1, s2, s3⟩ := hs rfl
    obtain ⟨r, r1, r2, r3⟩ := boards_both (b := x.Board) (by omega) x.Products (products := x.Parts) (by omega) x.Kerf
    rw [r1]
    simp only [bind_some', Bool.not_true, cond_false]
    rcases r3 with ⟨e, he, rfl⟩ | ⟨ax, t, w, ts, g1, g2, g3, g4, g5, rfl⟩
    · dsimp only
      rw [ne_t he]
      rfl
    · obtain ⟨hS, q1, q2, q3, q4, q5⟩ := chk_ok g4
      have hlen := dst_len (t := t) (k := x.Kerf) ts 0
      have hC : Cut x.Board ax t w := ⟨g1, ⟨hS.1, hS.2.1⟩, g2, g3⟩
      obtain ⟨a1, a2, a3⟩ := allS_ok hS.2.2.1 q5
      have hal : (allS t x.Kerf ts).length ≤ 17 := by
        unfold allS
        cases decide (endR t x.Kerf 0 ts < t) <;> simp <;> omega
      have hb := boxes_loop x (ax := ax) (low := lowOf x.Board ax) (S := brdR t x.Kerf 0 ts) (ov := ((goodR x.Board x.Parts x.Kerf ax t ts).1, (goodR x.Board x.Parts x.Kerf ax t ts).2.1, (goodR x.Board x.Parts x.Kerf ax t ts).2.2.1, 0)) rfl (by omega) (by omega)
      have hv := outer_vol hC a1 a2 (by omega)
      have hl1 : (goodR x.Board x.Parts x.Kerf ax t ts).1.length = x.Parts.length := by
        unfold goodR
        rw [List.length_map, List.length_zip]
        omega
      have hl2 : (goodR x.Board x.Parts x.Kerf ax t ts).2.1.length ≤ x.Parts.length := by
        unfold goodR
        rw [List.length_map]
        omega
      have hl3 : (goodR x.Board x.Parts x.Kerf ax t ts).2.2.1.length ≤ 1 := by
        unfold goodR
        dsimp only
        cases decide (endR t x.Kerf 0 ts < t) <;> simp
      rw [show (goodR x.Board x.Parts x.Kerf ax t ts).2.2.2 = 0 from rfl, ne_f, cond_false, hl1, show (((x.Parts.length : Nat) : Int) != ((x.Parts.length : Nat) : Int)) = false by simp, cond_false, decide_eq_false (by omega), cond_false, decide_eq_false (by omega), cond_false, hb]
      show Option.bind (appO 48 ((brdR t x.Kerf 0 ts).map (mkX x.Board ax (lowOf x.Board ax))) (goodR x.Board x.Parts x.Kerf ax t ts).2.1) _ = _
      rw [appO_eq (by rw [List.length_map]; omega) (by rw [List.length_map]; omega), bind_some', appO_eq (by rw [List.length_append, List.length_map]; omega) (by rw [List.length_append, List.length_map]; omega), bind_some']
      have hm : (brdR t x.Kerf 0 ts).map (mkX x.Board ax (lowOf x.Board ax)) ++ (goodR x.Board x.Parts x.Kerf ax t ts).2.1 ++ (goodR x.Board x.Parts x.Kerf ax t ts).2.2.1 = (allS t x.Kerf ts).map (mkX x.Board ax (lowOf x.Board ax)) := by
        unfold allS goodR
        rw [List.map_append, List.map_append]
        cases decide (endR t x.Kerf 0 ts < t) <;> rfl
      rw [hm, hv]
      show (bif (slen (allS t x.Kerf ts) * (w * (x.Board.Box.z.b - x.Board.Box.z.a)) == l27_volume_g x.Board.Box) then _ else _) = _
      rw [box_vol hC, a3]
      simp

end Go.Proofs.Ytcimnopodmnmmaa
