/- P6: what functions of the program compute (written by mod.py). -/
import Derived.Test.YtcimnopodmnmmaaP5
import Derived.KernelRfl
namespace Go.Proofs.Ytcimnopodmnmmaa
open Go Go.Ab
set_option linter.unusedSimpArgs false
set_option linter.unusedVariables false
set_option maxRecDepth 20000
set_option maxHeartbeats 1000000

/-! the defects of the parts -/
section
variable {b : TBoard} {ax : Bool} {t w : Int} (hC : Cut b ax t w)
include hC
theorem loc_t (hax : ax = true) {s : Sp} : resaw_with_g (locB b.Box) ax s = ⟨s, ⟨0, w⟩, ⟨0, b.Box.z.b - b.Box.z.a⟩⟩ := by
  subst hax
  have := hC.bd.x
  have := hC.bd.y
  have := hC.bd.z
  have hS : b.Box.x.b - b.Box.x.a = t ∧ b.Box.y.b - b.Box.y.a = w := hC.s
  unfold resaw_with_g locB
  simp only [cond_true]
  rw [W64_eq (n := b.Box.y.b - b.Box.y.a) (by omega) (by omega), W64_eq (n := b.Box.z.b - b.Box.z.a) (by omega) (by omega), hS.2]
theorem loc_f (hax : ax = false) {s : Sp} : resaw_with_g (locB b.Box) ax s = ⟨⟨0, w⟩, s, ⟨0, b.Box.z.b - b.Box.z.a⟩⟩ := by
  subst hax
  have := hC.bd.x
  have := hC.bd.y
  have := hC.bd.z
  have hS : b.Box.y.b - b.Box.y.a = t ∧ b.Box.x.b - b.Box.x.a = w := by simpa using hC.s
  unfold resaw_with_g locB
  simp only [cond_false]
  rw [W64_eq (n := b.Box.x.b - b.Box.x.a) (by omega) (by omega), W64_eq (n := b.Box.z.b - b.Box.z.a) (by omega) (by omega), hS.2]
theorem moved_eq {s : Sp} (hs : 0 ≤ s.a ∧ s.a < s.b ∧ s.b ≤ t) : l27_moved_g (mkX b ax (lowOf b ax) s) b.Box = resaw_with_g (locB b.Box) ax s := by
  have hx := hC.bd.x
  have hy := hC.bd.y
  have hz := hC.bd.z
  have ht := hC.t1
  cases ax with
  | true =>
    have hS : b.Box.x.b - b.Box.x.a = t ∧ b.Box.y.b - b.Box.y.a = w := hC.s
    rw [mkX_t hC rfl hs, loc_t hC rfl]
    unfold l27_moved_g
    dsimp only
    rw [W64_eq (n := b.Box.x.a + s.a - b.Box.x.a) (by omega) (by omega), W64_eq (n := b.Box.x.a + s.b - b.Box.x.a) (by omega) (by omega), W64_eq (n := b.Box.y.a - b.Box.y.a) (by omega) (by omega), W64_eq (n := b.Box.y.b - b.Box.y.a) (by omega) (by omega), W64_eq (n := b.Box.z.a - b.Box.z.a) (by omega) (by omega), W64_eq (n := b.Box.z.b - b.Box.z.a) (by omega) (by omega), show b.Box.x.a + s.a - b.Box.x.a = s.a by omega, show b.Box.x.a + s.b - b.Box.x.a = s.b by omega, Int.sub_self, Int.sub_self, hS.2]
  | false =>
    have hS : b.Box.y.b - b.Box.y.a = t ∧ b.Box.x.b - b.Box.x.a = w := by simpa using hC.s
    rw [mkX_f hC rfl hs, loc_f hC rfl]
    unfold l27_moved_g
    dsimp only
    rw [W64_eq (n := b.Box.y.a + s.a - b.Box.y.a) (by omega) (by omega), W64_eq (n := b.Box.y.a + s.b - b.Box.y.a) (by omega) (by omega), W64_eq (n := b.Box.x.a - b.Box.x.a) (by omega) (by omega), W64_eq (n := b.Box.x.b - b.Box.x.a) (by omega) (by omega), W64_eq (n := b.Box.z.a - b.Box.z.a) (by omega) (by omega), W64_eq (n := b.Box.z.b - b.Box.z.a) (by omega) (by omega), show b.Box.y.a + s.a - b.Box.y.a = s.a by omega, show b.Box.y.a + s.b - b.Box.y.a = s.b by omega, Int.sub_self, Int.sub_self, hS.2]
/-- A box that is not empty and near. -/
theorem loc_ok {s : Sp} (hs : 0 ≤ s.a ∧ s.a < s.b ∧ s.b ≤ t) : (0 ≤ (resaw_with_g (locB b.Box) ax s).x.a ∧ (resaw_with_g (locB b.Box) ax s).x.a < (resaw_with_g (locB b.Box) ax s).x.b ∧ (resaw_with_g (locB b.Box) ax s).x.b ≤ 1200) ∧ (0 ≤ (resaw_with_g (locB b.Box) ax s).y.a ∧ (resaw_with_g (locB b.Box) ax s).y.a < (resaw_with_g (locB b.Box) ax s).y.b ∧ (resaw_with_g (locB b.Box) ax s).y.b ≤ 1200) ∧ (0 ≤ (resaw_with_g (locB b.Box) ax s).z.a ∧ (resaw_with_g (locB b.Box) ax s).z.a < (resaw_with_g (locB b.Box) ax s).z.b ∧ (resaw_with_g (locB b.Box) ax s).z.b ≤ 20000) := by
  obtain ⟨v1, v2, v3, _⟩ := vol_bd hC
  have ht := hC.t1
  have hw := hC.w1
  cases ax with
  | true =>
    rw [loc_t hC rfl]
    dsimp only
    omega
  | false =>
    rw [loc_f hC rfl]
    dsimp only
    omega
end
structure Near (q : Bx) : Prop where
  x : 0 ≤ q.x.a ∧ q.x.a < q.x.b ∧ q.x.b ≤ 1200
  y : 0 ≤ q.y.a ∧ q.y.a < q.y.b ∧ q.y.b ≤ 1200
  z : 0 ≤ q.z.a ∧ q.z.a < q.z.b ∧ q.z.b ≤ 20000
theorem near_okB {q : Bx} (h : Near q) : okB q := okB_of (by have := h.x; omega) (by have := h.y; omega) (by have := h.z; omega)
theorem apart_iff {q : Bx} (h : Near q) {d : Df} (hd : dcheck d = 0) : l27_apart_g d.b q = !decide (tchB d.b q) := by
  have hv := dcheck_ok hd
  have hx := h.x
  have hy := h.y
  have hz := h.z
  rw [Bool.eq_iff_iff]
  unfold l27_apart_g
  simp only [Bool.cond_true_left, Bool.or_eq_true, decide_eq_true_eq, Bool.not_eq_true', decide_eq_false_iff_not]
  unfold tchB tch
  omega
theorem moved_cut {q : Bx} (h : Near q) {d : Df} (hd : dcheck d = 0) (hi : l27_inside_g d.b q = true) : l27_moved_g d.b q = cutB d.b q := by
  have hv := dcheck_ok hd
  have hx := h.x
  have hy := h.y
  have hz := h.z
  unfold l27_inside_g at hi
  simp only [Bool.cond_false_right, Bool.and_eq_true, decide_eq_true_eq] at hi
  unfold l27_moved_g cutB cut1
  rw [W64_eq (by omega) (by omega), W64_eq (by omega) (by omega), W64_eq (by omega) (by omega), W64_eq (by omega) (by omega), W64_eq (by omega) (by omega), W64_eq (by omega) (by omega), show max d.b.x.a q.x.a = d.b.x.a by omega, show min d.b.x.b q.x.b = d.b.x.b by omega, show max d.b.y.a q.y.a = d.b.y.a by omega, show min d.b.y.b q.y.b = d.b.y.b by omega, show max d.b.z.a q.z.a = d.b.z.a by omega, show min d.b.z.b q.z.b = d.b.z.b by omega]
theorem defs_loop (x : Tsawmilllaw27_Split) (ov : List TBoard × List Bx × List Bx × Int) {i : Nat} {e : TBoard} (hg : getI ov.1 (i : Int) = some e) {q : Bx} (hq : Near q) (hE : e.Defects = x.Board.Defects.filterMap (clipOne q)) (hall : ∀ d ∈ x.Board.Defects, dcheck d = 0) (hl : x.Board.Defects.length ≤ 64) :
    ∀ (r p : List Df), x.Board.Defects = p ++ r → loopO (fun v : Int × Int => l27_ResawDefects_s2 x ov (i : Int) q v.1 v.2) (((p.filterMap (clipOne q)).length : Int), (p.length : Int)) = some (.inr (e.Defects.length : Int)) := by
  intro r
  induction r with
  | nil =>
    intro p hp
    rw [List.append_nil] at hp
    refine loopO_done ?_
    show l27_ResawDefects_s2 x ov (i : Int) q _ (p.length : Int) = _
    unfold l27_ResawDefects_s2
    rw [hE, hp, nlt_nat]
    rfl
  | cons d r ih =>
    intro p hp
    have hd : dcheck d = 0 := hall d (by rw [hp]; simp)
    have hlp : p.length + (r.length + 1) ≤ 64 := by
      rw [hp] at hl
      simpa using hl
    have hfl : (p.filterMap (clipOne q)).length ≤ p.length := List.length_filterMap_le ..
    have hc := clipOne_eq (near_okB hq) hd
    have := ih (p ++ [d]) (by rw [hp]; simp)
    have hs : l27_ResawDefects_s2 x ov (i : Int) q ((p.filterMap (clipOne q)).length : Int) (p.length : Int) = some (.inl ((((p ++ [d]).filterMap (clipOne q)).length : Int), ((p ++ [d]).length : Int))) := by
      unfold l27_ResawDefects_s2
      have hgd : getI x.Board.Defects (p.length : Int) = some d := by rw [hp, getI_mid]
      rw [decide_eq_true (by rw [hp]; simp; omega), cond_true, hgd, bind_some', apart_iff hq hd]
      by_cases ht : tchB d.b q
      · rw [if_pos ht] at hc
        have hE' : e.Defects = p.filterMap (clipOne q) ++ ⟨d.k, cutB d.b q⟩ :: r.filterMap (clipOne q) := by
          rw [hE, hp, List.filterMap_append, List.filterMap_cons, hc]
        have hgk : getI e.Defects ((p.filterMap (clipOne q)).length : Int) = some ⟨d.k, cutB d.b q⟩ := by rw [hE', getI_mid]
        rw [decide_eq_true ht, Bool.not_true, cond_false, hg, bind_some', decide_eq_false (by rw [hE']; simp; omega), cond_false]
        simp only [bind_some', hgk, bne_self_eq_false, cond_false, letB_eq]
        have hfin : (List.filterMap (clipOne q) (p ++ [d])).length = (p.filterMap (clipOne q)).length + 1 := by
          rw [List.filterMap_append, List.length_append, List.filterMap_cons, hc]
          rfl
        rw [hfin, W64_succ (by omega), W64_succ (by omega), List.length_append]
        cases hi : l27_inside_g d.b q with
        | false => rfl
        | true =>
          rw [moved_cut hq hd hi, eqBx_self]
          rfl
      · rw [if_neg ht] at hc
        rw [decide_eq_false ht, Bool.not_false, cond_true, W64_succ (by omega)]
        have hfin : (List.filterMap (clipOne q) (p ++ [d])).length = (p.filterMap (clipOne q)).length := by
          rw [List.filterMap_append, List.length_append, List.filterMap_cons, hc]
          rfl
        rw [hfin, List.length_append]
        rfl
    rw [loopO_next hs]
    exact this
theorem resawDefects_true (x : Tsawmilllaw27_Split) : l27_ResawDefects_g x = some true := by
  unfold l27_ResawDefects_g l27_of_g
  rw [aw27]
  obtain ⟨v, hv, hs⟩ := small_tot x
  rw [hv, bind_some']
  cases v with
  | false => rfl
  | true =>
    obtain ⟨s1, s2, s3⟩ := hs rfl
    obtain ⟨r, r1, r2, r3⟩ := boards_both (b := x.Board) (by omega) x.Products (products := x.Parts) (by omega) x.Kerf
    rw [r1]
    simp only [bind_some', Bool.not_true, cond_false]
    rcases r3 with ⟨e, he, rfl⟩ | ⟨ax, t, w, ts, g1, g2, g3, g4, g5, rfl⟩
    · dsimp only
      rw [ne_t he]
      rfl
    · obtain ⟨hS, q1, q2, q3, q4, q5⟩ := chk_ok g4
      have hlen := dst_len (t := t) (k := x.Kerf) ts 0
      have hC : Cut x.Board ax t w := ⟨g1, ⟨hS.1, hS.2.1⟩, g2, g3⟩
      obtain ⟨a1, a2, a3⟩ := allS_ok hS.2.2.1 q5
      have hdd := checkL_iff.1 g1.d
      rw [show (goodR x.Board x.Parts x.Kerf ax t ts).2.2.2 = 0 from rfl, ne_f, cond_false]
      have hl1 : (goodR x.Board x.Parts x.Kerf ax t ts).1.length = x.Parts.length := by
        unfold goodR
        rw [List.length_map, List.length_zip]
        omega
      generalize hov : ((goodR x.Board x.Parts x.Kerf ax t ts).1, (goodR x.Board x.Parts x.Kerf ax t ts).2.1, (goodR x.Board x.Parts x.Kerf ax t ts).2.2.1, (0 : Int)) = ov
      have ho : ov.1 = (x.Parts.zip (brdR t x.Kerf 0 ts)).map (mkB x.Board ax (lowOf x.Board ax)) := by rw [← hov]; rfl
      have hol : ov.1.length = x.Parts.length := by rw [← hov]; exact hl1
      rw [show (0 : Int) = ((0 : Nat) : Int) from rfl, loopO_upto (step := fun q : Int => l27_ResawDefects_s1 x ov q) (fun j => (j : Int)) ov.1.length (y := .inr ()) (fun j hj => by
        show l27_ResawDefects_s1 x ov (j : Int) = _
        have hjb : j < (brdR t x.Kerf 0 ts).length := by omega
        have hjp : j < x.Parts.length := by omega
        have hsj := a1 _ (show (brdR t x.Kerf 0 ts)[j] ∈ allS t x.Kerf ts by
          unfold allS
          rw [List.mem_append, List.mem_append]
          exact .inl (.inl (List.getElem_mem hjb)))
        have hg : getI ov.1 (j : Int) = some (mkB x.Board ax (lowOf x.Board ax) (x.Parts[j], (brdR t x.Kerf 0 ts)[j])) := by
          rw [getI_at (by omega)]
          congr 1
          simp only [ho, List.getElem_map, List.getElem_zip]
        have hN : Near (resaw_with_g (locB x.Board.Box) ax (brdR t x.Kerf 0 ts)[j]) := by
          obtain ⟨n1, n2, n3⟩ := loc_ok hC hsj
          exact ⟨n1, n2, n3⟩
        have hE : (mkB x.Board ax (lowOf x.Board ax) (x.Parts[j], (brdR t x.Kerf 0 ts)[j])).Defects = x.Board.Defects.filterMap (clipOne (resaw_with_g (locB x.Board.Box) ax (brdR t x.Kerf 0 ts)[j])) := by
          show clipD x.Board.Defects _ = _
          unfold clipD
          rw [if_pos ⟨g1.d, near_okB hN⟩]
        have hloop := defs_loop x ov hg hN hE hdd.2 hdd.1 x.Board.Defects [] rfl
        unfold l27_ResawDefects_s1
        rw [lt_nat hj, cond_true, hg, bind_some', letB_eq, show (mkB x.Board ax (lowOf x.Board ax) (x.Parts[j], (brdR t x.Kerf 0 ts)[j])).Box = mkX x.Board ax (lowOf x.Board ax) (brdR t x.Kerf 0 ts)[j] from rfl, moved_eq hC hsj]
        rw [show ((0 : Int), (0 : Int)) = (((([] : List Df).filterMap (clipOne (resaw_with_g (locB x.Board.Box) ax (brdR t x.Kerf 0 ts)[j]))).length : Int), ((([] : List Df).length : Nat) : Int)) from rfl, hloop]
        simp only [bind_some', Sum.elim_inr, bne_self_eq_false, cond_false, W64_succ (show j < 9223372036854775807 by omega)]) (by
        show l27_ResawDefects_s1 x ov (ov.1.length : Int) = _
        unfold l27_ResawDefects_s1
        rw [nlt_nat]
        rfl), bind_some']
      rfl

end Go.Proofs.Ytcimnopodmnmmaa
