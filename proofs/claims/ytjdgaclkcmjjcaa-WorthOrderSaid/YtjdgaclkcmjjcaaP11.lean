/- P11: what functions of the program compute (written by mod.py). -/
import Derived.Test.YtjdgaclkcmjjcaaP10
import Derived.KernelRfl
namespace Go.Proofs.Ytjdgaclkcmjjcaa
open Go Go.Ab
set_option linter.unusedSimpArgs false
set_option linter.unusedVariables false
set_option maxRecDepth 20000

/-! the program's view -/
noncomputable def fl (b : Bx) (acc : List Df) (e : Df) : List Df := if tch b e = true then acc ++ [e] else acc
theorem fl_fold (b : Bx) : ∀ (d acc : List Df), d.foldl (fl b) acc = acc ++ d.filter (tch b)
  | [], acc => by simp
  | e :: d, acc => by
    rw [List.foldl_cons, fl_fold b d]
    unfold fl
    cases h : tch b e with
    | true => simp [h]
    | false => simp [h]
theorem tch_sub {X Y z : Sp} {n : Int} (h : 0 ≤ z.a ∧ z.a < z.b ∧ z.b ≤ n) {e : Df} (ht : tch ⟨X, Y, z⟩ e = true) : tch ⟨X, Y, ⟨0, n⟩⟩ e = true := by
  unfold tch at ht ⊢
  simp only [Bool.and_eq_true, decide_eq_true_eq] at ht ⊢
  refine ⟨ht.1, ht.2.1, ?_⟩
  have := ht.2.2
  unfold ov at this ⊢
  dsimp only at this ⊢
  omega
theorem any_sub {X Y z : Sp} {n : Int} (h : 0 ≤ z.a ∧ z.a < z.b ∧ z.b ≤ n) : ∀ (d : List Df), (d.filter (tch ⟨X, Y, ⟨0, n⟩⟩)).any (bad3 ⟨X, Y, z⟩) = d.any (bad3 ⟨X, Y, z⟩)
  | [] => rfl
  | e :: d => by
    rw [List.any_cons]
    cases hB : tch ⟨X, Y, ⟨0, n⟩⟩ e with
    | true => rw [List.filter_cons_of_pos hB, List.any_cons, any_sub h d]
    | false =>
      rw [List.filter_cons_of_neg (by simp [hB]), any_sub h d]
      have : bad3 ⟨X, Y, z⟩ e = false := by
        unfold bad3
        cases ht : tch ⟨X, Y, z⟩ e with
        | false => simp
        | true =>
          rw [tch_sub h ht] at hB
          exact absurd hB (by simp)
      rw [this]
      rfl
theorem vsum_sub {X Y z : Sp} {n : Int} (h : 0 ≤ z.a ∧ z.a < z.b ∧ z.b ≤ n) (fine : Int) : ∀ (d : List Df) (pr : Int), vsum (d.filter (tch ⟨X, Y, ⟨0, n⟩⟩)) ⟨X, Y, z⟩ fine pr = vsum d ⟨X, Y, z⟩ fine pr
  | [], pr => rfl
  | e :: d, pr => by
    have ih := fun q => vsum_sub h fine d q (X := X) (Y := Y)
    unfold vsum at ih ⊢
    rw [List.foldl_cons]
    cases hB : tch ⟨X, Y, ⟨0, n⟩⟩ e with
    | true => rw [List.filter_cons_of_pos hB, List.foldl_cons, ih]
    | false =>
      rw [List.filter_cons_of_neg (by simp [hB]), ih]
      have : vf ⟨X, Y, z⟩ fine pr e = pr := by
        unfold vf
        cases ht : tch ⟨X, Y, z⟩ e with
        | false => simp
        | true =>
          rw [tch_sub h ht] at hB
          exact absurd hB (by simp)
      rw [this]
/-- The view. -/
noncomputable def view (l : List TSlice) (d : List Df) (p : TProduct) (vr : TRect) : Tworth_view := ⟨p, vr, slen l, zns vr.X vr.Y l 0, d.filter (tch ⟨vr.X, vr.Y, ⟨0, slen l⟩⟩)⟩
theorem view_worth {l : List TSlice} {d : List Df} {p : TProduct} (hv : Valid l d p) {vr : TRect} (hx : r20_across_g vr.X = true) (hy : r20_across_g vr.Y = true) (hg : gok p vr.X vr.Y = true) (z : Sp) {fine : Int} (hf : 0 ≤ fine ∧ fine ≤ 1000000) : worth_view__worth_g (view l d p vr) z fine = some (bif acc l d p ⟨vr.X, vr.Y, z⟩ then (val d p ⟨vr.X, vr.Y, z⟩ fine, true) else (0, false)) := by
  have hd := hv.dl
  have hpl := hv.prod.l
  unfold worth_view__worth_g acc
  dsimp only
  rw [hx, hy, hg, isWithin_eq, show (view l d p vr).length = slen l from rfl, show (view l d p vr).product = p from rfl, show (view l d p vr).zones = zns vr.X vr.Y l 0 from rfl]
  cases hz : wthin z (slen l) with
  | false => rfl
  | true =>
    have hzz := wthin_t hz
    rw [show (!true) = false from rfl, cond_false, price_eq, prc_eq (by omega), bind_some']
    have e2 := worst_eq (l := zns vr.X vr.Y l 0) (by rw [zns_len]; have := hv.sol.len; omega) z
    rw [wz_fold] at e2
    rw [e2]
    have hpb := prc_bd hv.prod (W64 (z.b - z.a))
    cases hp2 : (prc p (W64 (z.b - z.a))).2 with
    | false => rfl
    | true =>
      rw [show (!true) = false from rfl, cond_false, bind_some', letB_eq, show worth_view__box_g (view l d p vr) z = ⟨vr.X, vr.Y, z⟩ from rfl]
      by_cases hw : p.Wane < wn vr.X vr.Y z l 0 0
      · rw [decide_eq_true hw, decide_eq_false (p := wn _ _ _ _ _ _ ≤ _) (by omega)]
        simp
      · rw [decide_eq_false hw, decide_eq_true (p := wn _ _ _ _ _ _ ≤ _) (by omega), cond_false]
        have hfl : (d.filter (tch ⟨vr.X, vr.Y, ⟨0, slen l⟩⟩)).length ≤ d.length := List.length_filter_le ..
        have hloop := loopO_foldX (step := fun q : Int × Int => worth_view__worth_s1 (view l d p vr) fine ⟨vr.X, vr.Y, z⟩ q.1 q.2) (d.filter (tch ⟨vr.X, vr.Y, ⟨0, slen l⟩⟩)) (bad3 ⟨vr.X, vr.Y, z⟩) (vf ⟨vr.X, vr.Y, z⟩ fine) (prc p (W64 (z.b - z.a))).1 (fun n j => (n, (j : Int))) (.inl (0, false)) (fun n => .inr n) (fun j n => -1000000 * (j : Int) ≤ n ∧ n ≤ 1000000) (by omega) (fun j n hj _ hn => by
          unfold vf
          split <;> omega) (fun n j hj hn hbad => by
          unfold bad3 at hbad
          unfold worth_view__worth_s1 vf
          rw [show (view l d p vr).defects = d.filter (tch ⟨vr.X, vr.Y, ⟨0, slen l⟩⟩) from rfl]
          dsimp only
          rw [lt_nat hj, cond_true, getI_at hj, bind_some', touches_eq, tch_eq, W64_succ (by omega)]
          cases ht : tch ⟨vr.X, vr.Y, z⟩ (d.filter (tch ⟨vr.X, vr.Y, ⟨0, slen l⟩⟩))[j] with
          | true =>
            rw [ht, Bool.and_true] at hbad
            rw [hbad, W64_eq (by omega) (by omega), if_pos rfl]
            rfl
          | false =>
            rw [if_neg (by simp)]
            rfl) (fun n j hj hn hbad => by
          unfold bad3 at hbad
          rw [Bool.and_eq_true] at hbad
          unfold worth_view__worth_s1
          rw [show (view l d p vr).defects = d.filter (tch ⟨vr.X, vr.Y, ⟨0, slen l⟩⟩) from rfl]
          dsimp only
          rw [lt_nat hj, cond_true, getI_at hj, bind_some', touches_eq, tch_eq, hbad.1, hbad.2]
          rfl) (fun n _ => by
          unfold worth_view__worth_s1
          rw [show (view l d p vr).defects = d.filter (tch ⟨vr.X, vr.Y, ⟨0, slen l⟩⟩) from rfl]
          dsimp only
          rw [nlt_nat]
          rfl)
        rw [show ((prc p (W64 (z.b - z.a))).1, ((0 : Nat) : Int)) = ((prc p (W64 (z.b - z.a))).1, (0 : Int)) from rfl] at hloop
        rw [hloop, bind_some', any_sub hzz]
        have hvs := vsum_sub hzz fine d (prc p (W64 (z.b - z.a))).1 (X := vr.X) (Y := vr.Y)
        unfold vsum at hvs
        rw [hvs]
        cases d.any (bad3 ⟨vr.X, vr.Y, z⟩) with
        | true => rfl
        | false =>
          show some (max _ 0, true) = some (val d p ⟨vr.X, vr.Y, z⟩ fine, true)
          unfold val vsum
          rw [Int.max_comm]

end Go.Proofs.Ytjdgaclkcmjjcaa
