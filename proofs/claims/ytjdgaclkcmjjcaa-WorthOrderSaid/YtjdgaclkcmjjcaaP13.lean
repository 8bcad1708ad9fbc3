/- P13: what functions of the program compute (written by mod.py). -/
import Derived.Test.YtjdgaclkcmjjcaaP12
import Derived.KernelRfl
namespace Go.Proofs.Ytjdgaclkcmjjcaa
open Go Go.Ab
set_option linter.unusedSimpArgs false
set_option linter.unusedVariables false
set_option maxRecDepth 20000

/-! the look -/
def zv : Tworth_view := ⟨⟨⟨#[]⟩, 0, 0, 0, 0, [], []⟩, ⟨⟨0, 0⟩, ⟨0, 0⟩⟩, 0, [], []⟩
theorem look_eq {l : List TSlice} (hl : LowOk l) (d : List Df) (p : TProduct) (vr : TRect) : worth_look_g l d p vr = some (bif vld l d p && (r20_across_g vr.X && (r20_across_g vr.Y && gok p vr.X vr.Y)) then (view l d p vr, true) else (zv, false)) := by
  obtain ⟨c1, e1, ok1⟩ := solid_total l hl
  obtain ⟨c2, e2, ok2⟩ := defect_total d
  obtain ⟨c3, e4, e3, ok3⟩ := prod_both p
  unfold worth_look_g
  have hvd : vld l d p = ((c1 == 0) && ((c2 == 0) && (c3 == 0))) := by
    unfold vld
    rw [e1, e2, e3]
    rfl
  rw [solid_check_eq, e1, bind_some', defect_check_eq, e2, bind_some', e4, bind_some', isRect_eq, bind_some', letB_eq, green_eq, hvd]
  by_cases h1 : c1 = 0
  · by_cases h2 : c2 = 0
    · by_cases h3 : c3 = 0
      · subst h1
        subst h2
        subst h3
        have hv : Valid l d p := ⟨ok1 rfl, e1, (ok2.1 rfl).1, ok3 rfl⟩
        have hdl := hv.dl
        rw [show ((0 : Int) != 0) = false from rfl, cond_false, cond_false, cond_false, show ((0 : Int) == 0) = true from rfl]
        cases hx : r20_across_g vr.X with
        | false => rfl
        | true =>
          cases hy : r20_across_g vr.Y with
          | false => rfl
          | true =>
            have hr : RectOk vr.X vr.Y := ⟨across_t hx, across_t hy⟩
            rw [show (!(true && true)) = false from rfl, cond_false]
            have hm : ((bif (!((W64 (vr.X.b - vr.X.a)) == (r19_Green_g p).1 && ((W64 (vr.Y.b - vr.Y.a)) == (r19_Green_g p).2 && true))) then (bif (!((W64 (vr.X.b - vr.X.a)) == (r19_Green_g p).2 && ((W64 (vr.Y.b - vr.Y.a)) == (r19_Green_g p).1 && true))) then some (Sum.inl ((⟨(⟨(⟨#[]⟩ : ByteArray), 0, 0, 0, 0, [], []⟩ : TProduct), (⟨(⟨0, 0⟩ : Sp), (⟨0, 0⟩ : Sp)⟩ : TRect), 0, [], []⟩ : Tworth_view), false)) else some (Sum.inr ())) else some (Sum.inr ())) : Option ((Tworth_view × Bool) ⊕ Unit)) = some (bif gok p vr.X vr.Y then .inr () else .inl (zv, false)) := by
              unfold gok
              cases (W64 (vr.X.b - vr.X.a)) == (r19_Green_g p).1 <;> cases (W64 (vr.Y.b - vr.Y.a)) == (r19_Green_g p).2 <;> cases (W64 (vr.X.b - vr.X.a)) == (r19_Green_g p).2 <;> cases (W64 (vr.Y.b - vr.Y.a)) == (r19_Green_g p).1 <;> rfl
            rw [hm, bind_some']
            cases hg : gok p vr.X vr.Y with
            | false => rfl
            | true =>
              rw [cond_true, Sum.elim_inr, solid_length_eq, length_eq hv.sol e1, bind_some', lacks_eq hv.sol hr, bind_some', letB_eq, show worth_view__box_g (⟨p, vr, slen l, zns vr.X vr.Y l 0, []⟩ : Tworth_view) (⟨0, slen l⟩ : Sp) = ⟨vr.X, vr.Y, ⟨0, slen l⟩⟩ from rfl]
              have hloop := loopO_foldI (step := fun q : Int × ByteArray × Int × Int × Int × Int × (List Int) × (List Int) × Int × Int × Int × Int × Int × (List Tworth_zone) × (List Df) => worth_look_s1 d ⟨vr.X, vr.Y, ⟨0, slen l⟩⟩ q.1 q.2.1 q.2.2.1 q.2.2.2.1 q.2.2.2.2.1 q.2.2.2.2.2.1 q.2.2.2.2.2.2.1 q.2.2.2.2.2.2.2.1 q.2.2.2.2.2.2.2.2.1 q.2.2.2.2.2.2.2.2.2.1 q.2.2.2.2.2.2.2.2.2.2.1 q.2.2.2.2.2.2.2.2.2.2.2.1 q.2.2.2.2.2.2.2.2.2.2.2.2.1 q.2.2.2.2.2.2.2.2.2.2.2.2.2.1 q.2.2.2.2.2.2.2.2.2.2.2.2.2.2) d (fl ⟨vr.X, vr.Y, ⟨0, slen l⟩⟩) [] (fun a j => ((j : Int), p.Name, p.Thick, p.Width, p.Allow, p.Wane, p.Lengths, p.Prices, vr.X.a, vr.X.b, vr.Y.a, vr.Y.b, slen l, zns vr.X vr.Y l 0, a)) (fun a => (p.Name, p.Thick, p.Width, p.Allow, p.Wane, p.Lengths, p.Prices, vr.X.a, vr.X.b, vr.Y.a, vr.Y.b, slen l, zns vr.X vr.Y l 0, a)) (fun j a => a.length ≤ j) (by simp) (fun j a hj ha => by
                unfold fl
                split
                · simp; omega
                · omega) (fun a j hj ha => by
                unfold worth_look_s1 fl
                dsimp only
                rw [lt_nat hj, cond_true, getI_at hj, bind_some', touches_eq, tch_eq, W64_succ (by omega)]
                cases tch ⟨vr.X, vr.Y, ⟨0, slen l⟩⟩ d[j] with
                | true =>
                  rw [cond_true, appO_eq (by simp; omega) (by simp; omega), bind_some', if_pos rfl]
                | false => rw [cond_false, if_neg (by simp)]) (fun a _ => by
                unfold worth_look_s1
                dsimp only
                rw [nlt_nat]
                rfl)
              rw [fl_fold, List.nil_append] at hloop
              rw [show ((0 : Nat) : Int) = 0 from rfl] at hloop
              rw [hloop, bind_some']
              rfl
      · rw [ne_t h3, show (c3 == 0) = false by simp [h3], Bool.and_false, Bool.and_false]
        subst h1
        subst h2
        rfl
    · rw [ne_t h2, show (c2 == 0) = false by simp [h2], Bool.false_and, Bool.and_false]
      subst h1
      rfl
  · rw [ne_t h1, show (c1 == 0) = false by simp [h1]]
    rfl

end Go.Proofs.Ytjdgaclkcmjjcaa
