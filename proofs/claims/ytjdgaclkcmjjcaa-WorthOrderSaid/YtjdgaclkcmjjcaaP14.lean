/- P14: what functions of the program compute (written by mod.py). -/
import Derived.Test.YtjdgaclkcmjjcaaP13
import Derived.KernelRfl
namespace Go.Proofs.Ytjdgaclkcmjjcaa
open Go Go.Ab
set_option linter.unusedSimpArgs false
set_option linter.unusedVariables false
set_option maxRecDepth 20000

/-! worth and accept on both sides -/
theorem isFine_eq (n : Int) : worth_isFine_g n = r20_from_g n 0 1000000 := rfl
theorem from_t {n low high : Int} (h : r20_from_g n low high = true) : low ≤ n ∧ n ≤ high := by
  rw [from_dec, Bool.and_eq_true, decide_eq_true_eq, decide_eq_true_eq] at h
  exact h
/-- What Worth answers. -/
noncomputable def wo (l : List TSlice) (d : List Df) (p : TProduct) (b : Bx) (fine : Int) : Int × Bool := bif r20_from_g fine 0 1000000 && (vld l d p && acc l d p b) then (val d p b fine, true) else (0, false)
theorem acc_f {l : List TSlice} {d : List Df} {p : TProduct} {b : Bx} (h : (r20_across_g b.x && (r20_across_g b.y && gok p b.x b.y)) = false) : acc l d p b = false := by
  unfold acc
  cases hx : r20_across_g b.x with
  | false => rfl
  | true =>
    cases hy : r20_across_g b.y with
    | false => rfl
    | true =>
      rw [hx, hy] at h
      have hg : gok p b.x b.y = false := h
      rw [hg]
      cases wthin b.z (slen l) <;> cases (prc p (W64 (b.z.b - b.z.a))).2 <;> rfl
theorem worth_eq {l : List TSlice} (hl : LowOk l) (d : List Df) (p : TProduct) (b : Bx) (fine : Int) : worth_Worth_g l d p b fine = some (wo l d p b fine) := by
  unfold worth_Worth_g wo
  rw [isFine_eq, look_eq hl]
  cases hf : r20_from_g fine 0 1000000 with
  | false => rfl
  | true =>
    rw [show (!true) = false from rfl, cond_false, bind_some']
    cases hv : vld l d p with
    | false => rfl
    | true =>
      cases hs : (r20_across_g b.x && (r20_across_g b.y && gok p b.x b.y)) with
      | false =>
        rw [acc_f hs]
        rfl
      | true =>
        have hs' := hs
        rw [Bool.and_eq_true, Bool.and_eq_true] at hs'
        show Option.bind (worth_view__worth_g (view l d p ⟨b.x, b.y⟩) b.z fine) _ = _
        rw [view_worth (vld_t hl hv) (vr := ⟨b.x, b.y⟩) hs'.1 hs'.2.1 hs'.2.2 b.z (from_t hf)]
        show some (bif acc l d p b then (val d p b fine, true) else (0, false)) = _
        cases acc l d p b <;> rfl
theorem r20_Accept_eq {l : List TSlice} (hl : LowOk l) (d : List Df) (p : TProduct) (b : Bx) : r20_Accept_g l d p b = some (vld l d p && acc l d p b) := by
  unfold r20_Accept_g
  rw [r20_valid_eq hl, bind_some']
  cases hv : vld l d p with
  | false => rfl
  | true =>
    rw [cond_true, r20_accept_eq (vld_t hl hv)]
    rfl
theorem r20_Worth_eq {l : List TSlice} (hl : LowOk l) (d : List Df) (p : TProduct) (b : Bx) (fine : Int) : r20_Worth_g l d p b fine = some (wo l d p b fine) := by
  unfold r20_Worth_g wo
  rw [r20_Accept_eq hl]
  cases hf : r20_from_g fine 0 1000000 with
  | false => rfl
  | true =>
    rw [show (!true) = false from rfl, cond_false, bind_some']
    cases hv : vld l d p with
    | false => rfl
    | true =>
      cases acc l d p b with
      | false => rfl
      | true =>
        have hV := vld_t hl hv
        rw [show (!(true && true)) = false from rfl, cond_false, r20_value_eq (by have := hV.dl; omega) hV.prod b (from_t hf)]
        rfl
theorem of_eq {g : Tsawmilllaw20_Given} (hl : LowOk g.Solid) (b : Bx) : l20_of_g g b = some (wo g.Solid g.Defects g.Product b g.Fine) := by
  unfold l20_of_g
  rw [worth_eq hl]
  rfl
theorem worth_Accept_eq {l : List TSlice} (hl : LowOk l) (d : List Df) (p : TProduct) (b : Bx) : worth_Accept_g l d p b = some (vld l d p && acc l d p b) := by
  unfold worth_Accept_g
  rw [worth_eq hl, bind_some']
  unfold wo
  rw [show r20_from_g 0 0 1000000 = true from rfl]
  cases (vld l d p && acc l d p b) <;> rfl
theorem worthAccepts_true (g : Tsawmilllaw20_Given) (b : Bx) (hl : LowOk g.Solid) : l20_WorthAccepts_g g b = some true := by
  unfold l20_WorthAccepts_g
  obtain ⟨c, hc, _⟩ := small_total g
  rw [hc, bind_some', aw20]
  cases c with
  | false => rfl
  | true =>
    rw [of_eq hl, r20_Worth_eq hl, worth_Accept_eq hl, r20_Accept_eq hl]
    simp only [bind_some', beq_self_eq_true, cond_true, Bool.not_true, cond_false]

end Go.Proofs.Ytjdgaclkcmjjcaa
