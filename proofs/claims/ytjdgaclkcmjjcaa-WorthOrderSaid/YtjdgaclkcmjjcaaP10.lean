/- P10: what functions of the program compute (written by mod.py). -/
import Derived.Test.YtjdgaclkcmjjcaaP9
import Derived.KernelRfl
namespace Go.Proofs.Ytjdgaclkcmjjcaa
open Go Go.Ab
set_option linter.unusedSimpArgs false
set_option linter.unusedVariables false
set_option maxRecDepth 20000

/-! accepting and worth -/
noncomputable def prc (p : TProduct) (n : Int) : Int × Bool := (r19_Price_g p n).getD (0, false)
theorem prc_eq {p : TProduct} (hl : p.Lengths.length ≤ 1000) (n : Int) : r19_Price_g p n = some (prc p n) := by
  obtain ⟨pr, h, _⟩ := price_total hl n
  unfold prc
  rw [h]
  rfl
theorem prc_bd {p : TProduct} (hp : ProdOk p) (n : Int) : 0 ≤ (prc p n).1 ∧ (prc p n).1 ≤ 1000000 := by
  obtain ⟨pr, h, h1, h2⟩ := price_total (p := p) (by have := hp.l; omega) n
  unfold prc
  rw [h]
  show 0 ≤ pr.1 ∧ pr.1 ≤ 1000000
  cases hb : pr.2 with
  | false =>
    rw [h1 hb]
    omega
  | true =>
    obtain ⟨j, _, h4, _, h5⟩ := h2 hb
    rw [← h5]
    exact hp.c j h4
noncomputable def gok (p : TProduct) (X Y : Sp) : Bool := ((W64 (X.b - X.a)) == (r19_Green_g p).1 && (W64 (Y.b - Y.a)) == (r19_Green_g p).2) || ((W64 (X.b - X.a)) == (r19_Green_g p).2 && (W64 (Y.b - Y.a)) == (r19_Green_g p).1)
noncomputable def acc (l : List TSlice) (d : List Df) (p : TProduct) (b : Bx) : Bool := r20_across_g b.x && (r20_across_g b.y && (wthin b.z (slen l) && ((prc p (W64 (b.z.b - b.z.a))).2 && (gok p b.x b.y && (!d.any (bad3 b) && decide (wn b.x b.y b.z l 0 0 ≤ p.Wane))))))
noncomputable def val (d : List Df) (p : TProduct) (b : Bx) (fine : Int) : Int := max 0 (vsum d b fine (prc p (W64 (b.z.b - b.z.a))).1)
structure Valid (l : List TSlice) (d : List Df) (p : TProduct) : Prop where
  sol : SolOk l
  lc : r11_Check_g l = some 0
  dl : d.length ≤ 64
  prod : ProdOk p
theorem r20_accept_eq {l : List TSlice} {d : List Df} {p : TProduct} (hv : Valid l d p) (b : Bx) : r20_accept_g l d p b = some (acc l d p b) := by
  have hd := hv.dl
  have hpl := hv.prod.l
  unfold r20_accept_g acc
  rw [r20_within_eq (length_eq hv.sol hv.lc), bind_some', letB_eq, prc_eq (by omega), bind_some']
  cases hx : r20_across_g b.x with
  | false => rfl
  | true =>
    cases hy : r20_across_g b.y with
    | false => rfl
    | true =>
      cases hz : wthin b.z (slen l) with
      | false => rfl
      | true =>
        have hr : RectOk b.x b.y := ⟨across_t hx, across_t hy⟩
        rw [accept_loop (by omega), r20_wane_eq hv.sol hv.lc hr (wthin_t hz)]
        simp only [Bool.true_and, Bool.not_true, cond_false]
        unfold gok
        cases (prc p (W64 (b.z.b - b.z.a))).2 with
        | false => rfl
        | true =>
          cases (W64 (b.x.b - b.x.a)) == (r19_Green_g p).1 <;> cases (W64 (b.y.b - b.y.a)) == (r19_Green_g p).2 <;> cases (W64 (b.x.b - b.x.a)) == (r19_Green_g p).2 <;> cases (W64 (b.y.b - b.y.a)) == (r19_Green_g p).1 <;> cases d.any (bad3 b) <;> rfl
theorem r20_value_eq {d : List Df} {p : TProduct} (hd : d.length ≤ 1000) (hp : ProdOk p) (b : Bx) {fine : Int} (hf : 0 ≤ fine ∧ fine ≤ 1000000) : r20_value_g d p b fine = some (val d p b fine) := by
  unfold r20_value_g val
  rw [prc_eq (by have := hp.l; omega), bind_some', value_loop hd b hf (prc_bd hp _)]
  rfl

end Go.Proofs.Ytjdgaclkcmjjcaa
