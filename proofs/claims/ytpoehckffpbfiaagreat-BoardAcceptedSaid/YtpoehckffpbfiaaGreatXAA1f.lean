/- A1f: what functions of the program compute (written by mod.py). -/
import Derived.Test.YtpoehckffpbfiaaGreatXAA1e
import Derived.KernelRfl
namespace Go.Proofs.YtpoehckffpbfiaaGreat
open Go Go.Ab
set_option linter.unusedSimpArgs false
set_option linter.unusedVariables false
set_option linter.unusedSectionVars false
set_option maxRecDepth 20000
set_option maxHeartbeats 1000000
noncomputable def worth_isFine_g (n : Int) : Bool :=
 (bif (decide (0 ≤ n)) then (decide (n ≤ 1000000)) else false)
theorem worth_isFine_w (n : Int) (r : Bool) (h : worth_isFine_g n = r) : Holds Tryz.prog 123 [(I n)] [] (B r) [] := by
 unfold worth_isFine_g at h
 refine holds_fn Tryz.func123 rfl Tryz.ntmps123 rfl rfl rfl (fun lim => ?_)
 refine awp_seq (awp_go hmix (go_run' ttok 1 rfl (go_nil nd (then_norm (awp_seq (awp_go hmix (go_run' ttok 3 rfl ?_)))))))
 refine go_gcase rfl rfl rfl (fun g1 => ?_) (fun g1 => ?_)
 ·rw [g1]
  replace h := of_bif_t h g1
  refine go_run' ttok 4 rfl (go_nil nd (then_norm (awp_ret ?_)))
  have e2 := h
  subst e2
  refine ret_ret ?_
  refine fin0 ttok rfl rfl ?_
  exact (wkP_refl _ rfl)
 ·rw [g1]
  replace h := of_bif_f h g1
  refine go_run' ttok 4 rfl (go_nil nd (then_norm (awp_ret ?_)))
  have e3 := h
  subst e3
  refine ret_ret ?_
  refine fin0 ttok rfl rfl ?_
  exact (wkP_refl _ rfl)
noncomputable def worth_view__box_g (vv : Tworth_view) (vz : Sp) : Bx :=
 (⟨vv.rect.X, vv.rect.Y, vz⟩ : Bx)
theorem worth_view__box_w (vv : Tworth_view) (vz : Sp) (r : Bx) (h : worth_view__box_g vv vz = r) : Holds Tryz.prog 157 [(encTworth_view vv), (encSp vz)] [] (encBx r) [] := by
 unfold worth_view__box_g at h
 refine holds_fn Tryz.func157 rfl Tryz.ntmps157 rfl rfl rfl (fun lim => ?_)
 refine awp_seq (awp_go hmix (go_run' ttok 3 rfl (go_nil nd (then_norm (awp_seq (awp_go hmix (go_run' ttok 9 rfl (go_nil nd (then_norm (awp_ret ?_))))))))))
 have e1 := h
 subst e1
 refine ret_ret ?_
 refine fin0 ttok rfl rfl ?_
 exact (wkP_refl _ rfl)
noncomputable def defect_Touches_g (d : Df) (b : Bx) : Bool :=
 (letB (defect_meet_g d.b b) (fun mv => mv.2))
theorem defect_Touches_w (d : Df) (b : Bx) (r : Bool) (h : defect_Touches_g d b = r) : Holds Tryz.prog 158 [(encDf d), (encBx b)] [] (B r) [] := by
 unfold defect_Touches_g at h
 refine holds_fn Tryz.func158 rfl Tryz.ntmps158 rfl rfl rfl (fun lim => ?_)
 refine awp_seq (awp_go hmix (go_run' ttok 3 rfl (go_nil nd (then_norm (awp_seq (awp_go hmix (go_run' ttok 3 rfl ?_)))))))
 obtain ⟨mv, hv1, h⟩ := of_let h
 refine go_call fn137 (defect_meet_w d.b b mv hv1) rfl rfl rfl rfl rfl rfl rfl ?_
 refine go_run' ttok 6 rfl (go_nil nd (then_norm (awp_seq (awp_go hmix (go_run' ttok 2 rfl (go_nil nd (then_norm (awp_ret ?_))))))))
 have e2 := h
 subst e2
 refine ret_ret ?_
 refine fin0 ttok rfl rfl ?_
 exact (wkP_refl _ rfl)
noncomputable def worth_look_s1 (d : (List Df)) (bv : Bx) (vv14 : Int) (vv15 : ByteArray) (vv16 : Int) (vv17 : Int) (vv18 : Int) (vv19 : Int) (vv20 : (List Int)) (vv21 : (List Int)) (vv22 : Int) (vv23 : Int) (vv24 : Int) (vv25 : Int) (vv26 : Int) (vv27 : (List Tworth_zone)) (vv28 : (List Df)) : Option ((Int × ByteArray × Int × Int × Int × Int × (List Int) × (List Int) × Int × Int × Int × Int × Int × (List Tworth_zone) × (List Df)) ⊕ (ByteArray × Int × Int × Int × Int × (List Int) × (List Int) × Int × Int × Int × Int × Int × (List Tworth_zone) × (List Df))) :=
 (bif (decide (vv14 < ((d.length : Nat) : Int))) then (Option.bind (getI d vv14) (fun e => (bif (defect_Touches_g e bv) then (Option.bind (appO 56 vv28 ([e])) (fun l1 => some (Sum.inl ((W64 (vv14 + 1)), vv15, vv16, vv17, vv18, vv19, vv20, vv21, vv22, vv23, vv24, vv25, vv26, vv27, l1)))) else some (Sum.inl ((W64 (vv14 + 1)), vv15, vv16, vv17, vv18, vv19, vv20, vv21, vv22, vv23, vv24, vv25, vv26, vv27, vv28))))) else some (Sum.inr (vv15, vv16, vv17, vv18, vv19, vv20, vv21, vv22, vv23, vv24, vv25, vv26, vv27, vv28)))
noncomputable def worth_look_g (l : (List TSlice)) (d : (List Df)) (p : TProduct) (vr : TRect) : Option (Tworth_view × Bool) :=
 (Option.bind (solid_Check_g l) (fun cv => (bif (cv != 0) then some ((⟨(⟨(⟨#[]⟩ : ByteArray), 0, 0, 0, 0, [], []⟩ : TProduct), (⟨(⟨0, 0⟩ : Sp), (⟨0, 0⟩ : Sp)⟩ : TRect), 0, [], []⟩ : Tworth_view), false) else (Option.bind (defect_Check_g d) (fun cv1 => (bif (cv1 != 0) then some ((⟨(⟨(⟨#[]⟩ : ByteArray), 0, 0, 0, 0, [], []⟩ : TProduct), (⟨(⟨0, 0⟩ : Sp), (⟨0, 0⟩ : Sp)⟩ : TRect), 0, [], []⟩ : Tworth_view), false) else (Option.bind (product_Check_g ([p])) (fun cv2 => (bif (cv2 != 0) then some ((⟨(⟨(⟨#[]⟩ : ByteArray), 0, 0, 0, 0, [], []⟩ : TProduct), (⟨(⟨0, 0⟩ : Sp), (⟨0, 0⟩ : Sp)⟩ : TRect), 0, [], []⟩ : Tworth_view), false) else (Option.bind (worth_isRect_g vr) (fun iv => (bif (!iv) then some ((⟨(⟨(⟨#[]⟩ : ByteArray), 0, 0, 0, 0, [], []⟩ : TProduct), (⟨(⟨0, 0⟩ : Sp), (⟨0, 0⟩ : Sp)⟩ : TRect), 0, [], []⟩ : Tworth_view), false) else (letB (product_Green_g p) (fun gv => (Option.bind ((bif (!((W64 (vr.X.b - vr.X.a)) == gv.1 && ((W64 (vr.Y.b - vr.Y.a)) == gv.2 && true))) then (bif (!((W64 (vr.X.b - vr.X.a)) == gv.2 && ((W64 (vr.Y.b - vr.Y.a)) == gv.1 && true))) then some (Sum.inl ((⟨(⟨(⟨#[]⟩ : ByteArray), 0, 0, 0, 0, [], []⟩ : TProduct), (⟨(⟨0, 0⟩ : Sp), (⟨0, 0⟩ : Sp)⟩ : TRect), 0, [], []⟩ : Tworth_view), false)) else some (Sum.inr ())) else some (Sum.inr ())) : Option ((Tworth_view × Bool) ⊕ Unit)) (Sum.elim (fun q => some q) (fun _ => (Option.bind (solid_Length_g l) (fun lv => (Option.bind (worth_lacks_g l vr) (fun lv1 => (letB (worth_view__box_g (⟨p, vr, lv, lv1, []⟩ : Tworth_view) (⟨0, lv⟩ : Sp)) (fun bv => (Option.bind ((loopO (fun q => worth_look_s1 d bv q.1 q.2.1 q.2.2.1 q.2.2.2.1 q.2.2.2.2.1 q.2.2.2.2.2.1 q.2.2.2.2.2.2.1 q.2.2.2.2.2.2.2.1 q.2.2.2.2.2.2.2.2.1 q.2.2.2.2.2.2.2.2.2.1 q.2.2.2.2.2.2.2.2.2.2.1 q.2.2.2.2.2.2.2.2.2.2.2.1 q.2.2.2.2.2.2.2.2.2.2.2.2.1 q.2.2.2.2.2.2.2.2.2.2.2.2.2.1 q.2.2.2.2.2.2.2.2.2.2.2.2.2.2) (0, p.Name, p.Thick, p.Width, p.Allow, p.Wane, p.Lengths, p.Prices, vr.X.a, vr.X.b, vr.Y.a, vr.Y.b, lv, lv1, [])) : Option (ByteArray × Int × Int × Int × Int × (List Int) × (List Int) × Int × Int × Int × Int × Int × (List Tworth_zone) × (List Df))) (fun w2 => some ((⟨(⟨w2.1, w2.2.1, w2.2.2.1, w2.2.2.2.1, w2.2.2.2.2.1, w2.2.2.2.2.2.1, w2.2.2.2.2.2.2.1⟩ : TProduct), (⟨(⟨w2.2.2.2.2.2.2.2.1, w2.2.2.2.2.2.2.2.2.1⟩ : Sp), (⟨w2.2.2.2.2.2.2.2.2.2.1, w2.2.2.2.2.2.2.2.2.2.2.1⟩ : Sp)⟩ : TRect), w2.2.2.2.2.2.2.2.2.2.2.2.1, w2.2.2.2.2.2.2.2.2.2.2.2.2.1, w2.2.2.2.2.2.2.2.2.2.2.2.2.2⟩ : Tworth_view), true))))))))))))))))))))))))))
theorem worth_look_w (l : (List TSlice)) (d : (List Df)) (p : TProduct) (vr : TRect) (r : (Tworth_view × Bool)) (h : worth_look_g l d p vr = some r) : Holds Tryz.prog 124 [((encL encTSlice) l), ((encL encDf) d), (encTProduct p), (encTRect vr)] [] (.tup [(encTworth_view r.1), (B r.2)]) [] := by
 unfold worth_look_g at h
 refine holds_fn Tryz.func124 rfl Tryz.ntmps124 rfl rfl rfl (fun lim => ?_)
 refine awp_seq (awp_go hmix (go_run' ttok 4 rfl (go_nil nd (then_norm (awp_seq (awp_seq (awp_go hmix (go_run' ttok 1 rfl ?_))))))))
 obtain ⟨cv, hv1, h⟩ := of_obind h
 refine go_call fn139 (solid_Check_w l cv hv1) rfl rfl rfl rfl rfl rfl rfl ?_
 refine go_run' ttok 2 rfl ?_
 refine go_gcase rfl rfl rfl (fun g2 => ?_) (fun g2 => ?_)
 ·rw [g2]
  replace h := of_bif_t h g2
  refine go_run' ttok 15 rfl (go_nil nd (then_norm ?_))
  refine awp_cond rfl (fun tt0 => ?_) (fun h => by cases h)
  clear tt0
  refine awp_seq (awp_go hmix (go_run' ttok 3 rfl (go_nil nd (then_norm (awp_ret (then_ret ?_))))))
  have e3 := of_some h
  subst e3
  refine ret_ret ?_
  refine fin0 ttok rfl rfl ?_
  exact ⟨⟨(wkP_refl _ rfl), (wkP_refl _ rfl), (wkP_refl _ rfl), (wkP_refl _ rfl), (wkP_refl _ rfl), wkP_nilm, wkP_nilm, (wkP_refl _ rfl), (wkP_refl _ rfl), (wkP_refl _ rfl), (wkP_refl _ rfl), (wkP_refl _ rfl), wkP_nilm, wkP_nilm, trivial⟩, (wkP_refl _ rfl), trivial⟩
 ·rw [g2]
  replace h := of_bif_f h g2
  refine go_run' ttok 1 rfl ?_
  obtain ⟨cv1, hv4, h⟩ := of_obind h
  refine go_call fn30 (defect_Check_w d cv1 hv4) rfl rfl rfl rfl rfl rfl rfl ?_
  refine go_run' ttok 3 rfl ?_
  refine go_gcase rfl rfl rfl (fun g5 => ?_) (fun g5 => ?_)
  ·rw [g5]
   replace h := of_bif_t h g5
   refine go_run' ttok 10 rfl (go_nil nd (then_norm ?_))
   refine awp_cond rfl (fun tt0 => ?_) (fun h => by cases h)
   clear tt0
   refine awp_seq (awp_go hmix (go_run' ttok 3 rfl (go_nil nd (then_norm (awp_ret (then_ret ?_))))))
   have e6 := of_some h
   subst e6
   refine ret_ret ?_
   refine fin0 ttok rfl rfl ?_
   exact ⟨⟨(wkP_refl _ rfl), (wkP_refl _ rfl), (wkP_refl _ rfl), (wkP_refl _ rfl), (wkP_refl _ rfl), wkP_nilm, wkP_nilm, (wkP_refl _ rfl), (wkP_refl _ rfl), (wkP_refl _ rfl), (wkP_refl _ rfl), (wkP_refl _ rfl), wkP_nilm, wkP_nilm, trivial⟩, (wkP_refl _ rfl), trivial⟩
  ·rw [g5]
   replace h := of_bif_f h g5
   refine go_run' ttok 2 rfl ?_
   obtain ⟨cv2, hv7, h⟩ := of_obind h
   refine go_callL (L := [(27, some ⟨61, 7, ([p]).map encTProduct⟩)]) fn22 (product_Check_w ([p]) cv2 hv7) rfl rfl rfl ⟨rfl, List.not_mem_nil, trivial⟩ ⟨(wkP_lend rfl (by first | rfl | (simp [setI]; done) | omega | (dsimp only; omega) | (simp [setI]; omega)) (fun _ => rfl)), trivial⟩ rfl rfl (fun _ => rfl) rfl ?_
   refine go_run' ttok 3 rfl ?_
   refine go_gcase rfl rfl rfl (fun g8 => ?_) (fun g8 => ?_)
   ·rw [g8]
    replace h := of_bif_t h g8
    refine go_run' ttok 4 rfl (go_nil nd (then_norm ?_))
    refine awp_cond rfl (fun tt0 => ?_) (fun h => by cases h)
    clear tt0
    refine awp_seq (awp_go hmix (go_run' ttok 3 rfl (go_nil nd (then_norm (awp_ret (then_ret ?_))))))
    have e9 := of_some h
    subst e9
    refine ret_ret ?_
    refine fin0 ttok rfl rfl ?_
    exact ⟨⟨(wkP_refl _ rfl), (wkP_refl _ rfl), (wkP_refl _ rfl), (wkP_refl _ rfl), (wkP_refl _ rfl), wkP_nilm, wkP_nilm, (wkP_refl _ rfl), (wkP_refl _ rfl), (wkP_refl _ rfl), (wkP_refl _ rfl), (wkP_refl _ rfl), wkP_nilm, wkP_nilm, trivial⟩, (wkP_refl _ rfl), trivial⟩
   ·rw [g8]
    replace h := of_bif_f h g8
    refine go_run' ttok 1 rfl ?_
    obtain ⟨iv, hv10, h⟩ := of_obind h
    refine go_call fn140 (worth_isRect_w vr iv hv10) rfl rfl rfl rfl rfl rfl rfl ?_
    refine go_run' ttok 2 rfl (go_nil nd (then_norm ?_))
    refine awp_cond (b := (!iv)) rfl (fun c11 => ?_) (fun c11 => ?_)
    ·replace h := of_bif_t h c11
     refine awp_seq (awp_go hmix (go_run' ttok 3 rfl (go_nil nd (then_norm (awp_ret (then_ret ?_))))))
     have e12 := of_some h
     subst e12
     refine ret_ret ?_
     refine fin0 ttok rfl rfl ?_
     exact ⟨⟨(wkP_refl _ rfl), (wkP_refl _ rfl), (wkP_refl _ rfl), (wkP_refl _ rfl), (wkP_refl _ rfl), wkP_nilm, wkP_nilm, (wkP_refl _ rfl), (wkP_refl _ rfl), (wkP_refl _ rfl), (wkP_refl _ rfl), (wkP_refl _ rfl), wkP_nilm, wkP_nilm, trivial⟩, (wkP_refl _ rfl), trivial⟩
    ·replace h := of_bif_f h c11
     refine awp_skip (then_norm (awp_seq (awp_go hmix (go_run' ttok 1 rfl ?_))))
     obtain ⟨gv, hv13, h⟩ := of_let h
     refine go_call fn28 (product_Green_w p gv hv13) rfl rfl rfl rfl rfl rfl rfl ?_
     refine go_run' ttok 5 rfl (go_nil nd (then_norm (awp_seq (awp_go hmix (go_run' ttok 17 rfl (go_nil nd (then_norm ?_)))))))
     obtain ⟨y, hx14, h⟩ := of_obind h
     refine awp_seqJ (X := Unit) [0, 1, 6, 7, 8] [6, 7, 8] (fun _ => []) (fun _ => []) (fun w => Sum.inr w = y) rfl rfl ?_ ?_
     ·skip
      refine awp_seq (awp_go hmix (go_run' ttok 4 rfl ?_))
      refine go_step rfl (as_neArr2 Tryz.underlying67 ty3_ok rfl rfl (by kernel_rfl) rfl rfl rfl) rfl rfl rfl ?_
      refine go_run' ttok 1 rfl ?_
      refine go_gcase rfl rfl rfl (fun g16 => ?_) (fun g16 => ?_)
      ·rw [g16]
       replace hx14 := of_bif_t hx14 g16
       refine go_run' ttok 4 rfl ?_
       refine go_step rfl (as_neArr2 Tryz.underlying67 ty3_ok rfl rfl (by kernel_rfl) rfl rfl rfl) rfl rfl rfl ?_
       refine go_run' ttok 1 rfl (go_nil nd (then_norm ?_))
       refine awp_cond (b := (!((W64 (vr.X.b - vr.X.a)) == gv.2 && ((W64 (vr.Y.b - vr.Y.a)) == gv.1 && true)))) rfl (fun c17 => ?_) (fun c17 => ?_)
       ·replace hx14 := of_bif_t hx14 c17
        refine awp_seq (awp_go hmix (go_run' ttok 3 rfl (go_nil nd (then_norm (awp_ret ?_)))))
        obtain ⟨t, hn18, hq⟩ := of_mapl' hx14
        subst hq
        have hq := of_inl h
        replace hq := of_some hq
        subst hq
        refine then_ret ?_
        have e19 := of_some hn18
        subst e19
        refine ret_ret ?_
        refine fin0 ttok rfl rfl ?_
        exact ⟨⟨(wkP_refl _ rfl), (wkP_refl _ rfl), (wkP_refl _ rfl), (wkP_refl _ rfl), (wkP_refl _ rfl), wkP_nilm, wkP_nilm, (wkP_refl _ rfl), (wkP_refl _ rfl), (wkP_refl _ rfl), (wkP_refl _ rfl), (wkP_refl _ rfl), wkP_nilm, wkP_nilm, trivial⟩, (wkP_refl _ rfl), trivial⟩
       ·replace hx14 := of_bif_f hx14 c17
        refine awp_skip ?_
        have e20 := of_some hx14
        refine then_norm ⟨rfl, (), [(6, some 6), (7, some 7), (8, some 8)], ⟨rfl, rfl, rfl, rfl, rfl, trivial, trivial⟩, e20⟩
      ·rw [g16]
       replace hx14 := of_bif_f hx14 g16
       refine go_run' ttok 6 rfl (go_nil nd (then_norm ?_))
       refine awp_cond rfl (fun h => by cases h) (fun tt0 => ?_)
       clear tt0
       refine awp_skip ?_
       have e21 := of_some hx14
       refine then_norm ⟨rfl, (), [(6, some 6), (7, some 7), (8, some 8)], ⟨rfl, rfl, rfl, rfl, rfl, trivial, trivial⟩, e21⟩
     ·intro w hw15
      subst hw15
      replace h := of_inr h
      refine awp_seq (awp_go hmix (go_run' ttok 3 rfl ?_))
      obtain ⟨lv, hv22, h⟩ := of_obind h
      refine go_call fn142 (solid_Length_w l lv hv22) rfl rfl rfl rfl rfl rfl rfl ?_
      refine go_run' ttok 2 rfl ?_
      obtain ⟨lv1, hv23, h⟩ := of_obind h
      refine go_call fn144 (worth_lacks_w l vr lv1 hv23) rfl rfl rfl rfl rfl rfl rfl ?_
      refine go_run' ttok 3 rfl ?_
      refine go_nil (fun _ => by kernel_rfl) ?_
      refine then_norm (awp_seq (awp_go hmix (go_run' ttok 4 rfl ?_)))
      obtain ⟨bv, hv24, h⟩ := of_let h
      refine go_callL (L := []) fn157 (worth_view__box_w (⟨p, vr, lv, lv1, []⟩ : Tworth_view) (⟨0, lv⟩ : Sp) bv hv24) rfl rfl rfl trivial ⟨⟨(wkP_refl _ rfl), (wkP_refl _ rfl), (wkP_refl _ rfl), (wkP_refl _ rfl), (wkP_refl _ rfl), (wkP_refl _ rfl), (wkP_refl _ rfl), (wkP_refl _ rfl), (wkP_refl _ rfl), (wkP_refl _ rfl), (wkP_refl _ rfl), (wkP_refl _ rfl), (wkP_refl _ rfl), wkP_nilm, trivial⟩, (wkP_refl _ rfl), trivial⟩ rfl rfl (fun h => absurd rfl h) rfl ?_
      refine go_run' ttok 2 rfl (go_nil nd (then_norm ?_))
      obtain ⟨y1, hx25, h⟩ := of_obind h
      refine awp_seqJ (X := (ByteArray × Int × Int × Int × Int × (List Int) × (List Int) × Int × Int × Int × Int × Int × (List Tworth_zone) × (List Df))) [8, 13] [8] (fun w1 => []) (fun w1 => [(990, some ⟨71, 7, w1.2.2.2.2.2.2.2.2.2.2.2.2.2.map encDf⟩), (13, some ⟨165, 14, [(.agg [(S w1.1), (I w1.2.1), (I w1.2.2.1), (I w1.2.2.2.1), (I w1.2.2.2.2.1), (encL I w1.2.2.2.2.2.1), (encL I w1.2.2.2.2.2.2.1), (I w1.2.2.2.2.2.2.2.1), (I w1.2.2.2.2.2.2.2.2.1), (I w1.2.2.2.2.2.2.2.2.2.1), (I w1.2.2.2.2.2.2.2.2.2.2.1), (I w1.2.2.2.2.2.2.2.2.2.2.2.1), (encL encTworth_zone w1.2.2.2.2.2.2.2.2.2.2.2.2.1), (.arr 990 0 w1.2.2.2.2.2.2.2.2.2.2.2.2.2.length)])]⟩)]) (fun w1 => w1 = y1) rfl rfl ?_ ?_
      ·skip
       refine awp_seq (awp_go hmix (go_run' ttok 1 rfl ?_))
       refine go_lenT encDf d ttok rfl rfl rfl rfl rfl rfl ?_
       refine go_run' ttok 1 rfl (go_nil nd (then_norm (awp_block ?_)))
       refine awp_loopD (X := (Int × ByteArray × Int × Int × Int × Int × (List Int) × (List Int) × Int × Int × Int × Int × Int × (List Tworth_zone) × (List Df))) (Y := (ByteArray × Int × Int × Int × Int × (List Int) × (List Int) × Int × Int × Int × Int × Int × (List Tworth_zone) × (List Df))) [8, 13, 14, 83, 84] [8, 14] (fun q => [(85, (I q.1))]) (fun q => [(990, some ⟨71, 7, q.2.2.2.2.2.2.2.2.2.2.2.2.2.2.map encDf⟩), (13, some ⟨165, 14, [(.agg [(S q.2.1), (I q.2.2.1), (I q.2.2.2.1), (I q.2.2.2.2.1), (I q.2.2.2.2.2.1), (encL I q.2.2.2.2.2.2.1), (encL I q.2.2.2.2.2.2.2.1), (I q.2.2.2.2.2.2.2.2.1), (I q.2.2.2.2.2.2.2.2.2.1), (I q.2.2.2.2.2.2.2.2.2.2.1), (I q.2.2.2.2.2.2.2.2.2.2.2.1), (I q.2.2.2.2.2.2.2.2.2.2.2.2.1), (encL encTworth_zone q.2.2.2.2.2.2.2.2.2.2.2.2.2.1), (.arr 990 0 q.2.2.2.2.2.2.2.2.2.2.2.2.2.2.length)])]⟩)]) (fun q => worth_look_s1 d bv q.1 q.2.1 q.2.2.1 q.2.2.2.1 q.2.2.2.2.1 q.2.2.2.2.2.1 q.2.2.2.2.2.2.1 q.2.2.2.2.2.2.2.1 q.2.2.2.2.2.2.2.2.1 q.2.2.2.2.2.2.2.2.2.1 q.2.2.2.2.2.2.2.2.2.2.1 q.2.2.2.2.2.2.2.2.2.2.2.1 q.2.2.2.2.2.2.2.2.2.2.2.2.1 q.2.2.2.2.2.2.2.2.2.2.2.2.2.1 q.2.2.2.2.2.2.2.2.2.2.2.2.2.2) (0, p.Name, p.Thick, p.Width, p.Allow, p.Wane, p.Lengths, p.Prices, vr.X.a, vr.X.b, vr.Y.a, vr.Y.b, lv, lv1, []) [(990, none), (13, some 13), (8, some 8), (14, some 14)] hx25 ⟨rfl, rfl, rfl, rfl, rfl, ⟨wkP_id _ rfl, trivial⟩, ⟨rfl, ⟨_, rfl, rfl, rfl, .inr ⟨⟨⟨wkP_id _ rfl, wkP_id _ rfl, wkP_id _ rfl, wkP_id _ rfl, wkP_id _ rfl, wkP_id _ rfl, wkP_id _ rfl, wkP_id _ rfl, wkP_id _ rfl, wkP_id _ rfl, wkP_id _ rfl, wkP_id _ rfl, wkP_id _ rfl, ⟨rfl, rfl, (by first | rfl | (simp [setI]; done) | omega | (dsimp only; omega) | (simp [setI]; omega))⟩, trivial⟩, trivial⟩, ⟨rfl, trivial⟩⟩⟩, trivial⟩⟩ (fun x vR vz hz27 hk28 => ?_)
       obtain ⟨vv14, vv15, vv16, vv17, vv18, vv19, vv20, vv21, vv22, vv23, vv24, vv25, vv26, vv27, vv28⟩ := x
       change worth_look_s1 d bv vv14 vv15 vv16 vv17 vv18 vv19 vv20 vv21 vv22 vv23 vv24 vv25 vv26 vv27 vv28 = _ at hz27
       unfold worth_look_s1 at hz27
       refine awp_seq (awp_go hmix (go_run' ttok 1 rfl (go_nil nd (then_norm (awp_seq ?_)))))
       refine awp_cond (b := (decide (vv14 < ((d.length : Nat) : Int)))) rfl (fun c29 => ?_) (fun c29 => ?_)
       ·replace hz27 := of_bif_t hz27 c29
        refine awp_skip (then_norm (awp_seq (awp_block (awp_seq (awp_go hmix ?_)))))
        obtain ⟨e, hv30, hz27⟩ := of_obind hz27
        refine go_indexT encDf d vv14 e hv30 ttok rfl rfl rfl rfl rfl rfl rfl rfl rfl ?_
        refine go_run' ttok 3 rfl (go_nil nd (then_norm (awp_seq (awp_go hmix (go_run' ttok 2 rfl ?_)))))
        refine go_call fn158 (defect_Touches_w e bv _ rfl) rfl rfl rfl rfl rfl rfl rfl ?_
        refine go_nil nd (then_norm ?_)
        refine awp_cond (b := (defect_Touches_g e bv)) rfl (fun c31 => ?_) (fun c31 => ?_)
        ·replace hz27 := of_bif_t hz27 c31
         refine awp_go hmix (go_run' ttok 4 rfl ?_)
         obtain ⟨l1, hv32, hz27⟩ := of_obind hz27
         refine go_appT encDf vv28 ([e]) l1 hv32 (fun _ => rfl) (by first | rfl | (simp [setI]; done) | omega | (dsimp only; omega) | (simp [setI]; omega)) (by first | rfl | (simp [setI]; done) | omega | (dsimp only; omega) | (simp [setI]; omega)) ttok rfl rfl rfl rfl rfl rfl rfl rfl rfl rfl rfl rfl rfl rfl rfl rfl rfl ?_
         refine go_run' ttok 2 rfl (go_nil nd (block_norm (then_norm (awp_go hmix (go_run' ttok 2 rfl (go_nil nd ?_))))))
         have e33 := of_some hz27
         subst e33
         refine then_norm ⟨rfl, ((W64 (vv14 + 1)), vv15, vv16, vv17, vv18, vv19, vv20, vv21, vv22, vv23, vv24, vv25, vv26, vv27, l1), [(990, some 96), (13, some 13), (8, some 8), (14, some 14)], ⟨rfl, rfl, rfl, rfl, rfl, ⟨wkP_id _ rfl, trivial⟩, ⟨⟨_, rfl, rfl, rfl, wkX_map (enc := encDf) l1 (fun _ => rfl)⟩, ⟨_, rfl, rfl, rfl, .inr ⟨⟨⟨wkP_id _ rfl, wkP_id _ rfl, wkP_id _ rfl, wkP_id _ rfl, wkP_id _ rfl, wkP_id _ rfl, wkP_id _ rfl, wkP_id _ rfl, wkP_id _ rfl, wkP_id _ rfl, wkP_id _ rfl, wkP_id _ rfl, wkP_id _ rfl, ⟨rfl, rfl, (by first | rfl | (simp [setI]; done) | omega | (dsimp only; omega) | (simp [setI]; omega))⟩, trivial⟩, trivial⟩, ⟨rfl, trivial⟩⟩⟩, trivial⟩⟩, hk28⟩
        ·replace hz27 := of_bif_f hz27 c31
         refine awp_skip (block_norm (then_norm (awp_go hmix (go_run' ttok 2 rfl (go_nil nd ?_)))))
         have e34 := of_some hz27
         subst e34
         refine then_norm ⟨rfl, ((W64 (vv14 + 1)), vv15, vv16, vv17, vv18, vv19, vv20, vv21, vv22, vv23, vv24, vv25, vv26, vv27, vv28), [(990, some 990), (13, some 13), (8, some 8), (14, some 14)], ⟨rfl, rfl, rfl, rfl, rfl, ⟨wkP_id _ rfl, trivial⟩, ⟨⟨_, rfl, rfl, rfl, wkX_map (enc := encDf) vv28 (fun _ => rfl)⟩, ⟨_, rfl, rfl, rfl, .inr ⟨⟨⟨wkP_id _ rfl, wkP_id _ rfl, wkP_id _ rfl, wkP_id _ rfl, wkP_id _ rfl, wkP_id _ rfl, wkP_id _ rfl, wkP_id _ rfl, wkP_id _ rfl, wkP_id _ rfl, wkP_id _ rfl, wkP_id _ rfl, wkP_id _ rfl, ⟨rfl, rfl, (by first | rfl | (simp [setI]; done) | omega | (dsimp only; omega) | (simp [setI]; omega))⟩, trivial⟩, trivial⟩, ⟨rfl, trivial⟩⟩⟩, trivial⟩⟩, hk28⟩
       ·replace hz27 := of_bif_f hz27 c29
        refine awp_exit (then_exit ?_)
        obtain ⟨t1, hn35, hq⟩ := of_mapr' hz27
        subst hq
        have hq : t1 = _ := hk28
        subst hq
        refine then_exit (block_here ?_)
        have e36 := of_some hn35
        refine then_norm ⟨rfl, (vv15, vv16, vv17, vv18, vv19, vv20, vv21, vv22, vv23, vv24, vv25, vv26, vv27, vv28), [(990, some 990), (13, some 13), (8, some 8)], ⟨rfl, rfl, rfl, rfl, rfl, trivial, ⟨⟨_, rfl, rfl, rfl, wkX_map (enc := encDf) vv28 (fun _ => rfl)⟩, ⟨_, rfl, rfl, rfl, .inr ⟨⟨⟨wkP_id _ rfl, wkP_id _ rfl, wkP_id _ rfl, wkP_id _ rfl, wkP_id _ rfl, wkP_id _ rfl, wkP_id _ rfl, wkP_id _ rfl, wkP_id _ rfl, wkP_id _ rfl, wkP_id _ rfl, wkP_id _ rfl, wkP_id _ rfl, ⟨rfl, rfl, (by first | rfl | (simp [setI]; done) | omega | (dsimp only; omega) | (simp [setI]; omega))⟩, trivial⟩, trivial⟩, ⟨rfl, trivial⟩⟩⟩, trivial⟩⟩, e36⟩
      ·intro w1 hw26
       subst hw26
       obtain ⟨vv, vv1, vv2, vv3, vv4, vv5, vv6, vv7, vv8, vv9, vv10, vv11, vv12, vv13⟩ := w1
       refine awp_seq (awp_go hmix (go_run' ttok 3 rfl (go_nil nd (then_norm ?_))))
       refine awp_freezeM [8, 9] [] [(990, some ⟨71, 7, vv13.map encDf⟩)] [(8, some 8)] [] [(8, some ⟨165, 14, [(.agg [(S vv), (I vv1), (I vv2), (I vv3), (I vv4), (encL I vv5), (encL I vv6), (I vv7), (I vv8), (I vv9), (I vv10), (I vv11), (encL encTworth_zone vv12), (encL encDf vv13)])]⟩)] rfl rfl rfl rfl rfl ⟨rfl, by decide, trivial⟩ trivial ⟨⟨_, rfl, rfl, rfl, .inr ⟨⟨⟨(wkP_id _ rfl), (wkP_id _ rfl), (wkP_id _ rfl), (wkP_id _ rfl), (wkP_id _ rfl), (wkP_id _ rfl), (wkP_id _ rfl), (wkP_id _ rfl), (wkP_id _ rfl), (wkP_id _ rfl), (wkP_id _ rfl), (wkP_id _ rfl), (wkP_id _ rfl), (wkP_lend rfl (by first | rfl | (simp [setI]; done) | omega | (dsimp only; omega) | (simp [setI]; omega)) (fun _ => rfl)), trivial⟩, trivial⟩, ⟨rfl, trivial⟩⟩⟩, trivial⟩ ?_
       refine awp_ret ?_
       have e37 := of_some h
       subst e37
       refine ret_ret ?_
       refine fin0 ttok rfl rfl ?_
       exact wkP_refl _ rfl
noncomputable def product_Price_s1 (p : TProduct) (length : Int) (vv : Int) : Option (Int ⊕ ((Int × Bool) ⊕ Unit)) :=
 (bif (decide (vv < ((p.Lengths.length : Nat) : Int))) then (Option.bind (getI p.Lengths vv) (fun e => (bif (e != length) then some (Sum.inl (W64 (vv + 1))) else (bif (decide (((p.Prices.length : Nat) : Int) ≤ vv)) then some (Sum.inr (Sum.inl (0, false))) else (Option.bind (getI p.Prices vv) (fun e1 => some (Sum.inr (Sum.inl (e1, true))))))))) else some (Sum.inr (Sum.inr ())))
noncomputable def product_Price_g (p : TProduct) (length : Int) : Option (Int × Bool) :=
 (Option.bind ((loopO (fun q => product_Price_s1 p length q) 0) : Option ((Int × Bool) ⊕ Unit)) (Sum.elim (fun q => some q) (fun _ => some (0, false))))
theorem product_Price_w (p : TProduct) (length : Int) (r : (Int × Bool)) (h : product_Price_g p length = some r) : Holds Tryz.prog 159 [(encTProduct p), (I length)] [] (.tup [(I r.1), (B r.2)]) [] := by
 unfold product_Price_g at h
 refine holds_fn Tryz.func159 rfl Tryz.ntmps159 rfl rfl rfl (fun lim => ?_)
 refine awp_seq (awp_go hmix (go_run' ttok 3 rfl (go_nil nd (then_norm ?_))))
 obtain ⟨y, hx1, h⟩ := of_obind h
 refine awp_seqJ (X := Unit) [] [] (fun _ => []) (fun _ => []) (fun w => Sum.inr w = y) rfl rfl ?_ ?_
 ·skip
  refine awp_seq (awp_go hmix (go_run' ttok 2 rfl ?_))
  refine go_lenT I p.Lengths ttok rfl rfl rfl rfl rfl rfl ?_
  refine go_run' ttok 1 rfl (go_nil nd (then_norm (awp_block ?_)))
  refine awp_loopD (X := Int) (Y := ((Int × Bool) ⊕ Unit)) [1, 2, 9, 10] [2] (fun q => [(11, (I q))]) (fun q => []) (fun q => product_Price_s1 p length q) 0 [(2, some 2)] hx1 ⟨rfl, rfl, rfl, rfl, rfl, ⟨wkP_id _ rfl, trivial⟩, trivial⟩ (fun vv vR vz hz3 hk4 => ?_)
  change product_Price_s1 p length vv = _ at hz3
  unfold product_Price_s1 at hz3
  refine awp_seq (awp_go hmix (go_run' ttok 1 rfl (go_nil nd (then_norm (awp_seq ?_)))))
  refine awp_cond (b := (decide (vv < ((p.Lengths.length : Nat) : Int)))) rfl (fun c5 => ?_) (fun c5 => ?_)
  ·replace hz3 := of_bif_t hz3 c5
   refine awp_skip (then_norm (awp_seq (awp_block (awp_seq (awp_go hmix (go_run' ttok 1 rfl ?_))))))
   obtain ⟨e, hv6, hz3⟩ := of_obind hz3
   refine go_indexT I p.Lengths vv e hv6 ttok rfl rfl rfl rfl rfl rfl rfl rfl rfl ?_
   refine go_run' ttok 3 rfl (go_nil nd (then_norm (awp_seq (awp_seq (awp_go hmix (go_run' ttok 3 rfl (go_nil nd (then_norm ?_))))))))
   refine awp_cond (b := (e != length)) rfl (fun c7 => ?_) (fun c7 => ?_)
   ·replace hz3 := of_bif_t hz3 c7
    refine awp_exit (then_exit (block_here (then_norm (awp_go hmix (go_run' ttok 2 rfl (go_nil nd ?_))))))
    have e8 := of_some hz3
    subst e8
    refine then_norm ⟨rfl, (W64 (vv + 1)), [(2, some 2)], ⟨rfl, rfl, rfl, rfl, rfl, ⟨wkP_id _ rfl, trivial⟩, trivial⟩, hk4⟩
   ·replace hz3 := of_bif_f hz3 c7
    refine awp_skip (then_norm (awp_seq (awp_seq (awp_go hmix (go_run' ttok 3 rfl ?_)))))
    refine go_lenT I p.Prices ttok rfl rfl rfl rfl rfl rfl ?_
    refine go_run' ttok 1 rfl (go_nil nd (then_norm ?_))
    refine awp_cond (b := (decide (((p.Prices.length : Nat) : Int) ≤ vv))) rfl (fun c9 => ?_) (fun c9 => ?_)
    ·replace hz3 := of_bif_t hz3 c9
     refine awp_seq (awp_go hmix (go_run' ttok 2 rfl (go_nil nd (then_norm (awp_ret (then_ret (block_ret (then_ret ?_))))))))
     obtain ⟨t, hn10, hq⟩ := of_mapr' hz3
     subst hq
     have hq : t = _ := hk4
     subst hq
     refine then_ret (block_ret ?_)
     obtain ⟨t1, hn11, hq⟩ := of_mapl' hn10
     subst hq
     have hq := of_inl h
     replace hq := of_some hq
     subst hq
     refine then_ret ?_
     have e12 := of_some hn11
     subst e12
     refine ret_ret ?_
     refine fin0 ttok rfl rfl ?_
     exact wkP_refl _ rfl
    ·replace hz3 := of_bif_f hz3 c9
     refine awp_skip (then_norm (awp_seq (awp_go hmix (go_run' ttok 3 rfl ?_))))
     obtain ⟨e1, hv13, hz3⟩ := of_obind hz3
     refine go_indexT I p.Prices vv e1 hv13 ttok rfl rfl rfl rfl rfl rfl rfl rfl rfl ?_
     refine go_run' ttok 3 rfl (go_nil nd (then_norm (awp_ret (block_ret (then_ret ?_)))))
     obtain ⟨t2, hn14, hq⟩ := of_mapr' hz3
     subst hq
     have hq : t2 = _ := hk4
     subst hq
     refine then_ret (block_ret ?_)
     obtain ⟨t3, hn15, hq⟩ := of_mapl' hn14
     subst hq
     have hq := of_inl h
     replace hq := of_some hq
     subst hq
     refine then_ret ?_
     have e16 := of_some hn15
     subst e16
     refine ret_ret ?_
     refine fin0 ttok rfl rfl ?_
     exact wkP_refl _ rfl
  ·replace hz3 := of_bif_f hz3 c5
   refine awp_exit (then_exit ?_)
   obtain ⟨t4, hn17, hq⟩ := of_mapr' hz3
   subst hq
   have hq : t4 = _ := hk4
   subst hq
   refine then_exit (block_here ?_)
   have e18 := of_some hn17
   refine then_norm ⟨rfl, (), [], ⟨rfl, rfl, rfl, rfl, rfl, trivial, trivial⟩, e18⟩
 ·intro w hw2
  subst hw2
  replace h := of_inr h
  refine awp_seq (awp_go hmix (go_run' ttok 2 rfl (go_nil nd (then_norm (awp_ret ?_)))))
  have e19 := of_some h
  subst e19
  refine ret_ret ?_
  refine fin0 ttok rfl rfl ?_
  exact wkP_refl _ rfl
noncomputable def worth_view__worth_s1 (vv : Tworth_view) (fine : Int) (bv : Bx) (worth1 : Int) (vv1 : Int) : Option ((Int × Int) ⊕ ((Int × Bool) ⊕ Int)) :=
 (bif (decide (vv1 < ((vv.defects.length : Nat) : Int))) then (Option.bind (getI vv.defects vv1) (fun e => (bif (!(defect_Touches_g e bv)) then some (Sum.inl (worth1, (W64 (vv1 + 1)))) else (bif (e.k == 3) then some (Sum.inr (Sum.inl (0, false))) else some (Sum.inl ((W64 (worth1 - fine)), (W64 (vv1 + 1)))))))) else some (Sum.inr (Sum.inr worth1)))
noncomputable def worth_view__worth_g (vv : Tworth_view) (vz : Sp) (fine : Int) : Option (Int × Bool) :=
 (bif (!(worth_isWithin_g vz vv.length)) then some (0, false) else (Option.bind (product_Price_g vv.product (W64 (vz.b - vz.a))) (fun pv => (bif (!pv.2) then some (0, false) else (Option.bind (worth_worst_g vv.zones vz) (fun wv => (bif (decide (vv.product.Wane < wv)) then some (0, false) else (letB (worth_view__box_g vv vz) (fun bv => (Option.bind ((loopO (fun q => worth_view__worth_s1 vv fine bv q.1 q.2) (pv.1, 0)) : Option ((Int × Bool) ⊕ Int)) (Sum.elim (fun q => some q) (fun worth => some ((max worth 0), true)))))))))))))
theorem worth_view__worth_w (vv : Tworth_view) (vz : Sp) (fine : Int) (r : (Int × Bool)) (h : worth_view__worth_g vv vz fine = some r) : Holds Tryz.prog 125 [(encTworth_view vv), (encSp vz), (I fine)] [] (.tup [(I r.1), (B r.2)]) [] := by
 unfold worth_view__worth_g at h
 refine holds_fn Tryz.func125 rfl Tryz.ntmps125 rfl rfl rfl (fun lim => ?_)
 refine awp_seq (awp_go hmix (go_run' ttok 4 rfl (go_nil nd (then_norm (awp_seq (awp_seq (awp_go hmix (go_run' ttok 3 rfl ?_))))))))
 refine go_call fn141 (worth_isWithin_w vz vv.length _ rfl) rfl rfl rfl rfl rfl rfl rfl ?_
 refine go_run' ttok 1 rfl (go_nil nd (then_norm ?_))
 refine awp_cond (b := (!(worth_isWithin_g vz vv.length))) rfl (fun c1 => ?_) (fun c1 => ?_)
 ·replace h := of_bif_t h c1
  refine awp_seq (awp_go hmix (go_run' ttok 2 rfl (go_nil nd (then_norm (awp_ret (then_ret ?_))))))
  have e2 := of_some h
  subst e2
  refine ret_ret ?_
  refine fin0 ttok rfl rfl ?_
  exact wkP_refl _ rfl
 ·replace h := of_bif_f h c1
  refine awp_skip (then_norm (awp_seq (awp_go hmix (go_run' ttok 7 rfl ?_))))
  obtain ⟨pv, hv3, h⟩ := of_obind h
  refine go_call fn159 (product_Price_w vv.product (W64 (vz.b - vz.a)) pv hv3) rfl rfl rfl rfl rfl rfl rfl ?_
  refine go_run' ttok 5 rfl (go_nil nd (then_norm (awp_seq (awp_seq (awp_go hmix (go_run' ttok 3 rfl ?_))))))
  refine go_gcase rfl rfl rfl (fun g4 => ?_) (fun g4 => ?_)
  ·rw [g4]
   replace h := of_bif_t h g4
   refine go_run' ttok 9 rfl ?_
   refine go_nil (fun _ => by kernel_rfl) ?_
   refine then_norm ?_
   refine awp_cond rfl (fun tt0 => ?_) (fun h => by cases h)
   clear tt0
   refine awp_seq (awp_go hmix (go_run' ttok 2 rfl (go_nil nd (then_norm (awp_ret (then_ret ?_))))))
   have e5 := of_some h
   subst e5
   refine ret_ret ?_
   refine fin0 ttok rfl rfl ?_
   exact wkP_refl _ rfl
  ·rw [g4]
   replace h := of_bif_f h g4
   refine go_run' ttok 3 rfl ?_
   obtain ⟨wv, hv6, h⟩ := of_obind h
   refine go_call fn143 (worth_worst_w vv.zones vz wv hv6) rfl rfl rfl rfl rfl rfl rfl ?_
   refine go_run' ttok 5 rfl ?_
   refine go_nil (fun _ => by kernel_rfl) ?_
   refine then_norm ?_
   refine awp_cond (b := (decide (vv.product.Wane < wv))) rfl (fun c7 => ?_) (fun c7 => ?_)
   ·replace h := of_bif_t h c7
    refine awp_seq (awp_go hmix (go_run' ttok 2 rfl (go_nil nd (then_norm (awp_ret (then_ret ?_))))))
    have e8 := of_some h
    subst e8
    refine ret_ret ?_
    refine fin0 ttok rfl rfl ?_
    exact wkP_refl _ rfl
   ·replace h := of_bif_f h c7
    refine awp_skip (then_norm (awp_seq (awp_go hmix (go_run' ttok 2 rfl ?_))))
    obtain ⟨bv, hv9, h⟩ := of_let h
    refine go_call fn157 (worth_view__box_w vv vz bv hv9) rfl rfl rfl rfl rfl rfl rfl ?_
    refine go_run' ttok 2 rfl (go_nil nd (then_norm ?_))
    obtain ⟨y, hx10, h⟩ := of_obind h
    refine awp_seqJ (X := Int) [] [] (fun w => [(8, (I w))]) (fun w => []) (fun w => Sum.inr w = y) rfl rfl ?_ ?_
    ·skip
     refine awp_seq (awp_go hmix (go_run' ttok 2 rfl ?_))
     refine go_lenT encDf vv.defects ttok rfl rfl rfl rfl rfl rfl ?_
     refine go_run' ttok 1 rfl (go_nil nd (then_norm (awp_block ?_)))
     refine awp_loopD (X := (Int × Int)) (Y := ((Int × Bool) ⊕ Int)) [2, 10, 45, 46] [10] (fun q => [(8, (I q.1)), (47, (I q.2))]) (fun q => []) (fun q => worth_view__worth_s1 vv fine bv q.1 q.2) (pv.1, 0) [(10, some 10)] hx10 ⟨rfl, rfl, rfl, rfl, rfl, ⟨wkP_id _ rfl, wkP_id _ rfl, trivial⟩, trivial⟩ (fun x vR vz1 hz12 hk13 => ?_)
     obtain ⟨worth1, vv1⟩ := x
     change worth_view__worth_s1 vv fine bv worth1 vv1 = _ at hz12
     unfold worth_view__worth_s1 at hz12
     refine awp_seq (awp_go hmix (go_run' ttok 1 rfl (go_nil nd (then_norm (awp_seq ?_)))))
     refine awp_cond (b := (decide (vv1 < ((vv.defects.length : Nat) : Int)))) rfl (fun c14 => ?_) (fun c14 => ?_)
     ·replace hz12 := of_bif_t hz12 c14
      refine awp_skip (then_norm (awp_seq (awp_block (awp_seq (awp_go hmix ?_)))))
      obtain ⟨e, hv15, hz12⟩ := of_obind hz12
      refine go_indexT encDf vv.defects vv1 e hv15 ttok rfl rfl rfl rfl rfl rfl rfl rfl rfl ?_
      refine go_run' ttok 3 rfl (go_nil nd (then_norm (awp_seq (awp_seq (awp_go hmix (go_run' ttok 2 rfl ?_))))))
      refine go_call fn158 (defect_Touches_w e bv _ rfl) rfl rfl rfl rfl rfl rfl rfl ?_
      refine go_run' ttok 1 rfl (go_nil nd (then_norm ?_))
      refine awp_cond (b := (!(defect_Touches_g e bv))) rfl (fun c16 => ?_) (fun c16 => ?_)
      ·replace hz12 := of_bif_t hz12 c16
       refine awp_exit (then_exit (block_here (then_norm (awp_go hmix (go_run' ttok 2 rfl (go_nil nd ?_))))))
       have e17 := of_some hz12
       subst e17
       refine then_norm ⟨rfl, (worth1, (W64 (vv1 + 1))), [(10, some 10)], ⟨rfl, rfl, rfl, rfl, rfl, ⟨wkP_id _ rfl, wkP_id _ rfl, trivial⟩, trivial⟩, hk13⟩
      ·replace hz12 := of_bif_f hz12 c16
       refine awp_skip (then_norm (awp_seq (awp_seq (awp_go hmix (go_run' ttok 3 rfl (go_nil nd (then_norm ?_)))))))
       refine awp_cond (b := (e.k == 3)) rfl (fun c18 => ?_) (fun c18 => ?_)
       ·replace hz12 := of_bif_t hz12 c18
        refine awp_seq (awp_go hmix (go_run' ttok 2 rfl (go_nil nd (then_norm (awp_ret (then_ret (block_ret (then_ret ?_))))))))
        obtain ⟨t, hn19, hq⟩ := of_mapr' hz12
        subst hq
        have hq : t = _ := hk13
        subst hq
        refine then_ret (block_ret ?_)
        obtain ⟨t1, hn20, hq⟩ := of_mapl' hn19
        subst hq
        have hq := of_inl h
        replace hq := of_some hq
        subst hq
        refine then_ret ?_
        have e21 := of_some hn20
        subst e21
        refine ret_ret ?_
        refine fin0 ttok rfl rfl ?_
        exact wkP_refl _ rfl
       ·replace hz12 := of_bif_f hz12 c18
        refine awp_skip (then_norm (awp_go hmix (go_run' ttok 4 rfl (go_nil nd (block_norm (then_norm (awp_go hmix (go_run' ttok 2 rfl (go_nil nd ?_)))))))))
        have e22 := of_some hz12
        subst e22
        refine then_norm ⟨rfl, ((W64 (worth1 - fine)), (W64 (vv1 + 1))), [(10, some 10)], ⟨rfl, rfl, rfl, rfl, rfl, ⟨wkP_id _ rfl, wkP_id _ rfl, trivial⟩, trivial⟩, hk13⟩
     ·replace hz12 := of_bif_f hz12 c14
      refine awp_exit (then_exit ?_)
      obtain ⟨t2, hn23, hq⟩ := of_mapr' hz12
      subst hq
      have hq : t2 = _ := hk13
      subst hq
      refine then_exit (block_here ?_)
      have e24 := of_some hn23
      refine then_norm ⟨rfl, worth1, [], ⟨rfl, rfl, rfl, rfl, rfl, ⟨wkP_id _ rfl, trivial⟩, trivial⟩, e24⟩
    ·intro worth hw11
     subst hw11
     replace h := of_inr h
     refine awp_seq (awp_go hmix (go_run' ttok 4 rfl (go_nil nd (then_norm (awp_ret ?_)))))
     have e25 := of_some h
     subst e25
     refine ret_ret ?_
     refine fin0 ttok rfl rfl ?_
     exact wkP_refl _ rfl
noncomputable def worth_Worth_g (l : (List TSlice)) (d : (List Df)) (p : TProduct) (b : Bx) (fine : Int) : Option (Int × Bool) :=
 (bif (!(worth_isFine_g fine)) then some (0, false) else (Option.bind (worth_look_g l d p (⟨b.x, b.y⟩ : TRect)) (fun lv => (bif (!lv.2) then some (0, false) else (Option.bind (worth_view__worth_g lv.1 b.z fine) (fun wv => some (wv.1, wv.2)))))))
theorem worth_Worth_w (l : (List TSlice)) (d : (List Df)) (p : TProduct) (b : Bx) (fine : Int) (r : (Int × Bool)) (h : worth_Worth_g l d p b fine = some r) : Holds Tryz.prog 75 [((encL encTSlice) l), ((encL encDf) d), (encTProduct p), (encBx b), (I fine)] [] (.tup [(I r.1), (B r.2)]) [] := by
 unfold worth_Worth_g at h
 refine holds_fn Tryz.func75 rfl Tryz.ntmps75 rfl rfl rfl (fun lim => ?_)
 refine awp_seq (awp_go hmix (go_run' ttok 4 rfl (go_nil nd (then_norm (awp_seq (awp_seq (awp_go hmix (go_run' ttok 1 rfl ?_))))))))
 refine go_call fn123 (worth_isFine_w fine _ rfl) rfl rfl rfl rfl rfl rfl rfl ?_
 refine go_run' ttok 1 rfl (go_nil nd (then_norm ?_))
 refine awp_cond (b := (!(worth_isFine_g fine))) rfl (fun c1 => ?_) (fun c1 => ?_)
 ·replace h := of_bif_t h c1
  refine awp_seq (awp_go hmix (go_run' ttok 2 rfl (go_nil nd (then_norm (awp_ret (then_ret ?_))))))
  have e2 := of_some h
  subst e2
  refine ret_ret ?_
  refine fin0 ttok rfl rfl ?_
  exact wkP_refl _ rfl
 ·replace h := of_bif_f h c1
  refine awp_skip (then_norm (awp_seq (awp_go hmix (go_run' ttok 8 rfl ?_))))
  obtain ⟨lv, hv3, h⟩ := of_obind h
  refine go_call fn124 (worth_look_w l d p (⟨b.x, b.y⟩ : TRect) lv hv3) rfl rfl rfl rfl rfl rfl rfl ?_
  refine go_run' ttok 6 rfl (go_nil nd (then_norm (awp_seq (awp_seq (awp_go hmix (go_run' ttok 2 rfl (go_nil nd (then_norm ?_))))))))
  refine awp_cond (b := (!lv.2)) rfl (fun c4 => ?_) (fun c4 => ?_)
  ·replace h := of_bif_t h c4
   refine awp_seq (awp_go hmix (go_run' ttok 2 rfl (go_nil nd (then_norm (awp_ret (then_ret ?_))))))
   have e5 := of_some h
   subst e5
   refine ret_ret ?_
   refine fin0 ttok rfl rfl ?_
   exact wkP_refl _ rfl
  ·replace h := of_bif_f h c4
   refine awp_skip (then_norm (awp_seq (awp_go hmix (go_run' ttok 4 rfl ?_))))
   obtain ⟨wv, hv6, h⟩ := of_obind h
   refine go_call fn125 (worth_view__worth_w lv.1 b.z fine wv hv6) rfl rfl rfl rfl rfl rfl rfl ?_
   refine go_run' ttok 4 rfl (go_nil nd (then_norm (awp_ret ?_)))
   have e7 := of_some h
   subst e7
   refine ret_ret ?_
   refine fin0 ttok rfl rfl ?_
   exact wkP_refl _ rfl
noncomputable def worth_Accept_g (l : (List TSlice)) (d : (List Df)) (p : TProduct) (b : Bx) : Option Bool :=
 (Option.bind (worth_Worth_g l d p b 0) (fun wv => some wv.2))
theorem worth_Accept_w (l : (List TSlice)) (d : (List Df)) (p : TProduct) (b : Bx) (r : Bool) (h : worth_Accept_g l d p b = some r) : Holds Tryz.prog 23 [((encL encTSlice) l), ((encL encDf) d), (encTProduct p), (encBx b)] [] (B r) [] := by
 unfold worth_Accept_g at h
 refine holds_fn Tryz.func23 rfl Tryz.ntmps23 rfl rfl rfl (fun lim => ?_)
 refine awp_seq (awp_go hmix (go_run' ttok 3 rfl (go_nil nd (then_norm (awp_seq (awp_go hmix (go_run' ttok 4 rfl ?_)))))))
 obtain ⟨wv, hv1, h⟩ := of_obind h
 refine go_call fn75 (worth_Worth_w l d p b 0 wv hv1) rfl rfl rfl rfl rfl rfl rfl ?_
 refine go_run' ttok 5 rfl (go_nil nd (then_norm (awp_seq (awp_go hmix (go_run' ttok 2 rfl (go_nil nd (then_norm (awp_ret ?_))))))))
 have e2 := of_some h
 subst e2
 refine ret_ret ?_
 refine fin0 ttok rfl rfl ?_
 exact (wkP_refl _ rfl)
end Go.Proofs.YtpoehckffpbfiaaGreat
